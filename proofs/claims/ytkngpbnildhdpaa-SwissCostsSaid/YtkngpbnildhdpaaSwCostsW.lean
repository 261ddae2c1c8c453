/- SwissCosts: the walk. -/
import Derived.Test.YtkngpbnildhdpaaSwD
import Derived.Test.YtkngpbnildhdpaaApRd
import Derived.BigQuiet
import Derived.Deep.Cut
import Derived.Deep.CutRange
import Derived.Deep.QuietTactic
import Derived.RegionTactic
namespace Go.Proofs.Ytkngpbnildhdpaa.swissCosts
open Go.ChangeShapes Go.WideShapes Go.ChangeAt Go.RowKit
set_option linter.unusedVariables false

theorem metN_of {ps : List SwP} {i : Nat} {j : Int} (h : ∀ k, k < (plAt ps i).opp.length → (plAt ps i).opp.getD k 0 ≠ j) : metN ps i j = 0 := by
  unfold metN
  rw [List.length_eq_zero_iff, List.filter_eq_nil_iff]
  intro z hz hzj
  obtain ⟨k, hk, e⟩ := List.getElem_of_mem hz
  refine h k hk ?_
  rw [List.getD_eq_getElem?_getD, List.getElem?_eq_getElem hk]
  simpa [e] using hzj
theorem Whole_keep {w w' : World} {b : Nat} {cs : List Value} {t : TypeId} (h : Box w b cs t) (hb : Below w.heap.size w w') : Box w' b cs t := h.stays hb
theorem sumG_b (ps : List SwP) (W : List Int) (hs : ∀ i, i < ps.length → Small (plAt ps i)) : ∀ l : List (Int × Int), (∀ p ∈ l, GameOK ps W p) → 0 ≤ sumG ps l ∧ sumG ps l ≤ 161600 * l.length
  | [], _ => ⟨Int.le_refl _, Int.le_refl _⟩
  | p :: t, h => by
    obtain ⟨i, j, rfl, hi, hj, -⟩ := h p (List.mem_cons_self ..)
    have := sumG_b ps W hs t (fun q hq => h q (List.mem_cons_of_mem _ hq))
    have h2 := costZ_b ps i j (hs i hi) (hs j hj)
    rw [sumG, List.length_cons]
    simp only [Int.toNat_natCast]
    omega
theorem offC_b {ps : List SwP} (hs : ∀ i, i < ps.length → Small (plAt ps i)) (i : Nat) (hi : i < ps.length) : offC ps (i : Int) = 100 * (plAt ps i).score * (plAt ps i).score ∧ 0 ≤ offC ps (i : Int) ∧ offC ps (i : Int) ≤ 160000 := by
  have e : offC ps (i : Int) = 100 * (plAt ps i).score * (plAt ps i).score := by unfold offC; rw [if_pos (by omega)]; rfl
  rw [e]
  obtain ⟨⟨h1, h2⟩, -⟩ := hs i hi
  have := sq_bound (plAt ps i).score 40 (by omega) h2
  rw [Int.mul_assoc]
  exact ⟨rfl, by omega, by omega⟩

set_option maxRecDepth 100000 in
set_option maxHeartbeats 8000000 in
theorem walk (s : Value) (ps : List SwP) (a b : Int) (w : World) (h : RdS w s ps) : Calls Try.prog 4 #[s, .int .i64 a, .int .i64 b] w fun e w' => e = .returned (.bool true) ∧ Below w.heap.size w w' := by
  obtain ⟨sa, c, rfl, h1, h2⟩ := h.form
  unfold maxLen at h2
  have HRD := Lib.hid h
  clear h
  go_enter Try.func4, Try.ntmps4
  go_upto_region 4 with (go_at_call 6; refine (swisses_any w).mono ?_; rintro e w1 ⟨rfl, hb⟩; have HB1 := Lib.hid hb; clear hb)
  refine (Pair_any _ ps _ (HRD.out.below HB1.out (Nat.le_refl _))).mono ?_
  rintro e w2 ⟨hb, hp⟩
  have HB2 := Lib.hid (HB1.out.trans (hb.mono HB1.out.size))
  clear hb
  rcases hp with ⟨c, hc, -, rfl⟩ | ⟨-, -, rfl⟩ | ⟨hok, W, v, hpz, hw, hr, rfl⟩
  · go_wp2_with fail
    go_ret
    exact ⟨rfl, HB2.out⟩
  · go_wp2_with fail
    go_ret
    exact ⟨rfl, HB2.out⟩
  · obtain ⟨hn2, hn8⟩ := hok.1
    have HOK := Lib.hid hok
    have HSY := Lib.hid (sym_of ps hok)
    have HPC := Lib.hid (pair_cost HSY.out hpz)
    have HW := Lib.hid hw
    have HSm : Hid (∀ i, i < ps.length → Small (plAt ps i)) := Lib.hid (fun i hi => (hok.2.1 i hi).1)
    have HGs := Lib.hid (games_ok hw ps.length (Nat.le_refl _))
    have HF := Lib.hid (four hw)
    have HOff := Lib.hid (off_ok hw)
    have HGL := Lib.hid (outZ_len ps W ps.length)
    have hlv : (pairZ ps).2 = offC ps (offZ ps.length W ps.length) + sumG ps (outZ ps W ps.length) := by rw [HPC.out, costW_games hw]; omega
    rw [hlv]
    clear hlv hpz hok hw
    generalize outZ ps W ps.length = G at *
    generalize offZ ps.length W ps.length = off at *
    have HSB := Lib.hid (sumG_b ps W HSm.out G HGs.out)
    obtain ⟨tot, HTot⟩ : ∃ tot, Hid (tot = offC ps off + sumG ps G) := ⟨_, Lib.hid rfl⟩
    rw [← HTot.out]
    obtain ⟨ga, gc, rfl, hg1, hg2⟩ := hr.form
    unfold maxLen at hg2
    have HGR := Lib.hid hr
    have hs2 := HB2.out.size
    clear hr
    obtain ⟨g, o, rfl, hgl, -⟩ := RdS.some HRD.out (by omega)
    have HR2 := Lib.hid (HRD.out.below HB2.out (Nat.le_refl _))
    have HOB : Hid (0 ≤ offC ps off ∧ offC ps off ≤ 160000) := Lib.hid (by
      rcases HOff.out with ⟨rfl, -⟩ | ⟨i, hi, rfl, -⟩
      · exact ⟨Int.le_refl _, by show (0 : Int) ≤ 160000; omega⟩
      · exact (offC_b HSm.out i hi).2)
    go_upto_if 44 with (fail)
    go_cut [11] from 45 to 57 (fun v11 wx => v11 = .int .i64 (offC ps off) ∧ Hid (Below w2.heap.size w2 wx))
    case first =>
      rcases HOff.out with ⟨rfl, -⟩ | ⟨i, hi, rfl, -⟩
      · go_wp2_with fail
        go_meet
        exact ⟨rfl, Lib.hid (Below.refl _ _)⟩
      · obtain ⟨he, hb1, hb2⟩ := offC_b HSm.out i hi
        obtain ⟨⟨hs0, hs40⟩, -⟩ := HSm.out i hi
        have HE := Lib.hid he
        obtain ⟨g2, o2, ha, -, hpc⟩ := RdS.some HR2.out (by omega)
        cases ha
        obtain ⟨-, csc, -⟩ := hpc i hi
        clear hpc he
        have hsq : 0 ≤ 100 * (plAt ps i).score * (plAt ps i).score ∧ 100 * (plAt ps i).score * (plAt ps i).score ≤ 160000 := by rw [← HE.out]; exact ⟨hb1, hb2⟩
        clear hb1 hb2
        generalize (plAt ps i).score = sc at *
        have W1 : Hid (IntKind.i64.wrap (100 * sc) = 100 * sc) := Lib.hid (IntWalk.i64_in _ (by omega))
        have W2 : Hid (IntKind.i64.wrap (100 * sc * sc) = 100 * sc * sc) := Lib.hid (IntWalk.i64_in _ (by omega))
        have W1 := W1.out
        have W2 := W2.out
        go_upto_region 8 with (fail)
        refine wp_region_noPanic ?_
        refine beginL (S := (fun w' => w'.cell? ⟨g, o + i * 4, none⟩ = some (.int .i64 sc))) (L := []) (by kernel_rfl) csc (fun hHeld => ?_)
        refine takeW (i := 0) (oi := { dst := some 45, op := Op.move (Operand.tmp 0), type := 22, pos := "house.go:257", after := #[], guard := none }) (v := ?va1) rfl (by kernel_rfl) (by kernel_rfl) (by kernel_rfl) rfl (fun _ _ _ h => h) (Or.inl ⟨by rfl, ?ya1⟩) (fun _ => by assumption) ?ra1
        case ya1 => (intro w _; go_simp; first | done | (with_reducible rfl) | (rw [if_neg (by omega)]))
        try simp only [Act.put, List.setIfInBounds_toArray, List.set_cons_zero, List.set_cons_succ]
        refine takeW (i := 1) (oi := { dst := some 46, op := Op.move (Operand.tmp 9), type := 3, pos := "house.go:257", after := #[], guard := none }) (v := ?va2) rfl (by kernel_rfl) (by kernel_rfl) (by kernel_rfl) rfl (fun _ _ _ h => h) (Or.inl ⟨by rfl, ?ya2⟩) (fun _ => by assumption) ?ra2
        case ya2 => (intro w _; go_simp; first | done | (with_reducible rfl) | (rw [if_neg (by omega)]))
        try simp only [Act.put, List.setIfInBounds_toArray, List.set_cons_zero, List.set_cons_succ]
        refine takeW (i := 6) (oi := { dst := some 51, op := Op.move (Operand.tmp 0), type := 22, pos := "house.go:257", after := #[], guard := none }) (v := ?va3) rfl (by kernel_rfl) (by kernel_rfl) (by kernel_rfl) rfl (fun _ _ _ h => h) (Or.inl ⟨by rfl, ?ya3⟩) (fun _ => by assumption) ?ra3
        case ya3 => (intro w _; go_simp; first | done | (with_reducible rfl) | (rw [if_neg (by omega)]))
        try simp only [Act.put, List.setIfInBounds_toArray, List.set_cons_zero, List.set_cons_succ]
        refine takeW (i := 7) (oi := { dst := some 52, op := Op.move (Operand.tmp 9), type := 3, pos := "house.go:257", after := #[], guard := none }) (v := ?va4) rfl (by kernel_rfl) (by kernel_rfl) (by kernel_rfl) rfl (fun _ _ _ h => h) (Or.inl ⟨by rfl, ?ya4⟩) (fun _ => by assumption) ?ra4
        case ya4 => (intro w _; go_simp; first | done | (with_reducible rfl) | (rw [if_neg (by omega)]))
        try simp only [Act.put, List.setIfInBounds_toArray, List.set_cons_zero, List.set_cons_succ]
        refine takeW (i := 2) (oi := { dst := some 47, op := Op.indexAddr 22 (Operand.tmp 45) (Operand.tmp 46), type := 0, pos := "house.go:257", after := #[{ on := 0, ground := Ground.data }, { on := 1, ground := Ground.data }], guard := none }) (v := ?va5) rfl (by kernel_rfl) (by kernel_rfl) (by kernel_rfl) rfl (fun _ _ _ h => h) (Or.inl ⟨by rfl, ?ya5⟩) (fun _ => by assumption) ?ra5
        case ya5 => (intro w _; go_simp; first | done | (with_reducible rfl) | (rw [if_neg (by omega)]))
        try simp only [Act.put, List.setIfInBounds_toArray, List.set_cons_zero, List.set_cons_succ]
        refine takeW (i := 8) (oi := { dst := some 53, op := Op.indexAddr 22 (Operand.tmp 51) (Operand.tmp 52), type := 0, pos := "house.go:257", after := #[{ on := 6, ground := Ground.data }, { on := 7, ground := Ground.data }], guard := none }) (v := ?va6) rfl (by kernel_rfl) (by kernel_rfl) (by kernel_rfl) rfl (fun _ _ _ h => h) (Or.inl ⟨by rfl, ?ya6⟩) (fun _ => by assumption) ?ra6
        case ya6 => (intro w _; go_simp; first | done | (with_reducible rfl) | (rw [if_neg (by omega)]))
        try simp only [Act.put, List.setIfInBounds_toArray, List.set_cons_zero, List.set_cons_succ]
        refine takeW (i := 3) (oi := { dst := some 48, op := Op.fieldAddr 32 (Operand.tmp 47) 0, type := 0, pos := "house.go:257", after := #[{ on := 2, ground := Ground.data }], guard := none }) (v := ?va7) rfl (by kernel_rfl) (by kernel_rfl) (by kernel_rfl) rfl (fun _ _ _ h => h) (Or.inl ⟨by rfl, ?ya7⟩) (fun _ => by assumption) ?ra7
        case ya7 => (intro w _; go_simp; first | done | (with_reducible rfl) | (rw [if_neg (by omega)]))
        try simp only [Act.put, List.setIfInBounds_toArray, List.set_cons_zero, List.set_cons_succ]
        refine takeW (i := 9) (oi := { dst := some 54, op := Op.fieldAddr 32 (Operand.tmp 53) 0, type := 0, pos := "house.go:257", after := #[{ on := 8, ground := Ground.data }], guard := none }) (v := ?va8) rfl (by kernel_rfl) (by kernel_rfl) (by kernel_rfl) rfl (fun _ _ _ h => h) (Or.inl ⟨by rfl, ?ya8⟩) (fun _ => by assumption) ?ra8
        case ya8 => (intro w _; go_simp; first | done | (with_reducible rfl) | (rw [if_neg (by omega)]))
        try simp only [Act.put, List.setIfInBounds_toArray, List.set_cons_zero, List.set_cons_succ]
        refine takeL (i := 4) (oi := { dst := some 49, op := Op.load 3 (Operand.tmp 48), type := 3, pos := "house.go:257", after := #[{ on := 3, ground := Ground.data }], guard := none }) (v := ?va9) rfl (by kernel_rfl) (by kernel_rfl) (by kernel_rfl) (by kernel_rfl) rfl (by kernel_rfl) (by kernel_rfl) (fun _ _ _ h => h) (Or.inl ⟨by rfl, ?ya9⟩) (by assumption) ?ra9
        case ya9 => (intro w hSw; (try dsimp only at hSw); go_simp; first | done | (with_reducible rfl))
        try simp only [Act.put, List.setIfInBounds_toArray, List.set_cons_zero, List.set_cons_succ]
        refine takeL (i := 10) (oi := { dst := some 55, op := Op.load 3 (Operand.tmp 54), type := 3, pos := "house.go:257", after := #[{ on := 9, ground := Ground.data }], guard := none }) (v := ?va10) rfl (by kernel_rfl) (by kernel_rfl) (by kernel_rfl) (by kernel_rfl) rfl (by kernel_rfl) (by kernel_rfl) (fun _ _ _ h => h) (Or.inl ⟨by rfl, ?ya10⟩) (by assumption) ?ra10
        case ya10 => (intro w hSw; (try dsimp only at hSw); go_simp; first | done | (with_reducible rfl))
        try simp only [Act.put, List.setIfInBounds_toArray, List.set_cons_zero, List.set_cons_succ]
        refine takeW (i := 5) (oi := { dst := some 50, op := Op.binOp BinOp.mul 3 (Operand.const (Value.int IntKind.i64 100)) (Operand.tmp 49) 3, type := 3, pos := "house.go:257", after := #[{ on := 4, ground := Ground.data }], guard := none }) (v := ?va11) rfl (by kernel_rfl) (by kernel_rfl) (by kernel_rfl) rfl (fun _ _ _ h => h) (Or.inl ⟨by rfl, ?ya11⟩) (fun _ => by assumption) ?ra11
        case ya11 => (intro w _; go_simp; first | done | (with_reducible rfl) | (rw [if_neg (by omega)]))
        try simp only [Act.put, List.setIfInBounds_toArray, List.set_cons_zero, List.set_cons_succ]
        refine takeW (i := 11) (oi := { dst := some 56, op := Op.binOp BinOp.mul 3 (Operand.tmp 50) (Operand.tmp 55) 3, type := 3, pos := "house.go:257", after := #[{ on := 5, ground := Ground.data }, { on := 10, ground := Ground.data }], guard := none }) (v := ?va12) rfl (by kernel_rfl) (by kernel_rfl) (by kernel_rfl) rfl (fun _ _ _ h => h) (Or.inl ⟨by rfl, ?ya12⟩) (fun _ => by assumption) ?ra12
        case ya12 => (intro w _; go_simp; first | done | (with_reducible rfl) | (rw [if_neg (by omega)]))
        try simp only [Act.put, List.setIfInBounds_toArray, List.set_cons_zero, List.set_cons_succ]
        refine takeW (i := 12) (oi := { dst := some 11, op := Op.assign (Operand.tmp 56), type := 3, pos := "house.go:257", after := #[{ on := 11, ground := Ground.data }, { on := 0, ground := Ground.phase }, { on := 1, ground := Ground.phase }, { on := 2, ground := Ground.phase }, { on := 3, ground := Ground.phase }, { on := 4, ground := Ground.phase }, { on := 5, ground := Ground.phase }, { on := 6, ground := Ground.phase }, { on := 7, ground := Ground.phase }, { on := 8, ground := Ground.phase }, { on := 9, ground := Ground.phase }, { on := 10, ground := Ground.phase }, { on := 11, ground := Ground.phase }], guard := none }) (v := ?va13) rfl (by kernel_rfl) (by kernel_rfl) (by kernel_rfl) rfl (fun _ _ _ h => h) (Or.inl ⟨by rfl, ?ya13⟩) (fun _ => by assumption) ?ra13
        case ya13 => (intro w _; go_simp; first | done | (with_reducible rfl) | (rw [if_neg (by omega)]))
        try simp only [Act.put, List.setIfInBounds_toArray, List.set_cons_zero, List.set_cons_succ]
        refine doneL (by kernel_rfl) ?_ _
        refine NoPanic.normal ?_
        clear hHeld
        go_wp2_with fail
        go_meet
        exact ⟨by rw [HE.out], Lib.hid (below_drewN (Below.refl _ _) 1)⟩
    case rest =>
      obtain ⟨rfl, HBc⟩ := hcut
      have hsc := HBc.out.size
      generalize offC ps off = oc at *
      obtain ⟨bb, hbb⟩ : ∃ bb, bb = w2.heap.size := ⟨_, rfl⟩
      rw [← hbb] at HBc
      have hbb1 : bb ≤ w2.heap.size := by omega
      have hbb2 : w2.heap.size ≤ bb := by omega
      clear hbb
      go_wp2_with fail
      go_loopw [59, 11, 13, 14, 15] (fun v59 v11 v13 v14 v15 wr => ∃ (k : Nat) (o1 o2 o3 : Value), o1 = v13 ∧ o2 = v14 ∧ o3 = v15 ∧ k ≤ G.length ∧ v59 = .int .i64 k ∧ v11 = .int .i64 (oc + sumG ps (G.take k)) ∧ Hid (Below bb w2 wr)) (fun v _ _ _ _ _ => G.length - (intOf v).toNat)
      case atStart => exact ⟨0, _, _, _, rfl, rfl, rfl, Nat.zero_le _, rfl, by rw [List.take_zero, sumG, Int.add_zero], HBc⟩
      case round =>
        obtain ⟨k, o1, o2, o3, rfl, rfl, rfl, hk, rfl, rfl, HB⟩ := hrel
        by_cases hlt : k < G.length
        · obtain ⟨gg, og, rfl, hgg, hcl⟩ := RdL.some (RdL.below HGR.out HB.out (by omega)) (by omega)
          obtain ⟨cs, hcs, hj⟩ := hcl k hlt
          obtain ⟨i, j, hij, hin, hjn, hne, -, -, -, -⟩ := HGs.out _ (List.getElem_mem hlt)
          have HT : Hid (sumG ps (G.take (k + 1)) = sumG ps (G.take k) + costZ ps i j) := Lib.hid (by rw [List.take_add_one, List.getElem?_eq_getElem hlt, hij, sumG_append]; exact congrArg _ (sumG_one ps i j))
          have hsb := sumG_b ps W HSm.out (G.take k) (fun p hp => HGs.out p (List.mem_of_mem_take hp))
          rw [List.length_take] at hsb
          have hcb := costZ_b ps i j (HSm.out i hin) (HSm.out j hjn)
          have hob := HOB.out
          have hgl2 := HGL.out
          rw [hij] at hcs
          obtain rfl : cs = [.int .i64 (i : Int), .int .i64 (j : Int)] := hcs
          have c1 : wr.cell? ⟨gg, og + k * 2, none⟩ = some (.int .i64 (i : Int)) := hj 0 (by decide)
          have c2 : wr.cell? ⟨gg, og + k * 2 + 1, none⟩ = some (.int .i64 (j : Int)) := hj 1 (by decide)
          clear hcl hij hj
          have hsr := HB.out.size
          go_upto_region 12 with (fail)
          obtain ⟨pb, hpb⟩ : ∃ pb, pb = wr.heap.size := ⟨_, rfl⟩
          rw [← hpb]
          have hplt : pb < (wr.alloc (.cells #[.int .i64 (i : Int), .int .i64 (j : Int)] 30)).heap.size := by rw [World.size_alloc]; omega
          have HP := Lib.hid (Box.new' wr pb [.int .i64 (i : Int), .int .i64 (j : Int)] 30 hpb.symm)
          have HBp := Lib.hid (HB.out.alloc (by omega) (.cells #[.int .i64 (i : Int), .int .i64 (j : Int)] 30))
          clear HB c1 c2 hpb
          generalize wr.alloc (.cells #[.int .i64 (i : Int), .int .i64 (j : Int)] 30) = wp at *
          have q0 := HP.out.cell 0 rfl
          have q1 := HP.out.cell 1 rfl
          have HRp := Lib.hid (RdL.below HR2.out HBp.out (by omega))
          have hbbp : bb ≤ wp.heap.size := by have := HBp.out.size; omega
          go_upto_region 13 with (go_at_call 8; refine (Cost_any _ ps i j _ HRp.out HOK.out hin hjn hne).mono ?_; rintro e w5 ⟨rfl, hb⟩; have HB5 := Lib.hid (HBp.out.trans (hb.mono hbbp)); clear hb)
          generalize sumG ps (G.take k) = sk at *
          generalize costZ ps i j = cz at *
          go_wp2_with fail
          go_roundw
          case rel => exact ⟨k + 1, _, _, _, rfl, rfl, rfl, by omega, by go_num, by rw [HT.out]; rw [← Int.add_assoc], HB5⟩
          case measure => simp [intOf]; omega
        · obtain rfl : k = G.length := by omega
          rw [List.take_length, ← HTot.out]
          have HBf := Lib.hid (HB2.out.trans (HB.out.mono (by omega)))
          have hgl2 := HGL.out
          by_cases a1 : 0 ≤ a
          · by_cases b1 : 0 ≤ b
            · by_cases a2 : a < (G.length : Int)
              · by_cases b2 : b < (G.length : Int)
                · by_cases ab : a = b
                  · subst ab
                    go_wp2_with fail
                    all_goals (try go_ret)
                    all_goals first | exact ⟨rfl, HBf.out⟩ | omega
                  · obtain ⟨α, rfl⟩ : ∃ α : Nat, a = (α : Int) := ⟨a.toNat, by omega⟩
                    obtain ⟨β, rfl⟩ : ∃ β : Nat, b = (β : Int) := ⟨b.toNat, by omega⟩
                    have hα : α < G.length := by omega
                    have hβ : β < G.length := by omega
                    have hαβ : α ≠ β := fun e => ab (by rw [e])
                    obtain ⟨gg, og, rfl, hgg, hcl⟩ := RdL.some (RdL.below HGR.out HB.out (by omega)) (by omega)
                    obtain ⟨cs, hcs, hj⟩ := hcl α hα
                    obtain ⟨ds, hds, hl⟩ := hcl β hβ
                    obtain ⟨i, j, hij, hin, hjn, hne, wi, wj, -, -⟩ := HGs.out _ (List.getElem_mem hα)
                    obtain ⟨x, y, hxy, hxn, hyn, hne2, wx, wy, -, -⟩ := HGs.out _ (List.getElem_mem hβ)
                    have HD := Lib.hid (HF.out α β hα hβ hαβ i j x y hij hxy hin hjn)
                    rw [hij] at hcs
                    rw [hxy] at hds
                    obtain rfl : cs = [.int .i64 (i : Int), .int .i64 (j : Int)] := hcs
                    obtain rfl : ds = [.int .i64 (x : Int), .int .i64 (y : Int)] := hds
                    have c1 : wr.cell? ⟨gg, og + α * 2, none⟩ = some (.int .i64 (i : Int)) := hj 0 (by decide)
                    have c2 : wr.cell? ⟨gg, og + α * 2 + 1, none⟩ = some (.int .i64 (j : Int)) := hj 1 (by decide)
                    have c3 : wr.cell? ⟨gg, og + β * 2, none⟩ = some (.int .i64 (x : Int)) := hl 0 (by decide)
                    have c4 : wr.cell? ⟨gg, og + β * 2 + 1, none⟩ = some (.int .i64 (y : Int)) := hl 1 (by decide)
                    have HBest : Hid (metN ps i y = 0 → metN ps x j = 0 → costZ ps i j + costZ ps x y ≤ costZ ps i y + costZ ps x j) := Lib.hid (fun m1 m3 => swap_best HSY.out HW.out HPC.out i j x y hin hjn hxn hyn hne hne2 HD.out wi wj wx wy m1 m3)
                    clear hcl hij hj hl hxy wi wj wx wy
                    have hsr := HB.out.size
                    have e1 : ((α : Int) == (β : Int)) = false := by simp; omega
                    have e2 : ¬ G.length ≤ α := by omega
                    have e3 : ¬ G.length ≤ β := by omega
                    have e4 : ¬ ((α : Int) < 0) := by omega
                    have e5 : ¬ ((β : Int) < 0) := by omega
                    go_upto_region 19 with (fail)
                    go_cut [16, 17] from 109 to 117 (fun v16 v17 wx => ∃ pa pb : Nat, v16 = .pointer (some ⟨pa, 0, none⟩) ∧ v17 = .pointer (some ⟨pb, 0, none⟩) ∧ Hid (Box wx pa [.int .i64 (i : Int), .int .i64 (j : Int)] 30) ∧ Hid (Box wx pb [.int .i64 (x : Int), .int .i64 (y : Int)] 30) ∧ Hid (Below bb w2 wx))
                    case first =>
                      go_region
                      all_goals (try go_wp2_with fail)
                      all_goals go_meet
                      all_goals first
                        | exact ⟨_, _, rfl, rfl, Lib.hid (((Box.new wr [.int .i64 (i : Int), .int .i64 (j : Int)] 30).alloc _).drew), Lib.hid ((Box.new' (wr.alloc (.cells #[.int .i64 (i : Int), .int .i64 (j : Int)] 30)) (wr.heap.size + 1) [.int .i64 (x : Int), .int .i64 (y : Int)] 30 (World.size_alloc _ _)).drew), Lib.hid (below_drewN ((HB.out.alloc (by omega) _).alloc (by rw [World.size_alloc]; omega) _) 1)⟩
                        | exact ⟨_, _, rfl, rfl, Lib.hid ((Box.new' (wr.alloc (.cells #[.int .i64 (x : Int), .int .i64 (y : Int)] 30)) (wr.heap.size + 1) [.int .i64 (i : Int), .int .i64 (j : Int)] 30 (World.size_alloc _ _)).drew), Lib.hid (((Box.new wr [.int .i64 (x : Int), .int .i64 (y : Int)] 30).alloc _).drew), Lib.hid (below_drewN ((HB.out.alloc (by omega) _).alloc (by rw [World.size_alloc]; omega) _) 1)⟩
                    case rest =>
                      obtain ⟨pa, pb, rfl, rfl, HPa, HPb, HBc⟩ := hcut
                      have HBq1 := HBc
                      have HPaq1 := HPa
                      have HPbq1 := HPb
                      have hbq1 : bb ≤ wc.heap.size := by have := HBq1.out.size; omega
                      have hgq1 : g < wc.heap.size := by omega
                      have hpaq1 := HPaq1.out.lt
                      have hpbq1 := HPbq1.out.lt
                      obtain ⟨g2, o2, ha2, -, hpcq1⟩ := RdS.some (RdL.below HR2.out HBq1.out (by omega)) (by omega)
                      cases ha2
                      obtain ⟨voq1, -, cvoq1, -, -, hvoq1⟩ := hpcq1 i hin
                      clear hpcq1
                      obtain ⟨oaq1, ocq1, rfl, ho1q1, ho2q1⟩ := hvoq1.form
                      unfold maxLen at ho2q1
                      have holq1 : (plAt ps i).opp.length ≤ 20 := (HOK.out.2.1 i hin).2.1
                      have HMETq1 : Hid ((∀ k, k < (plAt ps i).opp.length → (plAt ps i).opp.getD k 0 ≠ (y : Int)) → metN ps i (y : Int) = 0) := Lib.hid (fun hh => metN_of hh)
                      have HOPq1 := Lib.hid (RdI.below hvoq1 ((Below.refl wc.heap.size wc).alloc (Nat.le_refl _) (.cells #[] 3)) (Nat.le_refl _))
                      have HOwq1 := Lib.hid (World.ownsRow_made (e := 3) (size := 1) wc #[] 0 (Nat.le_refl _) (by unfold maxLen; omega) rfl)
                      clear hvoq1
                      generalize (plAt ps i).opp = zsq1 at *
                      have q0q1 := HPaq1.out.cell 0 rfl
                      have q1q1 := HPbq1.out.cell 1 rfl
                      have HBaq1 := Lib.hid (HBq1.out.alloc hbq1 (.cells #[] 3))
                      have hsaq1 : wc.heap.size ≤ (wc.alloc (.cells #[] 3)).heap.size := by rw [World.size_alloc]; omega
                      go_wp2_with (at_builtin; refine wpList_append_rd rfl _ _ rfl wc.heap.size _ [] rfl HOwq1.out _ zsq1 rfl HOPq1.out (by simp; omega) hsaq1 ?_)
                      intro v5q1 w5q1 ho5q1 hg5q1
                      try rw [List.nil_append] at ho5q1
                      have HB5q1 := Lib.hid (Below.grown HBaq1.out hg5q1 (by omega) (fun q hq => by have := (HOwq1.out.lt q hq).1; omega))
                      have HK5q1 : Hid (Below wc.heap.size wc w5q1) := Lib.hid (Below.grown ((Below.refl wc.heap.size wc).alloc (Nat.le_refl _) (.cells #[] 3)) hg5q1 hsaq1 (fun q hq => (HOwq1.out.lt q hq).1))
                      obtain ⟨a5q1, c5q1, rfl⟩ := own_form2 ho5q1
                      have HO5q1 := Lib.hid ho5q1
                      have hs5q1 := HK5q1.out.size
                      clear ho5q1 hg5q1 HOPq1
                      go_wp2_with (at_builtin; refine app_new 28 3 (.int .i64 0) 1 8 info3 Try.underlying28 rfl (by decide) (by rfl) _ _ (by rfl) wc.heap.size _ zsq1.length (ints zsq1) [.int .i64 (-1)] w5q1 HO5q1.out hs5q1 rfl one_int (by omega) (by omega) (by rfl) (by rfl) ?_)
                      intro g6q1 cap6q1 w6q1 hown6q1 hkeep6q1 _
                      rw [ints_append] at hown6q1
                      have HO6q1 := Lib.hid hown6q1
                      have HB6q1 := Lib.hid (hkeep6q1.below HB5q1.out (by omega))
                      have HK6q1 := Lib.hid (hkeep6q1.below HK5q1.out (Nat.le_refl _))
                      clear hown6q1 hkeep6q1
                      have q1q1 := (HPbq1.out.below HK6q1.out hpbq1).cell 1 rfl
                      go_wp2_with fail
                      go_loop [128, 19] (fun v1 v2 => ∃ (m : Nat) (o2 : Value), o2 = v2 ∧ m ≤ zsq1.length + 1 ∧ v1 = .int .i64 m ∧ Hid (∀ k, k < m → (zsq1 ++ [-1]).getD k 0 ≠ (y : Int))) (fun v _ => zsq1.length + 1 - (intOf v).toNat)
                      case atStart => exact ⟨0, _, rfl, Nat.zero_le _, rfl, Lib.hid (fun k hk => absurd hk (Nat.not_lt_zero _))⟩
                      case round =>
                        obtain ⟨m, o19, rfl, hm, rfl, HNo⟩ := hrel
                        by_cases hml : m < zsq1.length + 1
                        · have cm : w6q1.cell? ⟨g6q1, m, none⟩ = some (.int .i64 ((zsq1 ++ [-1]).getD m 0)) := by
                            have := HO6q1.out.cellAt m (by omega)
                            rw [ints_get _ _ (by simp; omega)] at this
                            exact this
                          have hml2 : (m : Int) < (zsq1.length : Int) + 1 := by omega
                          obtain ⟨z, hz⟩ : ∃ z, (zsq1 ++ [-1]).getD m 0 = z := ⟨_, rfl⟩
                          rw [hz] at cm
                          by_cases hzy : z = (y : Int)
                          · subst hzy
                            clear hz
                            go_wp2_with fail
                            go_ret
                            exact ⟨rfl, HB2.out.trans (HB6q1.out.mono (by omega))⟩
                          · have HNo2 : Hid (∀ k, k < m + 1 → (zsq1 ++ [-1]).getD k 0 ≠ (y : Int)) := Lib.hid (fun k hk => by
                              rcases Nat.lt_or_ge k m with h | h
                              · exact HNo.out k h
                              · obtain rfl : k = m := by omega
                                rw [hz]; exact hzy)
                            clear hz
                            go_wp2_with fail
                            go_round
                            case rel => exact ⟨m + 1, _, rfl, by omega, by go_num, HNo2⟩
                            case measure => simp [intOf]; omega
                        · obtain rfl : m = zsq1.length + 1 := by omega
                          have HMq1 : Hid (metN ps i (y : Int) = 0) := Lib.hid (HMETq1.out (fun k hk => by
                            have := HNo.out k (by omega)
                            rw [List.getD_eq_getElem?_getD, List.getElem?_append_left hk, ← List.getD_eq_getElem?_getD] at this
                            exact this))
                          have HPaq2 := Lib.hid (HPaq1.out.below HK6q1.out hpaq1)
                          have HPbq2 := Lib.hid (HPbq1.out.below HK6q1.out hpbq1)
                          clear HNo HMETq1 HO6q1 HO5q1 HOwq1 HBaq1 HK5q1 HB5q1 q0q1 q1q1 cvoq1
                          have hml3 : ¬ ((zsq1.length : Int) + 1 < (zsq1.length : Int) + 1) := by omega
                          have HBq2 := HB6q1
                          have hbq2 : bb ≤ w6q1.heap.size := by have := HBq2.out.size; omega
                          have hgq2 : g < w6q1.heap.size := by omega
                          have hpaq2 := HPaq2.out.lt
                          have hpbq2 := HPbq2.out.lt
                          obtain ⟨g2, o2, ha2, -, hpcq2⟩ := RdS.some (RdL.below HR2.out HBq2.out (by omega)) (by omega)
                          cases ha2
                          obtain ⟨voq2, -, cvoq2, -, -, hvoq2⟩ := hpcq2 x hxn
                          clear hpcq2
                          obtain ⟨oaq2, ocq2, rfl, ho1q2, ho2q2⟩ := hvoq2.form
                          unfold maxLen at ho2q2
                          have holq2 : (plAt ps x).opp.length ≤ 20 := (HOK.out.2.1 x hxn).2.1
                          have HMETq2 : Hid ((∀ k, k < (plAt ps x).opp.length → (plAt ps x).opp.getD k 0 ≠ (j : Int)) → metN ps x (j : Int) = 0) := Lib.hid (fun hh => metN_of hh)
                          have HOPq2 := Lib.hid (RdI.below hvoq2 ((Below.refl w6q1.heap.size w6q1).alloc (Nat.le_refl _) (.cells #[] 3)) (Nat.le_refl _))
                          have HOwq2 := Lib.hid (World.ownsRow_made (e := 3) (size := 1) w6q1 #[] 0 (Nat.le_refl _) (by unfold maxLen; omega) rfl)
                          clear hvoq2
                          generalize (plAt ps x).opp = zsq2 at *
                          have q0q2 := HPbq2.out.cell 0 rfl
                          have q1q2 := HPaq2.out.cell 1 rfl
                          have HBaq2 := Lib.hid (HBq2.out.alloc hbq2 (.cells #[] 3))
                          have hsaq2 : w6q1.heap.size ≤ (w6q1.alloc (.cells #[] 3)).heap.size := by rw [World.size_alloc]; omega
                          go_wp2_with (at_builtin; refine wpList_append_rd rfl _ _ rfl w6q1.heap.size _ [] rfl HOwq2.out _ zsq2 rfl HOPq2.out (by simp; omega) hsaq2 ?_)
                          intro v5q2 w5q2 ho5q2 hg5q2
                          try rw [List.nil_append] at ho5q2
                          have HB5q2 := Lib.hid (Below.grown HBaq2.out hg5q2 (by omega) (fun q hq => by have := (HOwq2.out.lt q hq).1; omega))
                          have HK5q2 : Hid (Below w6q1.heap.size w6q1 w5q2) := Lib.hid (Below.grown ((Below.refl w6q1.heap.size w6q1).alloc (Nat.le_refl _) (.cells #[] 3)) hg5q2 hsaq2 (fun q hq => (HOwq2.out.lt q hq).1))
                          obtain ⟨a5q2, c5q2, rfl⟩ := own_form2 ho5q2
                          have HO5q2 := Lib.hid ho5q2
                          have hs5q2 := HK5q2.out.size
                          clear ho5q2 hg5q2 HOPq2
                          go_wp2_with (at_builtin; refine app_new 28 3 (.int .i64 0) 1 8 info3 Try.underlying28 rfl (by decide) (by rfl) _ _ (by rfl) w6q1.heap.size _ zsq2.length (ints zsq2) [.int .i64 (-1)] w5q2 HO5q2.out hs5q2 rfl one_int (by omega) (by omega) (by rfl) (by rfl) ?_)
                          intro g6q2 cap6q2 w6q2 hown6q2 hkeep6q2 _
                          rw [ints_append] at hown6q2
                          have HO6q2 := Lib.hid hown6q2
                          have HB6q2 := Lib.hid (hkeep6q2.below HB5q2.out (by omega))
                          have HK6q2 := Lib.hid (hkeep6q2.below HK5q2.out (Nat.le_refl _))
                          clear hown6q2 hkeep6q2
                          have q1q2 := (HPaq2.out.below HK6q2.out hpaq2).cell 1 rfl
                          go_wp2_with fail
                          go_loop [148, 21] (fun v1 v2 => ∃ (m : Nat) (o2 : Value), o2 = v2 ∧ m ≤ zsq2.length + 1 ∧ v1 = .int .i64 m ∧ Hid (∀ k, k < m → (zsq2 ++ [-1]).getD k 0 ≠ (j : Int))) (fun v _ => zsq2.length + 1 - (intOf v).toNat)
                          case atStart => exact ⟨0, _, rfl, Nat.zero_le _, rfl, Lib.hid (fun k hk => absurd hk (Nat.not_lt_zero _))⟩
                          case round =>
                            obtain ⟨m, o19, rfl, hm, rfl, HNo⟩ := hrel
                            by_cases hml : m < zsq2.length + 1
                            · have cm : w6q2.cell? ⟨g6q2, m, none⟩ = some (.int .i64 ((zsq2 ++ [-1]).getD m 0)) := by
                                have := HO6q2.out.cellAt m (by omega)
                                rw [ints_get _ _ (by simp; omega)] at this
                                exact this
                              have hml2 : (m : Int) < (zsq2.length : Int) + 1 := by omega
                              obtain ⟨z, hz⟩ : ∃ z, (zsq2 ++ [-1]).getD m 0 = z := ⟨_, rfl⟩
                              rw [hz] at cm
                              by_cases hzy : z = (j : Int)
                              · subst hzy
                                clear hz
                                go_wp2_with fail
                                go_ret
                                exact ⟨rfl, HB2.out.trans (HB6q2.out.mono (by omega))⟩
                              · have HNo2 : Hid (∀ k, k < m + 1 → (zsq2 ++ [-1]).getD k 0 ≠ (j : Int)) := Lib.hid (fun k hk => by
                                  rcases Nat.lt_or_ge k m with h | h
                                  · exact HNo.out k h
                                  · obtain rfl : k = m := by omega
                                    rw [hz]; exact hzy)
                                clear hz
                                go_wp2_with fail
                                go_round
                                case rel => exact ⟨m + 1, _, rfl, by omega, by go_num, HNo2⟩
                                case measure => simp [intOf]; omega
                            · obtain rfl : m = zsq2.length + 1 := by omega
                              have HMq2 : Hid (metN ps x (j : Int) = 0) := Lib.hid (HMETq2.out (fun k hk => by
                                have := HNo.out k (by omega)
                                rw [List.getD_eq_getElem?_getD, List.getElem?_append_left hk, ← List.getD_eq_getElem?_getD] at this
                                exact this))
                              have HPaq3 := Lib.hid (HPaq2.out.below HK6q2.out hpaq2)
                              have HPbq3 := Lib.hid (HPbq2.out.below HK6q2.out hpbq2)
                              clear HNo HMETq2 HO6q2 HO5q2 HOwq2 HBaq2 HK5q2 HB5q2 q0q2 q1q2 cvoq2
                              have hml3 : ¬ ((zsq2.length : Int) + 1 < (zsq2.length : Int) + 1) := by omega
                              have HALL : Hid (∀ w', Below w6q2.heap.size w6q2 w' → w'.cell? ⟨pa, 0, none⟩ = some (.int .i64 (i : Int)) ∧ w'.cell? ⟨pa, 1, none⟩ = some (.int .i64 (j : Int)) ∧ w'.cell? ⟨pb, 0, none⟩ = some (.int .i64 (x : Int)) ∧ w'.cell? ⟨pb, 1, none⟩ = some (.int .i64 (y : Int)) ∧ Hid (RdS w' (.slice (some ⟨g, o, none⟩) ps.length c) ps)) := Lib.hid (fun w' hb => ⟨(HPaq3.out.stays hb).cell 0 rfl, (HPaq3.out.stays hb).cell 1 rfl, (HPbq3.out.stays hb).cell 0 rfl, (HPbq3.out.stays hb).cell 1 rfl, Lib.hid (RdL.below (RdL.below HR2.out HB6q2.out (by omega)) hb (Nat.le_refl _))⟩)
                              have HBc0 := Lib.hid (Below.refl w6q2.heap.size w6q2)
                              have hgn : g < w6q2.heap.size := by have := HB6q2.out.size; omega
                              obtain ⟨pa0, pa1, pb0, pb1, HRc⟩ := HALL.out _ HBc0.out
                              have hscc := HBc0.out.size
                              go_upto_region 33 with (go_at_call 8; refine (Cost_any _ ps i j _ HRc.out HOK.out hin hjn hne).mono ?_; rintro e wc1 ⟨rfl, hb⟩; have HBc1 := Lib.hid (HBc0.out.trans (hb.mono hscc)); clear hb)
                              clear pa0 pa1 pb0 pb1 HRc
                              obtain ⟨pa0, pa1, pb0, pb1, HRc⟩ := HALL.out _ HBc1.out
                              have hscc := HBc1.out.size
                              go_upto_region 34 with (go_at_call 8; refine (Cost_any _ ps x y _ HRc.out HOK.out hxn hyn hne2).mono ?_; rintro e wc2 ⟨rfl, hb⟩; have HBc2 := Lib.hid (HBc1.out.trans (hb.mono hscc)); clear hb)
                              clear pa0 pa1 pb0 pb1 HRc
                              obtain ⟨pa0, pa1, pb0, pb1, HRc⟩ := HALL.out _ HBc2.out
                              have hscc := HBc2.out.size
                              go_upto_region 35 with (go_at_call 8; refine (Cost_any _ ps i y _ HRc.out HOK.out hin hyn HD.out.2.1).mono ?_; rintro e wc3 ⟨rfl, hb⟩; have HBc3 := Lib.hid (HBc2.out.trans (hb.mono hscc)); clear hb)
                              clear pa0 pa1 pb0 pb1 HRc
                              obtain ⟨pa0, pa1, pb0, pb1, HRc⟩ := HALL.out _ HBc3.out
                              have hscc := HBc3.out.size
                              go_upto_region 36 with (go_at_call 8; refine (Cost_any _ ps x j _ HRc.out HOK.out hxn hjn (fun e => HD.out.2.2.1 e.symm)).mono ?_; rintro e wc4 ⟨rfl, hb⟩; have HBc4 := Lib.hid (HBc3.out.trans (hb.mono hscc)); clear hb)
                              clear pa0 pa1 pb0 pb1 HRc
                              have hle := HBest.out HMq1.out HMq2.out
                              have k1 := costZ_b ps i j (HSm.out i hin) (HSm.out j hjn)
                              have k2 := costZ_b ps x y (HSm.out x hxn) (HSm.out y hyn)
                              have k3 := costZ_b ps i y (HSm.out i hin) (HSm.out y hyn)
                              have k4 := costZ_b ps x j (HSm.out x hxn) (HSm.out j hjn)
                              generalize costZ ps i j = d1 at *
                              generalize costZ ps x y = d2 at *
                              generalize costZ ps i y = d3 at *
                              generalize costZ ps x j = d4 at *
                              have W1 := IntWalk.i64_in (d1 + d2) (by omega)
                              have W2 := IntWalk.i64_in (d3 + d4) (by omega)
                              go_wp2_with fail
                              all_goals (try go_ret)
                              all_goals first | exact ⟨rfl, HB2.out.trans ((HB6q2.out.trans (HBc4.out.mono (by have := HB6q2.out.size; omega))).mono (by omega))⟩ | exact ⟨by simp [hle], HB2.out.trans ((HB6q2.out.trans (HBc4.out.mono (by have := HB6q2.out.size; omega))).mono (by omega))⟩ | omega
                · go_wp2_with fail
                  all_goals (try go_ret)
                  all_goals first | exact ⟨rfl, HBf.out⟩ | omega
              · go_wp2_with fail
                all_goals (try go_ret)
                all_goals first | exact ⟨rfl, HBf.out⟩ | omega
            · go_wp2_with fail
              all_goals (try go_ret)
              all_goals first | exact ⟨rfl, HBf.out⟩ | omega
          · go_wp2_with fail
            all_goals (try go_ret)
            all_goals first | exact ⟨rfl, HBf.out⟩ | omega
end Go.Proofs.Ytkngpbnildhdpaa.swissCosts
