/- SwissAdds: the walk. -/
import Derived.Test.YtkngpbnildhdpaaSwE
import Derived.BigQuiet
import Derived.Deep.Cut
import Derived.Deep.CutRange
import Derived.Deep.QuietTactic
namespace Go.Proofs.Ytkngpbnildhdpaa.swissAdds
open Go.ChangeShapes Go.WideShapes Go.ChangeAt Go.RowKit
set_option linter.unusedVariables false

theorem off_iff {ps : List SwP} {W : List Int} {off : Int} (h : OffOK ps W off) (k : Nat) (hk : k < ps.length) : W.getD k 0 = ps.length ↔ (k : Int) = off := by
  rcases h with ⟨rfl, -, h⟩ | ⟨i, hi, rfl, -, -, hw, hu⟩
  · exact ⟨fun e => absurd e (h k hk), fun e => by omega⟩
  · exact ⟨fun e => by rw [hu k hk e], fun e => by
      have : k = i := by omega
      subst this
      exact hw⟩
theorem more_ok {ps : List SwP} {W : List Int} {off : Int} (h : OffOK ps W off) {f : Nat → SwP} (hf : Fin1 ps W off f) (k : Nat) (hk : k < ps.length) : (f k).opp.length = (plAt ps k).opp.length + (if (k : Int) = off then 0 else 1) := by
  rw [hf.opp k hk, List.length_append]
  by_cases e : (k : Int) = off
  · rw [if_pos e, if_pos ((off_iff h k hk).2 e)]; rfl
  · rw [if_neg e, if_neg (fun q => e ((off_iff h k hk).1 q))]; rfl
theorem sum_b (g : Nat → Int) (K : Int) (hK : 0 ≤ K) : ∀ k, (∀ i, i < k → 0 ≤ g i ∧ g i ≤ K) → 0 ≤ sumTo k g ∧ sumTo k g ≤ K * k
  | 0, _ => by rw [sumTo]; simp
  | k + 1, h => by
    have := sum_b g K hK k (fun i hi => h i (by omega))
    have h2 := h k (by omega)
    rw [sumTo, Int.natCast_add, Int.mul_add]
    omega

set_option maxRecDepth 100000 in
set_option maxHeartbeats 8000000 in
theorem walk (s : Value) (ps : List SwP) (vz : Value) (zs : List Int) (w : World) (h : RdS w s ps) (hz : RdI w vz zs) : Calls Try.prog 5 #[s, vz] w fun e w' => e = .returned (.bool true) ∧ Below w.heap.size w w' := by
  obtain ⟨sa, c, rfl, h1, h2⟩ := h.form
  obtain ⟨za, zc, rfl, hz1, hz2⟩ := hz.form
  unfold maxLen at h2 hz2
  have HRD := Lib.hid h
  have HZ := Lib.hid hz
  clear h hz
  go_enter Try.func5, Try.ntmps5
  go_upto_region 4 with (go_at_call 6; refine (swisses_any w).mono ?_; rintro e w1 ⟨rfl, hb⟩; have HB1 := Lib.hid hb; clear hb)
  refine (Pair_any _ ps _ (HRD.out.below HB1.out (Nat.le_refl _))).mono ?_
  rintro e w2 ⟨hb, hp⟩
  have HB2 := Lib.hid (HB1.out.trans (hb.mono HB1.out.size))
  clear hb
  rcases hp with ⟨c, hc, -, rfl⟩ | ⟨-, -, rfl⟩ | ⟨hok, W, v, hpz, hw, hr, rfl⟩
  · go_wp2_with fail
    go_ret
    exact ⟨rfl, HB2.out⟩
  · go_wp2_with fail
    go_ret
    exact ⟨rfl, HB2.out⟩
  · obtain ⟨hn2, hn8⟩ := hok.1
    have HSm : Hid (∀ i, i < ps.length → Small (plAt ps i)) := Lib.hid (fun i hi => (hok.2.1 i hi).1)
    have HOff := Lib.hid (off_ok hw)
    have HGL := Lib.hid (outZ_len ps W ps.length)
    have HAf : Hid (∀ (w' : World) (vr : Value) (rs : List Int), Below w.heap.size w w' → RdL prEl w' v (outZ ps W ps.length) → RdI w' vr rs → rs.length = (outZ ps W ps.length).length → (∀ k, k < rs.length → 0 ≤ rs.getD k 0 ∧ rs.getD k 0 ≤ 2) →
        Calls Try.prog 9 #[.slice sa ps.length c, v, vr, .int .i64 (offZ ps.length W ps.length)] w' (AfterPost ps W (offZ ps.length W ps.length) w')) := Lib.hid (fun w' vr rs hb hg hr hl h2 => After_ok _ _ _ ps W rs w' (HRD.out.below hb (Nat.le_refl _)) hok hw hg hr hl h2)
    clear hpz hok hw
    generalize outZ ps W ps.length = G at *
    generalize offZ ps.length W ps.length = off at *
    obtain ⟨ga, gc, rfl, hg1, hg2⟩ := hr.form
    unfold maxLen at hg2
    have HGR := Lib.hid hr
    have hs2 := HB2.out.size
    have hle := HGL.out
    clear hr
    obtain ⟨g, o, rfl, hgl, -⟩ := RdS.some HRD.out (by omega)
    obtain ⟨bb, hbb⟩ : ∃ bb, bb = w2.heap.size := ⟨_, rfl⟩
    have hbb1 : bb ≤ w2.heap.size := by omega
    have hbb2 : w2.heap.size ≤ bb := by omega
    have HNil : Hid (w2.ownsRow bb 3 1 (.slice none 0 0) 0 (ints [])) := Lib.hid (World.ownsRow_nil _ _ _ _)
    have HB0 : Hid (Below bb w2 w2) := Lib.hid (Below.refl _ _)
    clear hbb
    go_wp2_with fail
    go_loopw [31, 9, 10, 11] (fun v31 v9 v10 v11 wr => ∃ (k : Nat) (o10 o11 : Value) (rs : List Int), o10 = v10 ∧ o11 = v11 ∧ k ≤ G.length ∧ v31 = .int .i64 k ∧ Hid (rs.length = k) ∧ Hid (∀ m, m < rs.length → 0 ≤ rs.getD m 0 ∧ rs.getD m 0 ≤ 2) ∧ Hid (wr.ownsRow bb 3 1 v9 k (ints rs)) ∧ Hid (Below bb w2 wr)) (fun v _ _ _ _ => G.length - (intOf v).toNat)
    case atStart => exact ⟨0, _, _, [], rfl, rfl, Nat.zero_le _, rfl, Lib.hid rfl, Lib.hid (fun m hm => absurd hm (Nat.not_lt_zero _)), HNil, HB0⟩
    case round =>
      obtain ⟨k, o10, o11, rs, rfl, rfl, hk, rfl, HK, HV, HO, HB⟩ := hrel
      have hsr := HB.out.size
      obtain ⟨pa, pc, rfl⟩ := own_form2 HO.out
      have hrs : bb ≤ wr.heap.size := by omega
      by_cases hlt : k < G.length
      · have HNx : Hid (∀ x : Int, 0 ≤ x → x ≤ 2 → ∀ m, m < (rs ++ [x]).length → 0 ≤ (rs ++ [x]).getD m 0 ∧ (rs ++ [x]).getD m 0 ≤ 2) := Lib.hid (fun x hx0 hx2 m hm => by
          rw [List.length_append] at hm
          simp only [List.length_cons, List.length_nil] at hm
          rw [List.getD_eq_getElem?_getD]
          by_cases e : m < rs.length
          · rw [List.getElem?_append_left e, ← List.getD_eq_getElem?_getD]; exact HV.out m e
          · obtain rfl : m = rs.length := by omega
            rw [List.getElem?_append_right (Nat.le_refl _), Nat.sub_self]; exact ⟨hx0, hx2⟩)
        have hww := HB2.out.trans (HB.out.mono (show w.heap.size ≤ bb by omega))
        by_cases hkz : k < zs.length
        · obtain ⟨zg, zo, zc2, haz, -, -, hzg, hzc⟩ := HZ.out.some (by omega)
          simp only [Value.slice.injEq] at haz
          obtain ⟨rfl, -, rfl⟩ := haz
          have cz := (hww.cell (p := ⟨zg, zo + k, none⟩) hzg).trans (hzc k hkz)
          have hzgr : zg < wr.heap.size := by have := hww.size; omega
          have hkz' : (k : Int) < (zs.length : Int) := by omega
          clear hzc
          generalize zs.getD k 0 = z at *
          by_cases z0 : 0 ≤ z
          · by_cases z2 : z ≤ 2
            · clear hww
              go_wp2_with (at_builtin; refine app_new 28 3 (.int .i64 0) 1 8 info3 Try.underlying28 rfl (by decide) (by rfl) _ _ (by rfl) bb _ k (ints rs) [.int .i64 z] wr HO.out hrs rfl one_int (by omega) (by omega) (by rfl) (by rfl) ?_)
              intro g3 cap3 w3 hown3 hkeep3 _
              rw [ints_append] at hown3
              have HO3 := Lib.hid hown3
              have HB3 := Lib.hid (hkeep3.below HB.out (Nat.le_refl _))
              clear hown3 hkeep3
              go_wp2_with fail
              go_roundw
              case rel => exact ⟨k + 1, _, _, rs ++ [z], rfl, rfl, by omega, by go_num, Lib.hid (by rw [List.length_append, HK.out]; rfl), Lib.hid (HNx.out z (by omega) (by omega)), HO3, HB3⟩
              case measure => simp [intOf]; omega
            · clear hww
              go_wp2_with (at_builtin; refine app_new 28 3 (.int .i64 0) 1 8 info3 Try.underlying28 rfl (by decide) (by rfl) _ _ (by rfl) bb _ k (ints rs) [.int .i64 1] wr HO.out hrs rfl one_int (by omega) (by omega) (by rfl) (by rfl) ?_)
              intro g3 cap3 w3 hown3 hkeep3 _
              rw [ints_append] at hown3
              have HO3 := Lib.hid hown3
              have HB3 := Lib.hid (hkeep3.below HB.out (Nat.le_refl _))
              clear hown3 hkeep3
              go_wp2_with fail
              go_roundw
              case rel => exact ⟨k + 1, _, _, rs ++ [1], rfl, rfl, by omega, by go_num, Lib.hid (by rw [List.length_append, HK.out]; rfl), Lib.hid (HNx.out 1 (by omega) (by omega)), HO3, HB3⟩
              case measure => simp [intOf]; omega
          · clear hww
            go_wp2_with (at_builtin; refine app_new 28 3 (.int .i64 0) 1 8 info3 Try.underlying28 rfl (by decide) (by rfl) _ _ (by rfl) bb _ k (ints rs) [.int .i64 1] wr HO.out hrs rfl one_int (by omega) (by omega) (by rfl) (by rfl) ?_)
            intro g3 cap3 w3 hown3 hkeep3 _
            rw [ints_append] at hown3
            have HO3 := Lib.hid hown3
            have HB3 := Lib.hid (hkeep3.below HB.out (Nat.le_refl _))
            clear hown3 hkeep3
            go_wp2_with fail
            go_roundw
            case rel => exact ⟨k + 1, _, _, rs ++ [1], rfl, rfl, by omega, by go_num, Lib.hid (by rw [List.length_append, HK.out]; rfl), Lib.hid (HNx.out 1 (by omega) (by omega)), HO3, HB3⟩
            case measure => simp [intOf]; omega
        · have hkz' : ¬ (k : Int) < (zs.length : Int) := by omega
          clear hww
          go_wp2_with (at_builtin; refine app_new 28 3 (.int .i64 0) 1 8 info3 Try.underlying28 rfl (by decide) (by rfl) _ _ (by rfl) bb _ k (ints rs) [.int .i64 1] wr HO.out hrs rfl one_int (by omega) (by omega) (by rfl) (by rfl) ?_)
          intro g3 cap3 w3 hown3 hkeep3 _
          rw [ints_append] at hown3
          have HO3 := Lib.hid hown3
          have HB3 := Lib.hid (hkeep3.below HB.out (Nat.le_refl _))
          clear hown3 hkeep3
          go_wp2_with fail
          go_roundw
          case rel => exact ⟨k + 1, _, _, rs ++ [1], rfl, rfl, by omega, by go_num, Lib.hid (by rw [List.length_append, HK.out]; rfl), Lib.hid (HNx.out 1 (by omega) (by omega)), HO3, HB3⟩
          case measure => simp [intOf]; omega
      · obtain rfl : k = G.length := by omega
        have hww := HB2.out.trans (HB.out.mono (show w.heap.size ≤ bb by omega))
        have HAC := Lib.hid (HAf.out wr _ rs hww (RdL.below HGR.out HB.out (by omega)) (show RdI wr (.slice pa G.length pc) rs from RdI.of_own (by rw [HK.out]; exact HO.out)) HK.out HV.out)
        have HWW := Lib.hid hww
        have hsww := hww.size
        clear hww
        go_wp2_with fail
        refine HAC.out.mono ?_
        rintro e w5 ⟨hb, hp⟩
        have HB5 := Lib.hid (HWW.out.trans (hb.mono HWW.out.size))
        clear hb HAC HWW
        rcases hp with ⟨c, rfl | rfl, rfl⟩ | ⟨m, f, rfl, hm, hf⟩
        · go_wp2_with fail
          go_ret
          exact ⟨rfl, HB5.out⟩
        · go_wp2_with fail
          go_ret
          exact ⟨rfl, HB5.out⟩
        · obtain ⟨ma, mc, rfl, hm1, hm2⟩ := hm.form
          unfold maxLen at hm2
          rw [newL_len] at hm1
          have HFm := Lib.hid hf
          have hmm := hm
          rw [newL_len] at hmm
          obtain ⟨mg, mo, rfl, hmg, -⟩ := RdS.some hmm (by rw [newL_len]; omega)
          have HMm := Lib.hid hmm
          have hsum := hf.sum
          have HSum := Lib.hid hsum
          have hs5 := HB5.out.size
          rw [newL_len]
          clear hm hmm hf hsum hm2
          go_wp2_with fail
          obtain ⟨wo, rfl⟩ : ∃ wo : World, wo = wr := ⟨_, rfl⟩
          go_loopw [79, 14, 15, 16, 17] (fun v79 v14 v15 v16 v17 wr => ∃ (k : Nat) (o16 o17 : Value), o16 = v16 ∧ o17 = v17 ∧ k ≤ ps.length ∧ v79 = .int .i64 k ∧ v14 = .int .i64 (sumTo k (fun i => (plAt ps i).score)) ∧ v15 = .int .i64 (sumTo k (fun i => (f i).score)) ∧ Hid (Below w5.heap.size w5 wr)) (fun v _ _ _ _ _ => ps.length - (intOf v).toNat)
          case atStart => exact ⟨0, _, _, rfl, rfl, Nat.zero_le _, rfl, rfl, rfl, Lib.hid (Below.refl _ _)⟩
          case round =>
            obtain ⟨k, o16, o17, rfl, rfl, hk2, rfl, rfl, rfl, HBr⟩ := hrel
            have hsr5 := HBr.out.size
            by_cases hlt2 : k < ps.length
            · have hb1 := sum_b (fun i => (plAt ps i).score) 40 (by omega) k (fun i hi => (HSm.out i (by omega)).1)
              have hb2 := sum_b (fun i => (f i).score) 100 (by omega) k (fun i hi => HFm.out.sc i (by omega))
              have hc1 := (HSm.out k hlt2).1
              have hc2 := HFm.out.sc k hlt2
              obtain ⟨g2, o2, ha2, -, hpc⟩ := RdS.some (RdL.below HRD.out (HB5.out.trans (HBr.out.mono hs5)) (Nat.le_refl _)) (by omega)
              cases ha2
              obtain ⟨v1, a0, a1, -, a3, hv1⟩ := hpc k hlt2
              obtain ⟨g3, o3, ha3, -, hpd⟩ := RdS.some (RdL.below HMm.out HBr.out (Nat.le_refl _)) (by rw [newL_len]; omega)
              cases ha3
              obtain ⟨v2, d0, d1, -, d3, hv2⟩ := hpd k (by rw [newL_len]; exact hlt2)
              rw [newL_at _ _ _ hlt2] at d0 d3 hv2
              obtain ⟨oa1, oc1, rfl, hx1, hx2⟩ := hv1.form
              obtain ⟨oa2, oc2, rfl, hy1, hy2⟩ := hv2.form
              unfold maxLen at hx2 hy2
              have hmore := more_ok HOff.out HFm.out k hlt2
              have hbye := HFm.out.bye k hlt2
              have HS1 : Hid (sumTo (k + 1) (fun i => (plAt ps i).score) = sumTo k (fun i => (plAt ps i).score) + (plAt ps k).score) := Lib.hid rfl
              have HS2 : Hid (sumTo (k + 1) (fun i => (f i).score) = sumTo k (fun i => (f i).score) + (f k).score) := Lib.hid rfl
              rw [hbye] at d3
              rw [hmore] at d1 hy1
              have hbo : (k : Int) = off → (plAt ps k).bye = false := fun e => by
                rcases HOff.out with ⟨h, -⟩ | ⟨i, hi, h, -, hb, -⟩
                · omega
                · have : k = i := by omega
                  subst this
                  exact hb
              clear hpc hpd hv1 hv2 hmore hbye
              generalize (plAt ps k).opp.length = len at *
              generalize (plAt ps k).bye = by1 at *
              generalize (plAt ps k).score = s1 at *
              generalize (f k).score = s2 at *
              generalize sumTo k (fun i => (plAt ps i).score) = t1 at *
              generalize sumTo k (fun i => (f i).score) = t2 at *
              have W1 : IntKind.i64.wrap (t1 + s1) = t1 + s1 := IntWalk.i64_in _ (by omega)
              have W2 : IntKind.i64.wrap (t2 + s2) = t2 + s2 := IntWalk.i64_in _ (by omega)
              have hkn : (k : Int) < (ps.length : Int) := by omega
              have qq : wr.cell? ⟨g, o + k * 4, none⟩ = some (.int .i64 s1) ∧ wr.cell? ⟨mg, mo + k * 4, none⟩ = some (.int .i64 s2) := ⟨a0, d0⟩
              have rr := And.intro a1 (And.intro a3 (And.intro d1 d3))
              clear a0 a1 a3 d0 d1 d3
              go_upto_region 22 with (fail)
              refine wp_region_noPanic ?_
              refine beginL (S := (fun w' => w'.cell? ⟨g, o + k * 4, none⟩ = some (.int .i64 s1) ∧ w'.cell? ⟨mg, mo + k * 4, none⟩ = some (.int .i64 s2))) (L := []) (by kernel_rfl) qq (fun hHeld => ?_)
              refine takeW (i := 0) (oi := { dst := some 82, op := Op.move (Operand.tmp 14), type := 3, pos := "house.go:234", after := #[], guard := none }) (v := ?va1) rfl (by kernel_rfl) (by kernel_rfl) (by kernel_rfl) rfl (fun _ _ _ h => h) (Or.inl ⟨by rfl, ?ya1⟩) (fun _ => by assumption) ?ra1
              case ya1 => (intro w _; go_simp; first | done | (with_reducible rfl) | (rw [if_neg (by omega)]))
              try simp only [Act.put, List.setIfInBounds_toArray, List.set_cons_zero, List.set_cons_succ]
              refine takeW (i := 1) (oi := { dst := some 83, op := Op.move (Operand.tmp 0), type := 22, pos := "house.go:234", after := #[], guard := none }) (v := ?va2) rfl (by kernel_rfl) (by kernel_rfl) (by kernel_rfl) rfl (fun _ _ _ h => h) (Or.inl ⟨by rfl, ?ya2⟩) (fun _ => by assumption) ?ra2
              case ya2 => (intro w _; go_simp; first | done | (with_reducible rfl) | (rw [if_neg (by omega)]))
              try simp only [Act.put, List.setIfInBounds_toArray, List.set_cons_zero, List.set_cons_succ]
              refine takeW (i := 2) (oi := { dst := some 84, op := Op.move (Operand.tmp 16), type := 3, pos := "house.go:234", after := #[], guard := none }) (v := ?va3) rfl (by kernel_rfl) (by kernel_rfl) (by kernel_rfl) rfl (fun _ _ _ h => h) (Or.inl ⟨by rfl, ?ya3⟩) (fun _ => by assumption) ?ra3
              case ya3 => (intro w _; go_simp; first | done | (with_reducible rfl) | (rw [if_neg (by omega)]))
              try simp only [Act.put, List.setIfInBounds_toArray, List.set_cons_zero, List.set_cons_succ]
              refine takeW (i := 7) (oi := { dst := some 89, op := Op.move (Operand.tmp 15), type := 3, pos := "house.go:234", after := #[{ on := 14, ground := Ground.gcOnly Departure.lateStores }], guard := none }) (v := ?va4) rfl (by kernel_rfl) (by kernel_rfl) (by kernel_rfl) rfl (fun _ _ _ h => h) (Or.inl ⟨by rfl, ?ya4⟩) (fun _ => by assumption) ?ra4
              case ya4 => (intro w _; go_simp; first | done | (with_reducible rfl) | (rw [if_neg (by omega)]))
              try simp only [Act.put, List.setIfInBounds_toArray, List.set_cons_zero, List.set_cons_succ]
              refine takeW (i := 8) (oi := { dst := some 90, op := Op.move (Operand.tmp 12), type := 22, pos := "house.go:234", after := #[{ on := 14, ground := Ground.gcOnly Departure.lateStores }], guard := none }) (v := ?va5) rfl (by kernel_rfl) (by kernel_rfl) (by kernel_rfl) rfl (fun _ _ _ h => h) (Or.inl ⟨by rfl, ?ya5⟩) (fun _ => by assumption) ?ra5
              case ya5 => (intro w _; go_simp; first | done | (with_reducible rfl) | (rw [if_neg (by omega)]))
              try simp only [Act.put, List.setIfInBounds_toArray, List.set_cons_zero, List.set_cons_succ]
              refine takeW (i := 9) (oi := { dst := some 91, op := Op.move (Operand.tmp 16), type := 3, pos := "house.go:234", after := #[{ on := 14, ground := Ground.gcOnly Departure.lateStores }], guard := none }) (v := ?va6) rfl (by kernel_rfl) (by kernel_rfl) (by kernel_rfl) rfl (fun _ _ _ h => h) (Or.inl ⟨by rfl, ?ya6⟩) (fun _ => by assumption) ?ra6
              case ya6 => (intro w _; go_simp; first | done | (with_reducible rfl) | (rw [if_neg (by omega)]))
              try simp only [Act.put, List.setIfInBounds_toArray, List.set_cons_zero, List.set_cons_succ]
              refine takeW (i := 3) (oi := { dst := some 85, op := Op.indexAddr 22 (Operand.tmp 83) (Operand.tmp 84), type := 0, pos := "house.go:234", after := #[{ on := 1, ground := Ground.data }, { on := 2, ground := Ground.data }], guard := none }) (v := ?va7) rfl (by kernel_rfl) (by kernel_rfl) (by kernel_rfl) rfl (fun _ _ _ h => h) (Or.inl ⟨by rfl, ?ya7⟩) (fun _ => by assumption) ?ra7
              case ya7 => (intro w _; go_simp; first | done | (with_reducible rfl) | (rw [if_neg (by omega)]))
              try simp only [Act.put, List.setIfInBounds_toArray, List.set_cons_zero, List.set_cons_succ]
              refine takeW (i := 10) (oi := { dst := some 92, op := Op.indexAddr 22 (Operand.tmp 90) (Operand.tmp 91), type := 0, pos := "house.go:234", after := #[{ on := 8, ground := Ground.data }, { on := 9, ground := Ground.data }, { on := 14, ground := Ground.gcOnly Departure.lateStores }], guard := none }) (v := ?va8) rfl (by kernel_rfl) (by kernel_rfl) (by kernel_rfl) rfl (fun _ _ _ h => h) (Or.inl ⟨by rfl, ?ya8⟩) (fun _ => by assumption) ?ra8
              case ya8 => (intro w _; go_simp; first | done | (with_reducible rfl) | (rw [if_neg (by omega)]))
              try simp only [Act.put, List.setIfInBounds_toArray, List.set_cons_zero, List.set_cons_succ]
              refine takeW (i := 4) (oi := { dst := some 86, op := Op.fieldAddr 32 (Operand.tmp 85) 0, type := 0, pos := "house.go:234", after := #[{ on := 3, ground := Ground.data }], guard := none }) (v := ?va9) rfl (by kernel_rfl) (by kernel_rfl) (by kernel_rfl) rfl (fun _ _ _ h => h) (Or.inl ⟨by rfl, ?ya9⟩) (fun _ => by assumption) ?ra9
              case ya9 => (intro w _; go_simp; first | done | (with_reducible rfl) | (rw [if_neg (by omega)]))
              try simp only [Act.put, List.setIfInBounds_toArray, List.set_cons_zero, List.set_cons_succ]
              refine takeW (i := 11) (oi := { dst := some 93, op := Op.fieldAddr 32 (Operand.tmp 92) 0, type := 0, pos := "house.go:234", after := #[{ on := 10, ground := Ground.data }, { on := 14, ground := Ground.gcOnly Departure.lateStores }], guard := none }) (v := ?va10) rfl (by kernel_rfl) (by kernel_rfl) (by kernel_rfl) rfl (fun _ _ _ h => h) (Or.inl ⟨by rfl, ?ya10⟩) (fun _ => by assumption) ?ra10
              case ya10 => (intro w _; go_simp; first | done | (with_reducible rfl) | (rw [if_neg (by omega)]))
              try simp only [Act.put, List.setIfInBounds_toArray, List.set_cons_zero, List.set_cons_succ]
              refine takeL (i := 5) (oi := { dst := some 87, op := Op.load 3 (Operand.tmp 86), type := 3, pos := "house.go:234", after := #[{ on := 4, ground := Ground.data }], guard := none }) (v := ?va11) rfl (by kernel_rfl) (by kernel_rfl) (by kernel_rfl) (by kernel_rfl) rfl (by kernel_rfl) (by kernel_rfl) (fun _ _ _ h => h) (Or.inl ⟨by rfl, ?ya11⟩) (by assumption) ?ra11
              case ya11 => (intro w hSw; (try dsimp only at hSw); go_simp; first | done | (with_reducible rfl))
              try simp only [Act.put, List.setIfInBounds_toArray, List.set_cons_zero, List.set_cons_succ]
              refine takeL (i := 12) (oi := { dst := some 94, op := Op.load 3 (Operand.tmp 93), type := 3, pos := "house.go:234", after := #[{ on := 11, ground := Ground.data }, { on := 14, ground := Ground.gcOnly Departure.lateStores }], guard := none }) (v := ?va12) rfl (by kernel_rfl) (by kernel_rfl) (by kernel_rfl) (by kernel_rfl) rfl (by kernel_rfl) (by kernel_rfl) (fun _ _ _ h => h) (Or.inl ⟨by rfl, ?ya12⟩) (by assumption) ?ra12
              case ya12 => (intro w hSw; (try dsimp only at hSw); go_simp; first | done | (with_reducible rfl))
              try simp only [Act.put, List.setIfInBounds_toArray, List.set_cons_zero, List.set_cons_succ]
              refine takeW (i := 6) (oi := { dst := some 88, op := Op.binOp BinOp.add 3 (Operand.tmp 82) (Operand.tmp 87) 3, type := 3, pos := "house.go:234", after := #[{ on := 0, ground := Ground.data }, { on := 5, ground := Ground.data }], guard := none }) (v := ?va13) rfl (by kernel_rfl) (by kernel_rfl) (by kernel_rfl) rfl (fun _ _ _ h => h) (Or.inl ⟨by rfl, ?ya13⟩) (fun _ => by assumption) ?ra13
              case ya13 => (intro w _; go_simp; first | done | (with_reducible rfl) | (rw [if_neg (by omega)]))
              try simp only [Act.put, List.setIfInBounds_toArray, List.set_cons_zero, List.set_cons_succ]
              refine takeW (i := 13) (oi := { dst := some 95, op := Op.binOp BinOp.add 3 (Operand.tmp 89) (Operand.tmp 94) 3, type := 3, pos := "house.go:234", after := #[{ on := 7, ground := Ground.data }, { on := 12, ground := Ground.data }, { on := 14, ground := Ground.gcOnly Departure.lateStores }], guard := none }) (v := ?va14) rfl (by kernel_rfl) (by kernel_rfl) (by kernel_rfl) rfl (fun _ _ _ h => h) (Or.inl ⟨by rfl, ?ya14⟩) (fun _ => by assumption) ?ra14
              case ya14 => (intro w _; go_simp; first | done | (with_reducible rfl) | (rw [if_neg (by omega)]))
              try simp only [Act.put, List.setIfInBounds_toArray, List.set_cons_zero, List.set_cons_succ]
              refine takeW (i := 14) (oi := { dst := some 14, op := Op.assign (Operand.tmp 88), type := 3, pos := "house.go:234", after := #[{ on := 6, ground := Ground.data }, { on := 0, ground := Ground.phase }, { on := 1, ground := Ground.phase }, { on := 2, ground := Ground.phase }, { on := 3, ground := Ground.phase }, { on := 4, ground := Ground.phase }, { on := 5, ground := Ground.phase }, { on := 6, ground := Ground.phase }, { on := 7, ground := Ground.textOnly Departure.lateStores }, { on := 8, ground := Ground.textOnly Departure.lateStores }, { on := 9, ground := Ground.textOnly Departure.lateStores }, { on := 10, ground := Ground.textOnly Departure.lateStores }, { on := 11, ground := Ground.textOnly Departure.lateStores }, { on := 12, ground := Ground.textOnly Departure.lateStores }, { on := 13, ground := Ground.textOnly Departure.lateStores }], guard := none }) (v := ?va15) rfl (by kernel_rfl) (by kernel_rfl) (by kernel_rfl) rfl (fun _ _ _ h => h) (Or.inl ⟨by rfl, ?ya15⟩) (fun _ => by assumption) ?ra15
              case ya15 => (intro w _; go_simp; first | done | (with_reducible rfl) | (rw [if_neg (by omega)]))
              try simp only [Act.put, List.setIfInBounds_toArray, List.set_cons_zero, List.set_cons_succ]
              refine takeW (i := 15) (oi := { dst := some 15, op := Op.assign (Operand.tmp 95), type := 3, pos := "house.go:234", after := #[{ on := 13, ground := Ground.data }, { on := 14, ground := Ground.chain }, { on := 0, ground := Ground.phase }, { on := 1, ground := Ground.phase }, { on := 2, ground := Ground.phase }, { on := 3, ground := Ground.phase }, { on := 4, ground := Ground.phase }, { on := 5, ground := Ground.phase }, { on := 6, ground := Ground.phase }, { on := 7, ground := Ground.phase }, { on := 8, ground := Ground.phase }, { on := 9, ground := Ground.phase }, { on := 10, ground := Ground.phase }, { on := 11, ground := Ground.phase }, { on := 12, ground := Ground.phase }, { on := 13, ground := Ground.phase }, { on := 14, ground := Ground.phase }], guard := none }) (v := ?va16) rfl (by kernel_rfl) (by kernel_rfl) (by kernel_rfl) rfl (fun _ _ _ h => h) (Or.inl ⟨by rfl, ?ya16⟩) (fun _ => by assumption) ?ra16
              case ya16 => (intro w _; go_simp; first | done | (with_reducible rfl) | (rw [if_neg (by omega)]))
              try simp only [Act.put, List.setIfInBounds_toArray, List.set_cons_zero, List.set_cons_succ]
              refine doneL (by kernel_rfl) ?_ _
              refine NoPanic.normal ?_
              clear hHeld
              have rd : wr.drew.cell? ⟨g, o + k * 4 + 1, none⟩ = some _ ∧ wr.drew.cell? ⟨g, o + k * 4 + 3, none⟩ = some _ ∧ wr.drew.cell? ⟨mg, mo + k * 4 + 1, none⟩ = some _ ∧ wr.drew.cell? ⟨mg, mo + k * 4 + 3, none⟩ = some _ := rr
              have HBd : Hid (Below w5.heap.size w5 wr.drew) := Lib.hid (below_drewN HBr.out 1)
              clear rr HBr qq W1 W2
              generalize wr.drew = wd at *
              by_cases hko : (k : Int) = off
              · have hb0 := hbo hko
                subst hb0
                rw [if_pos hko, decide_eq_true hko] at rd
                rw [if_pos hko] at hy1
                have W6 : IntKind.i64.wrap (len : Int) = (len : Int) := IntWalk.i64_in _ (by omega)
                have hko2 : ((k : Int) == off) = true := by simp [hko]
                subst hko
                have r2 := rd
                go_upto_region 26 with (fail)
                refine wp_region_noPanic ?_
                refine beginL (S := (fun w' => w'.cell? ⟨g, o + k * 4 + 1, none⟩ = some (.slice oa1 len oc1) ∧ w'.cell? ⟨g, o + k * 4 + 3, none⟩ = some (.bool false) ∧ w'.cell? ⟨mg, mo + k * 4 + 1, none⟩ = some (.slice oa2 (len + 0) oc2) ∧ w'.cell? ⟨mg, mo + k * 4 + 3, none⟩ = some (.bool true))) (L := []) (by kernel_rfl) rd (fun hHeld => ?_)
                refine takeW (i := 0) (oi := { dst := some 99, op := Op.move (Operand.tmp 12), type := 22, pos := "house.go:239", after := #[], guard := none }) (v := ?va17) rfl (by kernel_rfl) (by kernel_rfl) (by kernel_rfl) rfl (fun _ _ _ h => h) (Or.inl ⟨by rfl, ?ya17⟩) (fun _ => by assumption) ?ra17
                case ya17 => (intro w _; go_simp; first | done | (with_reducible rfl) | (rw [if_neg (by omega)]))
                try simp only [Act.put, List.setIfInBounds_toArray, List.set_cons_zero, List.set_cons_succ]
                refine takeW (i := 1) (oi := { dst := some 100, op := Op.move (Operand.tmp 16), type := 3, pos := "house.go:239", after := #[], guard := none }) (v := ?va18) rfl (by kernel_rfl) (by kernel_rfl) (by kernel_rfl) rfl (fun _ _ _ h => h) (Or.inl ⟨by rfl, ?ya18⟩) (fun _ => by assumption) ?ra18
                case ya18 => (intro w _; go_simp; first | done | (with_reducible rfl) | (rw [if_neg (by omega)]))
                try simp only [Act.put, List.setIfInBounds_toArray, List.set_cons_zero, List.set_cons_succ]
                refine takeW (i := 6) (oi := { dst := some 105, op := Op.move (Operand.tmp 0), type := 22, pos := "house.go:239", after := #[], guard := none }) (v := ?va19) rfl (by kernel_rfl) (by kernel_rfl) (by kernel_rfl) rfl (fun _ _ _ h => h) (Or.inl ⟨by rfl, ?ya19⟩) (fun _ => by assumption) ?ra19
                case ya19 => (intro w _; go_simp; first | done | (with_reducible rfl) | (rw [if_neg (by omega)]))
                try simp only [Act.put, List.setIfInBounds_toArray, List.set_cons_zero, List.set_cons_succ]
                refine takeW (i := 7) (oi := { dst := some 106, op := Op.move (Operand.tmp 16), type := 3, pos := "house.go:239", after := #[], guard := none }) (v := ?va20) rfl (by kernel_rfl) (by kernel_rfl) (by kernel_rfl) rfl (fun _ _ _ h => h) (Or.inl ⟨by rfl, ?ya20⟩) (fun _ => by assumption) ?ra20
                case ya20 => (intro w _; go_simp; first | done | (with_reducible rfl) | (rw [if_neg (by omega)]))
                try simp only [Act.put, List.setIfInBounds_toArray, List.set_cons_zero, List.set_cons_succ]
                refine takeW (i := 12) (oi := { dst := some 111, op := Op.move (Operand.tmp 17), type := 3, pos := "house.go:239", after := #[], guard := none }) (v := ?va21) rfl (by kernel_rfl) (by kernel_rfl) (by kernel_rfl) rfl (fun _ _ _ h => h) (Or.inl ⟨by rfl, ?ya21⟩) (fun _ => by assumption) ?ra21
                case ya21 => (intro w _; go_simp; first | done | (with_reducible rfl) | (rw [if_neg (by omega)]))
                try simp only [Act.put, List.setIfInBounds_toArray, List.set_cons_zero, List.set_cons_succ]
                refine takeW (i := 2) (oi := { dst := some 101, op := Op.indexAddr 22 (Operand.tmp 99) (Operand.tmp 100), type := 0, pos := "house.go:239", after := #[{ on := 0, ground := Ground.data }, { on := 1, ground := Ground.data }], guard := none }) (v := ?va22) rfl (by kernel_rfl) (by kernel_rfl) (by kernel_rfl) rfl (fun _ _ _ h => h) (Or.inl ⟨by rfl, ?ya22⟩) (fun _ => by assumption) ?ra22
                case ya22 => (intro w _; go_simp; first | done | (with_reducible rfl) | (rw [if_neg (by omega)]))
                try simp only [Act.put, List.setIfInBounds_toArray, List.set_cons_zero, List.set_cons_succ]
                refine takeW (i := 8) (oi := { dst := some 107, op := Op.indexAddr 22 (Operand.tmp 105) (Operand.tmp 106), type := 0, pos := "house.go:239", after := #[{ on := 6, ground := Ground.data }, { on := 7, ground := Ground.data }], guard := none }) (v := ?va23) rfl (by kernel_rfl) (by kernel_rfl) (by kernel_rfl) rfl (fun _ _ _ h => h) (Or.inl ⟨by rfl, ?ya23⟩) (fun _ => by assumption) ?ra23
                case ya23 => (intro w _; go_simp; first | done | (with_reducible rfl) | (rw [if_neg (by omega)]))
                try simp only [Act.put, List.setIfInBounds_toArray, List.set_cons_zero, List.set_cons_succ]
                refine takeW (i := 3) (oi := { dst := some 102, op := Op.fieldAddr 32 (Operand.tmp 101) 1, type := 0, pos := "house.go:239", after := #[{ on := 2, ground := Ground.data }], guard := none }) (v := ?va24) rfl (by kernel_rfl) (by kernel_rfl) (by kernel_rfl) rfl (fun _ _ _ h => h) (Or.inl ⟨by rfl, ?ya24⟩) (fun _ => by assumption) ?ra24
                case ya24 => (intro w _; go_simp; first | done | (with_reducible rfl) | (rw [if_neg (by omega)]))
                try simp only [Act.put, List.setIfInBounds_toArray, List.set_cons_zero, List.set_cons_succ]
                refine takeW (i := 9) (oi := { dst := some 108, op := Op.fieldAddr 32 (Operand.tmp 107) 1, type := 0, pos := "house.go:239", after := #[{ on := 8, ground := Ground.data }], guard := none }) (v := ?va25) rfl (by kernel_rfl) (by kernel_rfl) (by kernel_rfl) rfl (fun _ _ _ h => h) (Or.inl ⟨by rfl, ?ya25⟩) (fun _ => by assumption) ?ra25
                case ya25 => (intro w _; go_simp; first | done | (with_reducible rfl) | (rw [if_neg (by omega)]))
                try simp only [Act.put, List.setIfInBounds_toArray, List.set_cons_zero, List.set_cons_succ]
                refine takeL (i := 4) (oi := { dst := some 103, op := Op.load 28 (Operand.tmp 102), type := 28, pos := "house.go:239", after := #[{ on := 3, ground := Ground.data }], guard := none }) (v := ?va26) rfl (by kernel_rfl) (by kernel_rfl) (by kernel_rfl) (by kernel_rfl) rfl (by kernel_rfl) (by kernel_rfl) (fun _ _ _ h => h) (Or.inl ⟨by rfl, ?ya26⟩) (by assumption) ?ra26
                case ya26 => (intro w hSw; (try dsimp only at hSw); go_simp; first | done | (with_reducible rfl))
                try simp only [Act.put, List.setIfInBounds_toArray, List.set_cons_zero, List.set_cons_succ]
                refine takeL (i := 10) (oi := { dst := some 109, op := Op.load 28 (Operand.tmp 108), type := 28, pos := "house.go:239", after := #[{ on := 9, ground := Ground.data }], guard := none }) (v := ?va27) rfl (by kernel_rfl) (by kernel_rfl) (by kernel_rfl) (by kernel_rfl) rfl (by kernel_rfl) (by kernel_rfl) (fun _ _ _ h => h) (Or.inl ⟨by rfl, ?ya27⟩) (by assumption) ?ra27
                case ya27 => (intro w hSw; (try dsimp only at hSw); go_simp; first | done | (with_reducible rfl))
                try simp only [Act.put, List.setIfInBounds_toArray, List.set_cons_zero, List.set_cons_succ]
                refine takeW (i := 5) (oi := { dst := some 104, op := Op.call { callee := Callee.builtin Builtin.len, args := #[Operand.tmp 103], argTypes := #[28] }, type := 3, pos := "house.go:239", after := #[{ on := 4, ground := Ground.data }], guard := none }) (v := ?va28) rfl (by kernel_rfl) (by kernel_rfl) (by kernel_rfl) rfl (fun _ _ _ h => h) (Or.inl ⟨by rfl, ?ya28⟩) (fun _ => by assumption) ?ra28
                case ya28 => (intro w _; go_simp; first | done | (with_reducible rfl) | (rw [if_neg (by omega)]))
                try simp only [Act.put, List.setIfInBounds_toArray, List.set_cons_zero, List.set_cons_succ]
                refine takeW (i := 11) (oi := { dst := some 110, op := Op.call { callee := Callee.builtin Builtin.len, args := #[Operand.tmp 109], argTypes := #[28] }, type := 3, pos := "house.go:239", after := #[{ on := 10, ground := Ground.data }], guard := none }) (v := ?va29) rfl (by kernel_rfl) (by kernel_rfl) (by kernel_rfl) rfl (fun _ _ _ h => h) (Or.inl ⟨by rfl, ?ya29⟩) (fun _ => by assumption) ?ra29
                case ya29 => (intro w _; go_simp; first | done | (with_reducible rfl) | (rw [if_neg (by omega)]))
                try simp only [Act.put, List.setIfInBounds_toArray, List.set_cons_zero, List.set_cons_succ]
                refine takeW (i := 13) (oi := { dst := some 112, op := Op.binOp BinOp.add 3 (Operand.tmp 110) (Operand.tmp 111) 3, type := 3, pos := "house.go:239", after := #[{ on := 11, ground := Ground.data }, { on := 12, ground := Ground.data }], guard := none }) (v := ?va30) rfl (by kernel_rfl) (by kernel_rfl) (by kernel_rfl) rfl (fun _ _ _ h => h) (Or.inl ⟨by rfl, ?ya30⟩) (fun _ => by assumption) ?ra30
                case ya30 => (intro w _; go_simp; first | done | (with_reducible rfl) | (rw [if_neg (by omega)]))
                try simp only [Act.put, List.setIfInBounds_toArray, List.set_cons_zero, List.set_cons_succ]
                refine takeW (i := 14) (oi := { dst := some 113, op := Op.binOp BinOp.neq 3 (Operand.tmp 104) (Operand.tmp 112) 3, type := 4, pos := "house.go:239", after := #[{ on := 5, ground := Ground.data }, { on := 13, ground := Ground.data }], guard := none }) (v := ?va31) rfl (by kernel_rfl) (by kernel_rfl) (by kernel_rfl) rfl (fun _ _ _ h => h) (Or.inl ⟨by rfl, ?ya31⟩) (fun _ => by assumption) ?ra31
                case ya31 => (intro w _; go_simp; first | done | (with_reducible rfl) | (rw [if_neg (by omega)]))
                try simp only [Act.put, List.setIfInBounds_toArray, List.set_cons_zero, List.set_cons_succ]
                refine takeW (i := 15) (oi := { dst := some 114, op := Op.move (Operand.tmp 113), type := 4, pos := "house.go:239", after := #[{ on := 14, ground := Ground.data }], guard := none }) (v := ?va32) rfl (by kernel_rfl) (by kernel_rfl) (by kernel_rfl) rfl (fun _ _ _ h => h) (Or.inl ⟨by rfl, ?ya32⟩) (fun _ => by assumption) ?ra32
                case ya32 => (intro w _; go_simp; first | done | (with_reducible rfl) | (rw [if_neg (by omega)]))
                try simp only [Act.put, List.setIfInBounds_toArray, List.set_cons_zero, List.set_cons_succ]
                refine takeW (i := 16) (oi := { dst := some 115, op := Op.move (Operand.tmp 12), type := 22, pos := "house.go:239", after := #[{ on := 15, ground := Ground.guard }], guard := some (15, false) }) (v := ?va33) rfl (by kernel_rfl) (by kernel_rfl) (by kernel_rfl) rfl (fun _ _ _ h => h) (Or.inl ⟨by rfl, ?ya33⟩) (fun _ => by assumption) ?ra33
                case ya33 => (intro w _; go_simp; first | done | (with_reducible rfl) | (rw [if_neg (by omega)]))
                try simp only [Act.put, List.setIfInBounds_toArray, List.set_cons_zero, List.set_cons_succ]
                refine takeW (i := 17) (oi := { dst := some 116, op := Op.move (Operand.tmp 16), type := 3, pos := "house.go:239", after := #[{ on := 15, ground := Ground.guard }], guard := some (15, false) }) (v := ?va34) rfl (by kernel_rfl) (by kernel_rfl) (by kernel_rfl) rfl (fun _ _ _ h => h) (Or.inl ⟨by rfl, ?ya34⟩) (fun _ => by assumption) ?ra34
                case ya34 => (intro w _; go_simp; first | done | (with_reducible rfl) | (rw [if_neg (by omega)]))
                try simp only [Act.put, List.setIfInBounds_toArray, List.set_cons_zero, List.set_cons_succ]
                refine takeW (i := 21) (oi := { dst := some 120, op := Op.move (Operand.tmp 0), type := 22, pos := "house.go:239", after := #[{ on := 15, ground := Ground.guard }], guard := some (15, false) }) (v := ?va35) rfl (by kernel_rfl) (by kernel_rfl) (by kernel_rfl) rfl (fun _ _ _ h => h) (Or.inl ⟨by rfl, ?ya35⟩) (fun _ => by assumption) ?ra35
                case ya35 => (intro w _; go_simp; first | done | (with_reducible rfl) | (rw [if_neg (by omega)]))
                try simp only [Act.put, List.setIfInBounds_toArray, List.set_cons_zero, List.set_cons_succ]
                refine takeW (i := 22) (oi := { dst := some 121, op := Op.move (Operand.tmp 16), type := 3, pos := "house.go:239", after := #[{ on := 15, ground := Ground.guard }], guard := some (15, false) }) (v := ?va36) rfl (by kernel_rfl) (by kernel_rfl) (by kernel_rfl) rfl (fun _ _ _ h => h) (Or.inl ⟨by rfl, ?ya36⟩) (fun _ => by assumption) ?ra36
                case ya36 => (intro w _; go_simp; first | done | (with_reducible rfl) | (rw [if_neg (by omega)]))
                try simp only [Act.put, List.setIfInBounds_toArray, List.set_cons_zero, List.set_cons_succ]
                refine takeW (i := 18) (oi := { dst := some 117, op := Op.indexAddr 22 (Operand.tmp 115) (Operand.tmp 116), type := 0, pos := "house.go:239", after := #[{ on := 16, ground := Ground.data }, { on := 17, ground := Ground.data }, { on := 15, ground := Ground.guard }], guard := some (15, false) }) (v := ?va37) rfl (by kernel_rfl) (by kernel_rfl) (by kernel_rfl) rfl (fun _ _ _ h => h) (Or.inl ⟨by rfl, ?ya37⟩) (fun _ => by assumption) ?ra37
                case ya37 => (intro w _; go_simp; first | done | (with_reducible rfl) | (rw [if_neg (by omega)]))
                try simp only [Act.put, List.setIfInBounds_toArray, List.set_cons_zero, List.set_cons_succ]
                refine takeW (i := 23) (oi := { dst := some 122, op := Op.indexAddr 22 (Operand.tmp 120) (Operand.tmp 121), type := 0, pos := "house.go:239", after := #[{ on := 21, ground := Ground.data }, { on := 22, ground := Ground.data }, { on := 15, ground := Ground.guard }], guard := some (15, false) }) (v := ?va38) rfl (by kernel_rfl) (by kernel_rfl) (by kernel_rfl) rfl (fun _ _ _ h => h) (Or.inl ⟨by rfl, ?ya38⟩) (fun _ => by assumption) ?ra38
                case ya38 => (intro w _; go_simp; first | done | (with_reducible rfl) | (rw [if_neg (by omega)]))
                try simp only [Act.put, List.setIfInBounds_toArray, List.set_cons_zero, List.set_cons_succ]
                refine takeW (i := 19) (oi := { dst := some 118, op := Op.fieldAddr 32 (Operand.tmp 117) 3, type := 0, pos := "house.go:239", after := #[{ on := 18, ground := Ground.data }, { on := 15, ground := Ground.guard }], guard := some (15, false) }) (v := ?va39) rfl (by kernel_rfl) (by kernel_rfl) (by kernel_rfl) rfl (fun _ _ _ h => h) (Or.inl ⟨by rfl, ?ya39⟩) (fun _ => by assumption) ?ra39
                case ya39 => (intro w _; go_simp; first | done | (with_reducible rfl) | (rw [if_neg (by omega)]))
                try simp only [Act.put, List.setIfInBounds_toArray, List.set_cons_zero, List.set_cons_succ]
                refine takeW (i := 24) (oi := { dst := some 123, op := Op.fieldAddr 32 (Operand.tmp 122) 3, type := 0, pos := "house.go:239", after := #[{ on := 23, ground := Ground.data }, { on := 15, ground := Ground.guard }], guard := some (15, false) }) (v := ?va40) rfl (by kernel_rfl) (by kernel_rfl) (by kernel_rfl) rfl (fun _ _ _ h => h) (Or.inl ⟨by rfl, ?ya40⟩) (fun _ => by assumption) ?ra40
                case ya40 => (intro w _; go_simp; first | done | (with_reducible rfl) | (rw [if_neg (by omega)]))
                try simp only [Act.put, List.setIfInBounds_toArray, List.set_cons_zero, List.set_cons_succ]
                refine takeL (i := 20) (oi := { dst := some 119, op := Op.load 4 (Operand.tmp 118), type := 4, pos := "house.go:239", after := #[{ on := 19, ground := Ground.data }, { on := 15, ground := Ground.guard }], guard := some (15, false) }) (v := ?va41) rfl (by kernel_rfl) (by kernel_rfl) (by kernel_rfl) (by kernel_rfl) rfl (by kernel_rfl) (by kernel_rfl) (fun _ _ _ h => h) (Or.inl ⟨by rfl, ?ya41⟩) (by assumption) ?ra41
                case ya41 => (intro w hSw; (try dsimp only at hSw); go_simp; first | done | (with_reducible rfl))
                try simp only [Act.put, List.setIfInBounds_toArray, List.set_cons_zero, List.set_cons_succ]
                refine takeL (i := 25) (oi := { dst := some 124, op := Op.load 4 (Operand.tmp 123), type := 4, pos := "house.go:239", after := #[{ on := 24, ground := Ground.data }, { on := 15, ground := Ground.guard }], guard := some (15, false) }) (v := ?va42) rfl (by kernel_rfl) (by kernel_rfl) (by kernel_rfl) (by kernel_rfl) rfl (by kernel_rfl) (by kernel_rfl) (fun _ _ _ h => h) (Or.inl ⟨by rfl, ?ya42⟩) (by assumption) ?ra42
                case ya42 => (intro w hSw; (try dsimp only at hSw); go_simp; first | done | (with_reducible rfl))
                try simp only [Act.put, List.setIfInBounds_toArray, List.set_cons_zero, List.set_cons_succ]
                refine takeW (i := 26) (oi := { dst := some 125, op := Op.move (Operand.tmp 124), type := 4, pos := "house.go:239", after := #[{ on := 25, ground := Ground.data }, { on := 15, ground := Ground.chain }, { on := 15, ground := Ground.guard }], guard := some (15, false) }) (v := ?va43) rfl (by kernel_rfl) (by kernel_rfl) (by kernel_rfl) rfl (fun _ _ _ h => h) (Or.inl ⟨by rfl, ?ya43⟩) (fun _ => by assumption) ?ra43
                case ya43 => (intro w _; go_simp; first | done | (with_reducible rfl) | (rw [if_neg (by omega)]))
                try simp only [Act.put, List.setIfInBounds_toArray, List.set_cons_zero, List.set_cons_succ]
                refine takeW (i := 27) (oi := { dst := some 126, op := Op.move (Operand.tmp 16), type := 3, pos := "house.go:239", after := #[{ on := 26, ground := Ground.guard }], guard := some (26, false) }) (v := ?va44) rfl (by kernel_rfl) (by kernel_rfl) (by kernel_rfl) rfl (fun _ _ _ h => h) (Or.inl ⟨by rfl, ?ya44⟩) (fun _ => by assumption) ?ra44
                case ya44 => (intro w _; go_simp; first | done | (with_reducible rfl) | (rw [if_neg (by omega)]))
                try simp only [Act.put, List.setIfInBounds_toArray, List.set_cons_zero, List.set_cons_succ]
                refine takeW (i := 28) (oi := { dst := some 127, op := Op.move (Operand.tmp 7), type := 3, pos := "house.go:239", after := #[{ on := 26, ground := Ground.guard }], guard := some (26, false) }) (v := ?va45) rfl (by kernel_rfl) (by kernel_rfl) (by kernel_rfl) rfl (fun _ _ _ h => h) (Or.inl ⟨by rfl, ?ya45⟩) (fun _ => by assumption) ?ra45
                case ya45 => (intro w _; go_simp; first | done | (with_reducible rfl) | (rw [if_neg (by omega)]))
                try simp only [Act.put, List.setIfInBounds_toArray, List.set_cons_zero, List.set_cons_succ]
                refine takeW (i := 29) (oi := { dst := some 128, op := Op.binOp BinOp.eql 3 (Operand.tmp 126) (Operand.tmp 127) 3, type := 4, pos := "house.go:239", after := #[{ on := 27, ground := Ground.data }, { on := 28, ground := Ground.data }, { on := 26, ground := Ground.guard }], guard := some (26, false) }) (v := ?va46) rfl (by kernel_rfl) (by kernel_rfl) (by kernel_rfl) rfl (fun _ _ _ h => h) (Or.inl ⟨by rfl, ?ya46⟩) (fun _ => by assumption) ?ra46
                case ya46 => (intro w _; go_simp; first | done | (with_reducible rfl) | (rw [if_neg (by omega)]))
                try simp only [Act.put, List.setIfInBounds_toArray, List.set_cons_zero, List.set_cons_succ]
                refine takeW (i := 30) (oi := { dst := some 129, op := Op.pick (Operand.tmp 125) (Operand.const (Value.bool true)) (Operand.tmp 128), type := 4, pos := "house.go:239", after := #[{ on := 26, ground := Ground.data }, { on := 29, ground := Ground.data }, { on := 15, ground := Ground.guard }], guard := some (15, false) }) (v := ?va47) rfl (by kernel_rfl) (by kernel_rfl) (by kernel_rfl) rfl (fun _ _ _ h => h) (Or.inl ⟨by rfl, ?ya47⟩) (fun _ => by assumption) ?ra47
                case ya47 => (intro w _; go_simp; first | done | (with_reducible rfl) | (rw [if_neg (by omega)]))
                try simp only [Act.put, List.setIfInBounds_toArray, List.set_cons_zero, List.set_cons_succ]
                refine takeW (i := 31) (oi := { dst := some 130, op := Op.binOp BinOp.neq 4 (Operand.tmp 119) (Operand.tmp 129) 4, type := 4, pos := "house.go:239", after := #[{ on := 20, ground := Ground.data }, { on := 30, ground := Ground.data }, { on := 15, ground := Ground.guard }], guard := some (15, false) }) (v := ?va48) rfl (by kernel_rfl) (by kernel_rfl) (by kernel_rfl) rfl (fun _ _ _ h => h) (Or.inl ⟨by rfl, ?ya48⟩) (fun _ => by assumption) ?ra48
                case ya48 => (intro w _; go_simp; first | done | (with_reducible rfl) | (rw [if_neg (by omega)]))
                try simp only [Act.put, List.setIfInBounds_toArray, List.set_cons_zero, List.set_cons_succ]
                refine takeW (i := 32) (oi := { dst := some 131, op := Op.pick (Operand.tmp 114) (Operand.const (Value.bool true)) (Operand.tmp 130), type := 4, pos := "house.go:239", after := #[{ on := 15, ground := Ground.data }, { on := 31, ground := Ground.data }], guard := none }) (v := ?va49) rfl (by kernel_rfl) (by kernel_rfl) (by kernel_rfl) rfl (fun _ _ _ h => h) (Or.inl ⟨by rfl, ?ya49⟩) (fun _ => by assumption) ?ra49
                case ya49 => (intro w _; go_simp; first | done | (with_reducible rfl) | (rw [if_neg (by omega)]))
                try simp only [Act.put, List.setIfInBounds_toArray, List.set_cons_zero, List.set_cons_succ]
                refine doneL (by kernel_rfl) ?_ _
                refine NoPanic.normal ?_
                clear hHeld
                go_wp2_with fail
                go_roundw
                case rel => exact ⟨k + 1, _, _, rfl, rfl, by omega, by go_num, by rw [HS1.out], by rw [HS2.out], Lib.hid (below_drewN HBd.out 1)⟩
                case measure => simp [intOf]; omega
              · rw [if_neg hko, decide_eq_false hko] at rd
                rw [if_neg hko] at hy1
                have W6 : IntKind.i64.wrap ((len : Int) + 1) = (len : Int) + 1 := IntWalk.i64_in _ (by omega)
                have hko2 : ((k : Int) == off) = false := by simp [hko]
                cases by1
                · go_upto_region 26 with (fail)
                  refine wp_region_noPanic ?_
                  refine beginL (S := (fun w' => w'.cell? ⟨g, o + k * 4 + 1, none⟩ = some (.slice oa1 len oc1) ∧ w'.cell? ⟨g, o + k * 4 + 3, none⟩ = some (.bool false) ∧ w'.cell? ⟨mg, mo + k * 4 + 1, none⟩ = some (.slice oa2 (len + 1) oc2) ∧ w'.cell? ⟨mg, mo + k * 4 + 3, none⟩ = some (.bool false))) (L := []) (by kernel_rfl) rd (fun hHeld => ?_)
                  refine takeW (i := 0) (oi := { dst := some 99, op := Op.move (Operand.tmp 12), type := 22, pos := "house.go:239", after := #[], guard := none }) (v := ?va50) rfl (by kernel_rfl) (by kernel_rfl) (by kernel_rfl) rfl (fun _ _ _ h => h) (Or.inl ⟨by rfl, ?ya50⟩) (fun _ => by assumption) ?ra50
                  case ya50 => (intro w _; go_simp; first | done | (with_reducible rfl) | (rw [if_neg (by omega)]))
                  try simp only [Act.put, List.setIfInBounds_toArray, List.set_cons_zero, List.set_cons_succ]
                  refine takeW (i := 1) (oi := { dst := some 100, op := Op.move (Operand.tmp 16), type := 3, pos := "house.go:239", after := #[], guard := none }) (v := ?va51) rfl (by kernel_rfl) (by kernel_rfl) (by kernel_rfl) rfl (fun _ _ _ h => h) (Or.inl ⟨by rfl, ?ya51⟩) (fun _ => by assumption) ?ra51
                  case ya51 => (intro w _; go_simp; first | done | (with_reducible rfl) | (rw [if_neg (by omega)]))
                  try simp only [Act.put, List.setIfInBounds_toArray, List.set_cons_zero, List.set_cons_succ]
                  refine takeW (i := 6) (oi := { dst := some 105, op := Op.move (Operand.tmp 0), type := 22, pos := "house.go:239", after := #[], guard := none }) (v := ?va52) rfl (by kernel_rfl) (by kernel_rfl) (by kernel_rfl) rfl (fun _ _ _ h => h) (Or.inl ⟨by rfl, ?ya52⟩) (fun _ => by assumption) ?ra52
                  case ya52 => (intro w _; go_simp; first | done | (with_reducible rfl) | (rw [if_neg (by omega)]))
                  try simp only [Act.put, List.setIfInBounds_toArray, List.set_cons_zero, List.set_cons_succ]
                  refine takeW (i := 7) (oi := { dst := some 106, op := Op.move (Operand.tmp 16), type := 3, pos := "house.go:239", after := #[], guard := none }) (v := ?va53) rfl (by kernel_rfl) (by kernel_rfl) (by kernel_rfl) rfl (fun _ _ _ h => h) (Or.inl ⟨by rfl, ?ya53⟩) (fun _ => by assumption) ?ra53
                  case ya53 => (intro w _; go_simp; first | done | (with_reducible rfl) | (rw [if_neg (by omega)]))
                  try simp only [Act.put, List.setIfInBounds_toArray, List.set_cons_zero, List.set_cons_succ]
                  refine takeW (i := 12) (oi := { dst := some 111, op := Op.move (Operand.tmp 17), type := 3, pos := "house.go:239", after := #[], guard := none }) (v := ?va54) rfl (by kernel_rfl) (by kernel_rfl) (by kernel_rfl) rfl (fun _ _ _ h => h) (Or.inl ⟨by rfl, ?ya54⟩) (fun _ => by assumption) ?ra54
                  case ya54 => (intro w _; go_simp; first | done | (with_reducible rfl) | (rw [if_neg (by omega)]))
                  try simp only [Act.put, List.setIfInBounds_toArray, List.set_cons_zero, List.set_cons_succ]
                  refine takeW (i := 2) (oi := { dst := some 101, op := Op.indexAddr 22 (Operand.tmp 99) (Operand.tmp 100), type := 0, pos := "house.go:239", after := #[{ on := 0, ground := Ground.data }, { on := 1, ground := Ground.data }], guard := none }) (v := ?va55) rfl (by kernel_rfl) (by kernel_rfl) (by kernel_rfl) rfl (fun _ _ _ h => h) (Or.inl ⟨by rfl, ?ya55⟩) (fun _ => by assumption) ?ra55
                  case ya55 => (intro w _; go_simp; first | done | (with_reducible rfl) | (rw [if_neg (by omega)]))
                  try simp only [Act.put, List.setIfInBounds_toArray, List.set_cons_zero, List.set_cons_succ]
                  refine takeW (i := 8) (oi := { dst := some 107, op := Op.indexAddr 22 (Operand.tmp 105) (Operand.tmp 106), type := 0, pos := "house.go:239", after := #[{ on := 6, ground := Ground.data }, { on := 7, ground := Ground.data }], guard := none }) (v := ?va56) rfl (by kernel_rfl) (by kernel_rfl) (by kernel_rfl) rfl (fun _ _ _ h => h) (Or.inl ⟨by rfl, ?ya56⟩) (fun _ => by assumption) ?ra56
                  case ya56 => (intro w _; go_simp; first | done | (with_reducible rfl) | (rw [if_neg (by omega)]))
                  try simp only [Act.put, List.setIfInBounds_toArray, List.set_cons_zero, List.set_cons_succ]
                  refine takeW (i := 3) (oi := { dst := some 102, op := Op.fieldAddr 32 (Operand.tmp 101) 1, type := 0, pos := "house.go:239", after := #[{ on := 2, ground := Ground.data }], guard := none }) (v := ?va57) rfl (by kernel_rfl) (by kernel_rfl) (by kernel_rfl) rfl (fun _ _ _ h => h) (Or.inl ⟨by rfl, ?ya57⟩) (fun _ => by assumption) ?ra57
                  case ya57 => (intro w _; go_simp; first | done | (with_reducible rfl) | (rw [if_neg (by omega)]))
                  try simp only [Act.put, List.setIfInBounds_toArray, List.set_cons_zero, List.set_cons_succ]
                  refine takeW (i := 9) (oi := { dst := some 108, op := Op.fieldAddr 32 (Operand.tmp 107) 1, type := 0, pos := "house.go:239", after := #[{ on := 8, ground := Ground.data }], guard := none }) (v := ?va58) rfl (by kernel_rfl) (by kernel_rfl) (by kernel_rfl) rfl (fun _ _ _ h => h) (Or.inl ⟨by rfl, ?ya58⟩) (fun _ => by assumption) ?ra58
                  case ya58 => (intro w _; go_simp; first | done | (with_reducible rfl) | (rw [if_neg (by omega)]))
                  try simp only [Act.put, List.setIfInBounds_toArray, List.set_cons_zero, List.set_cons_succ]
                  refine takeL (i := 4) (oi := { dst := some 103, op := Op.load 28 (Operand.tmp 102), type := 28, pos := "house.go:239", after := #[{ on := 3, ground := Ground.data }], guard := none }) (v := ?va59) rfl (by kernel_rfl) (by kernel_rfl) (by kernel_rfl) (by kernel_rfl) rfl (by kernel_rfl) (by kernel_rfl) (fun _ _ _ h => h) (Or.inl ⟨by rfl, ?ya59⟩) (by assumption) ?ra59
                  case ya59 => (intro w hSw; (try dsimp only at hSw); go_simp; first | done | (with_reducible rfl))
                  try simp only [Act.put, List.setIfInBounds_toArray, List.set_cons_zero, List.set_cons_succ]
                  refine takeL (i := 10) (oi := { dst := some 109, op := Op.load 28 (Operand.tmp 108), type := 28, pos := "house.go:239", after := #[{ on := 9, ground := Ground.data }], guard := none }) (v := ?va60) rfl (by kernel_rfl) (by kernel_rfl) (by kernel_rfl) (by kernel_rfl) rfl (by kernel_rfl) (by kernel_rfl) (fun _ _ _ h => h) (Or.inl ⟨by rfl, ?ya60⟩) (by assumption) ?ra60
                  case ya60 => (intro w hSw; (try dsimp only at hSw); go_simp; first | done | (with_reducible rfl))
                  try simp only [Act.put, List.setIfInBounds_toArray, List.set_cons_zero, List.set_cons_succ]
                  refine takeW (i := 5) (oi := { dst := some 104, op := Op.call { callee := Callee.builtin Builtin.len, args := #[Operand.tmp 103], argTypes := #[28] }, type := 3, pos := "house.go:239", after := #[{ on := 4, ground := Ground.data }], guard := none }) (v := ?va61) rfl (by kernel_rfl) (by kernel_rfl) (by kernel_rfl) rfl (fun _ _ _ h => h) (Or.inl ⟨by rfl, ?ya61⟩) (fun _ => by assumption) ?ra61
                  case ya61 => (intro w _; go_simp; first | done | (with_reducible rfl) | (rw [if_neg (by omega)]))
                  try simp only [Act.put, List.setIfInBounds_toArray, List.set_cons_zero, List.set_cons_succ]
                  refine takeW (i := 11) (oi := { dst := some 110, op := Op.call { callee := Callee.builtin Builtin.len, args := #[Operand.tmp 109], argTypes := #[28] }, type := 3, pos := "house.go:239", after := #[{ on := 10, ground := Ground.data }], guard := none }) (v := ?va62) rfl (by kernel_rfl) (by kernel_rfl) (by kernel_rfl) rfl (fun _ _ _ h => h) (Or.inl ⟨by rfl, ?ya62⟩) (fun _ => by assumption) ?ra62
                  case ya62 => (intro w _; go_simp; first | done | (with_reducible rfl) | (rw [if_neg (by omega)]))
                  try simp only [Act.put, List.setIfInBounds_toArray, List.set_cons_zero, List.set_cons_succ]
                  refine takeW (i := 13) (oi := { dst := some 112, op := Op.binOp BinOp.add 3 (Operand.tmp 110) (Operand.tmp 111) 3, type := 3, pos := "house.go:239", after := #[{ on := 11, ground := Ground.data }, { on := 12, ground := Ground.data }], guard := none }) (v := ?va63) rfl (by kernel_rfl) (by kernel_rfl) (by kernel_rfl) rfl (fun _ _ _ h => h) (Or.inl ⟨by rfl, ?ya63⟩) (fun _ => by assumption) ?ra63
                  case ya63 => (intro w _; go_simp; first | done | (with_reducible rfl) | (rw [if_neg (by omega)]))
                  try simp only [Act.put, List.setIfInBounds_toArray, List.set_cons_zero, List.set_cons_succ]
                  refine takeW (i := 14) (oi := { dst := some 113, op := Op.binOp BinOp.neq 3 (Operand.tmp 104) (Operand.tmp 112) 3, type := 4, pos := "house.go:239", after := #[{ on := 5, ground := Ground.data }, { on := 13, ground := Ground.data }], guard := none }) (v := ?va64) rfl (by kernel_rfl) (by kernel_rfl) (by kernel_rfl) rfl (fun _ _ _ h => h) (Or.inl ⟨by rfl, ?ya64⟩) (fun _ => by assumption) ?ra64
                  case ya64 => (intro w _; go_simp; first | done | (with_reducible rfl) | (rw [if_neg (by omega)]))
                  try simp only [Act.put, List.setIfInBounds_toArray, List.set_cons_zero, List.set_cons_succ]
                  refine takeW (i := 15) (oi := { dst := some 114, op := Op.move (Operand.tmp 113), type := 4, pos := "house.go:239", after := #[{ on := 14, ground := Ground.data }], guard := none }) (v := ?va65) rfl (by kernel_rfl) (by kernel_rfl) (by kernel_rfl) rfl (fun _ _ _ h => h) (Or.inl ⟨by rfl, ?ya65⟩) (fun _ => by assumption) ?ra65
                  case ya65 => (intro w _; go_simp; first | done | (with_reducible rfl) | (rw [if_neg (by omega)]))
                  try simp only [Act.put, List.setIfInBounds_toArray, List.set_cons_zero, List.set_cons_succ]
                  refine takeW (i := 16) (oi := { dst := some 115, op := Op.move (Operand.tmp 12), type := 22, pos := "house.go:239", after := #[{ on := 15, ground := Ground.guard }], guard := some (15, false) }) (v := ?va66) rfl (by kernel_rfl) (by kernel_rfl) (by kernel_rfl) rfl (fun _ _ _ h => h) (Or.inl ⟨by rfl, ?ya66⟩) (fun _ => by assumption) ?ra66
                  case ya66 => (intro w _; go_simp; first | done | (with_reducible rfl) | (rw [if_neg (by omega)]))
                  try simp only [Act.put, List.setIfInBounds_toArray, List.set_cons_zero, List.set_cons_succ]
                  refine takeW (i := 17) (oi := { dst := some 116, op := Op.move (Operand.tmp 16), type := 3, pos := "house.go:239", after := #[{ on := 15, ground := Ground.guard }], guard := some (15, false) }) (v := ?va67) rfl (by kernel_rfl) (by kernel_rfl) (by kernel_rfl) rfl (fun _ _ _ h => h) (Or.inl ⟨by rfl, ?ya67⟩) (fun _ => by assumption) ?ra67
                  case ya67 => (intro w _; go_simp; first | done | (with_reducible rfl) | (rw [if_neg (by omega)]))
                  try simp only [Act.put, List.setIfInBounds_toArray, List.set_cons_zero, List.set_cons_succ]
                  refine takeW (i := 21) (oi := { dst := some 120, op := Op.move (Operand.tmp 0), type := 22, pos := "house.go:239", after := #[{ on := 15, ground := Ground.guard }], guard := some (15, false) }) (v := ?va68) rfl (by kernel_rfl) (by kernel_rfl) (by kernel_rfl) rfl (fun _ _ _ h => h) (Or.inl ⟨by rfl, ?ya68⟩) (fun _ => by assumption) ?ra68
                  case ya68 => (intro w _; go_simp; first | done | (with_reducible rfl) | (rw [if_neg (by omega)]))
                  try simp only [Act.put, List.setIfInBounds_toArray, List.set_cons_zero, List.set_cons_succ]
                  refine takeW (i := 22) (oi := { dst := some 121, op := Op.move (Operand.tmp 16), type := 3, pos := "house.go:239", after := #[{ on := 15, ground := Ground.guard }], guard := some (15, false) }) (v := ?va69) rfl (by kernel_rfl) (by kernel_rfl) (by kernel_rfl) rfl (fun _ _ _ h => h) (Or.inl ⟨by rfl, ?ya69⟩) (fun _ => by assumption) ?ra69
                  case ya69 => (intro w _; go_simp; first | done | (with_reducible rfl) | (rw [if_neg (by omega)]))
                  try simp only [Act.put, List.setIfInBounds_toArray, List.set_cons_zero, List.set_cons_succ]
                  refine takeW (i := 18) (oi := { dst := some 117, op := Op.indexAddr 22 (Operand.tmp 115) (Operand.tmp 116), type := 0, pos := "house.go:239", after := #[{ on := 16, ground := Ground.data }, { on := 17, ground := Ground.data }, { on := 15, ground := Ground.guard }], guard := some (15, false) }) (v := ?va70) rfl (by kernel_rfl) (by kernel_rfl) (by kernel_rfl) rfl (fun _ _ _ h => h) (Or.inl ⟨by rfl, ?ya70⟩) (fun _ => by assumption) ?ra70
                  case ya70 => (intro w _; go_simp; first | done | (with_reducible rfl) | (rw [if_neg (by omega)]))
                  try simp only [Act.put, List.setIfInBounds_toArray, List.set_cons_zero, List.set_cons_succ]
                  refine takeW (i := 23) (oi := { dst := some 122, op := Op.indexAddr 22 (Operand.tmp 120) (Operand.tmp 121), type := 0, pos := "house.go:239", after := #[{ on := 21, ground := Ground.data }, { on := 22, ground := Ground.data }, { on := 15, ground := Ground.guard }], guard := some (15, false) }) (v := ?va71) rfl (by kernel_rfl) (by kernel_rfl) (by kernel_rfl) rfl (fun _ _ _ h => h) (Or.inl ⟨by rfl, ?ya71⟩) (fun _ => by assumption) ?ra71
                  case ya71 => (intro w _; go_simp; first | done | (with_reducible rfl) | (rw [if_neg (by omega)]))
                  try simp only [Act.put, List.setIfInBounds_toArray, List.set_cons_zero, List.set_cons_succ]
                  refine takeW (i := 19) (oi := { dst := some 118, op := Op.fieldAddr 32 (Operand.tmp 117) 3, type := 0, pos := "house.go:239", after := #[{ on := 18, ground := Ground.data }, { on := 15, ground := Ground.guard }], guard := some (15, false) }) (v := ?va72) rfl (by kernel_rfl) (by kernel_rfl) (by kernel_rfl) rfl (fun _ _ _ h => h) (Or.inl ⟨by rfl, ?ya72⟩) (fun _ => by assumption) ?ra72
                  case ya72 => (intro w _; go_simp; first | done | (with_reducible rfl) | (rw [if_neg (by omega)]))
                  try simp only [Act.put, List.setIfInBounds_toArray, List.set_cons_zero, List.set_cons_succ]
                  refine takeW (i := 24) (oi := { dst := some 123, op := Op.fieldAddr 32 (Operand.tmp 122) 3, type := 0, pos := "house.go:239", after := #[{ on := 23, ground := Ground.data }, { on := 15, ground := Ground.guard }], guard := some (15, false) }) (v := ?va73) rfl (by kernel_rfl) (by kernel_rfl) (by kernel_rfl) rfl (fun _ _ _ h => h) (Or.inl ⟨by rfl, ?ya73⟩) (fun _ => by assumption) ?ra73
                  case ya73 => (intro w _; go_simp; first | done | (with_reducible rfl) | (rw [if_neg (by omega)]))
                  try simp only [Act.put, List.setIfInBounds_toArray, List.set_cons_zero, List.set_cons_succ]
                  refine takeL (i := 20) (oi := { dst := some 119, op := Op.load 4 (Operand.tmp 118), type := 4, pos := "house.go:239", after := #[{ on := 19, ground := Ground.data }, { on := 15, ground := Ground.guard }], guard := some (15, false) }) (v := ?va74) rfl (by kernel_rfl) (by kernel_rfl) (by kernel_rfl) (by kernel_rfl) rfl (by kernel_rfl) (by kernel_rfl) (fun _ _ _ h => h) (Or.inl ⟨by rfl, ?ya74⟩) (by assumption) ?ra74
                  case ya74 => (intro w hSw; (try dsimp only at hSw); go_simp; first | done | (with_reducible rfl))
                  try simp only [Act.put, List.setIfInBounds_toArray, List.set_cons_zero, List.set_cons_succ]
                  refine takeL (i := 25) (oi := { dst := some 124, op := Op.load 4 (Operand.tmp 123), type := 4, pos := "house.go:239", after := #[{ on := 24, ground := Ground.data }, { on := 15, ground := Ground.guard }], guard := some (15, false) }) (v := ?va75) rfl (by kernel_rfl) (by kernel_rfl) (by kernel_rfl) (by kernel_rfl) rfl (by kernel_rfl) (by kernel_rfl) (fun _ _ _ h => h) (Or.inl ⟨by rfl, ?ya75⟩) (by assumption) ?ra75
                  case ya75 => (intro w hSw; (try dsimp only at hSw); go_simp; first | done | (with_reducible rfl))
                  try simp only [Act.put, List.setIfInBounds_toArray, List.set_cons_zero, List.set_cons_succ]
                  refine takeW (i := 26) (oi := { dst := some 125, op := Op.move (Operand.tmp 124), type := 4, pos := "house.go:239", after := #[{ on := 25, ground := Ground.data }, { on := 15, ground := Ground.chain }, { on := 15, ground := Ground.guard }], guard := some (15, false) }) (v := ?va76) rfl (by kernel_rfl) (by kernel_rfl) (by kernel_rfl) rfl (fun _ _ _ h => h) (Or.inl ⟨by rfl, ?ya76⟩) (fun _ => by assumption) ?ra76
                  case ya76 => (intro w _; go_simp; first | done | (with_reducible rfl) | (rw [if_neg (by omega)]))
                  try simp only [Act.put, List.setIfInBounds_toArray, List.set_cons_zero, List.set_cons_succ]
                  refine takeW (i := 27) (oi := { dst := some 126, op := Op.move (Operand.tmp 16), type := 3, pos := "house.go:239", after := #[{ on := 26, ground := Ground.guard }], guard := some (26, false) }) (v := ?va77) rfl (by kernel_rfl) (by kernel_rfl) (by kernel_rfl) rfl (fun _ _ _ h => h) (Or.inl ⟨by rfl, ?ya77⟩) (fun _ => by assumption) ?ra77
                  case ya77 => (intro w _; go_simp; first | done | (with_reducible rfl) | (rw [if_neg (by omega)]))
                  try simp only [Act.put, List.setIfInBounds_toArray, List.set_cons_zero, List.set_cons_succ]
                  refine takeW (i := 28) (oi := { dst := some 127, op := Op.move (Operand.tmp 7), type := 3, pos := "house.go:239", after := #[{ on := 26, ground := Ground.guard }], guard := some (26, false) }) (v := ?va78) rfl (by kernel_rfl) (by kernel_rfl) (by kernel_rfl) rfl (fun _ _ _ h => h) (Or.inl ⟨by rfl, ?ya78⟩) (fun _ => by assumption) ?ra78
                  case ya78 => (intro w _; go_simp; first | done | (with_reducible rfl) | (rw [if_neg (by omega)]))
                  try simp only [Act.put, List.setIfInBounds_toArray, List.set_cons_zero, List.set_cons_succ]
                  refine takeW (i := 29) (oi := { dst := some 128, op := Op.binOp BinOp.eql 3 (Operand.tmp 126) (Operand.tmp 127) 3, type := 4, pos := "house.go:239", after := #[{ on := 27, ground := Ground.data }, { on := 28, ground := Ground.data }, { on := 26, ground := Ground.guard }], guard := some (26, false) }) (v := ?va79) rfl (by kernel_rfl) (by kernel_rfl) (by kernel_rfl) rfl (fun _ _ _ h => h) (Or.inl ⟨by rfl, ?ya79⟩) (fun _ => by assumption) ?ra79
                  case ya79 => (intro w _; go_simp; first | done | (with_reducible rfl) | (rw [if_neg (by omega)]))
                  try simp only [Act.put, List.setIfInBounds_toArray, List.set_cons_zero, List.set_cons_succ]
                  refine takeW (i := 30) (oi := { dst := some 129, op := Op.pick (Operand.tmp 125) (Operand.const (Value.bool true)) (Operand.tmp 128), type := 4, pos := "house.go:239", after := #[{ on := 26, ground := Ground.data }, { on := 29, ground := Ground.data }, { on := 15, ground := Ground.guard }], guard := some (15, false) }) (v := ?va80) rfl (by kernel_rfl) (by kernel_rfl) (by kernel_rfl) rfl (fun _ _ _ h => h) (Or.inl ⟨by rfl, ?ya80⟩) (fun _ => by assumption) ?ra80
                  case ya80 => (intro w _; go_simp; first | done | (with_reducible rfl) | (rw [if_neg (by omega)]))
                  try simp only [Act.put, List.setIfInBounds_toArray, List.set_cons_zero, List.set_cons_succ]
                  refine takeW (i := 31) (oi := { dst := some 130, op := Op.binOp BinOp.neq 4 (Operand.tmp 119) (Operand.tmp 129) 4, type := 4, pos := "house.go:239", after := #[{ on := 20, ground := Ground.data }, { on := 30, ground := Ground.data }, { on := 15, ground := Ground.guard }], guard := some (15, false) }) (v := ?va81) rfl (by kernel_rfl) (by kernel_rfl) (by kernel_rfl) rfl (fun _ _ _ h => h) (Or.inl ⟨by rfl, ?ya81⟩) (fun _ => by assumption) ?ra81
                  case ya81 => (intro w _; go_simp; first | done | (with_reducible rfl) | (rw [if_neg (by omega)]))
                  try simp only [Act.put, List.setIfInBounds_toArray, List.set_cons_zero, List.set_cons_succ]
                  refine takeW (i := 32) (oi := { dst := some 131, op := Op.pick (Operand.tmp 114) (Operand.const (Value.bool true)) (Operand.tmp 130), type := 4, pos := "house.go:239", after := #[{ on := 15, ground := Ground.data }, { on := 31, ground := Ground.data }], guard := none }) (v := ?va82) rfl (by kernel_rfl) (by kernel_rfl) (by kernel_rfl) rfl (fun _ _ _ h => h) (Or.inl ⟨by rfl, ?ya82⟩) (fun _ => by assumption) ?ra82
                  case ya82 => (intro w _; go_simp; first | done | (with_reducible rfl) | (rw [if_neg (by omega)]))
                  try simp only [Act.put, List.setIfInBounds_toArray, List.set_cons_zero, List.set_cons_succ]
                  refine doneL (by kernel_rfl) ?_ _
                  refine NoPanic.normal ?_
                  clear hHeld
                  go_wp2_with fail
                  go_roundw
                  case rel => exact ⟨k + 1, _, _, rfl, rfl, by omega, by go_num, by rw [HS1.out], by rw [HS2.out], Lib.hid (below_drewN HBd.out 1)⟩
                  case measure => simp [intOf]; omega
                · go_upto_region 26 with (fail)
                  refine wp_region_noPanic ?_
                  refine beginL (S := (fun w' => w'.cell? ⟨g, o + k * 4 + 1, none⟩ = some (.slice oa1 len oc1) ∧ w'.cell? ⟨g, o + k * 4 + 3, none⟩ = some (.bool true) ∧ w'.cell? ⟨mg, mo + k * 4 + 1, none⟩ = some (.slice oa2 (len + 1) oc2) ∧ w'.cell? ⟨mg, mo + k * 4 + 3, none⟩ = some (.bool true))) (L := []) (by kernel_rfl) rd (fun hHeld => ?_)
                  refine takeW (i := 0) (oi := { dst := some 99, op := Op.move (Operand.tmp 12), type := 22, pos := "house.go:239", after := #[], guard := none }) (v := ?va83) rfl (by kernel_rfl) (by kernel_rfl) (by kernel_rfl) rfl (fun _ _ _ h => h) (Or.inl ⟨by rfl, ?ya83⟩) (fun _ => by assumption) ?ra83
                  case ya83 => (intro w _; go_simp; first | done | (with_reducible rfl) | (rw [if_neg (by omega)]))
                  try simp only [Act.put, List.setIfInBounds_toArray, List.set_cons_zero, List.set_cons_succ]
                  refine takeW (i := 1) (oi := { dst := some 100, op := Op.move (Operand.tmp 16), type := 3, pos := "house.go:239", after := #[], guard := none }) (v := ?va84) rfl (by kernel_rfl) (by kernel_rfl) (by kernel_rfl) rfl (fun _ _ _ h => h) (Or.inl ⟨by rfl, ?ya84⟩) (fun _ => by assumption) ?ra84
                  case ya84 => (intro w _; go_simp; first | done | (with_reducible rfl) | (rw [if_neg (by omega)]))
                  try simp only [Act.put, List.setIfInBounds_toArray, List.set_cons_zero, List.set_cons_succ]
                  refine takeW (i := 6) (oi := { dst := some 105, op := Op.move (Operand.tmp 0), type := 22, pos := "house.go:239", after := #[], guard := none }) (v := ?va85) rfl (by kernel_rfl) (by kernel_rfl) (by kernel_rfl) rfl (fun _ _ _ h => h) (Or.inl ⟨by rfl, ?ya85⟩) (fun _ => by assumption) ?ra85
                  case ya85 => (intro w _; go_simp; first | done | (with_reducible rfl) | (rw [if_neg (by omega)]))
                  try simp only [Act.put, List.setIfInBounds_toArray, List.set_cons_zero, List.set_cons_succ]
                  refine takeW (i := 7) (oi := { dst := some 106, op := Op.move (Operand.tmp 16), type := 3, pos := "house.go:239", after := #[], guard := none }) (v := ?va86) rfl (by kernel_rfl) (by kernel_rfl) (by kernel_rfl) rfl (fun _ _ _ h => h) (Or.inl ⟨by rfl, ?ya86⟩) (fun _ => by assumption) ?ra86
                  case ya86 => (intro w _; go_simp; first | done | (with_reducible rfl) | (rw [if_neg (by omega)]))
                  try simp only [Act.put, List.setIfInBounds_toArray, List.set_cons_zero, List.set_cons_succ]
                  refine takeW (i := 12) (oi := { dst := some 111, op := Op.move (Operand.tmp 17), type := 3, pos := "house.go:239", after := #[], guard := none }) (v := ?va87) rfl (by kernel_rfl) (by kernel_rfl) (by kernel_rfl) rfl (fun _ _ _ h => h) (Or.inl ⟨by rfl, ?ya87⟩) (fun _ => by assumption) ?ra87
                  case ya87 => (intro w _; go_simp; first | done | (with_reducible rfl) | (rw [if_neg (by omega)]))
                  try simp only [Act.put, List.setIfInBounds_toArray, List.set_cons_zero, List.set_cons_succ]
                  refine takeW (i := 2) (oi := { dst := some 101, op := Op.indexAddr 22 (Operand.tmp 99) (Operand.tmp 100), type := 0, pos := "house.go:239", after := #[{ on := 0, ground := Ground.data }, { on := 1, ground := Ground.data }], guard := none }) (v := ?va88) rfl (by kernel_rfl) (by kernel_rfl) (by kernel_rfl) rfl (fun _ _ _ h => h) (Or.inl ⟨by rfl, ?ya88⟩) (fun _ => by assumption) ?ra88
                  case ya88 => (intro w _; go_simp; first | done | (with_reducible rfl) | (rw [if_neg (by omega)]))
                  try simp only [Act.put, List.setIfInBounds_toArray, List.set_cons_zero, List.set_cons_succ]
                  refine takeW (i := 8) (oi := { dst := some 107, op := Op.indexAddr 22 (Operand.tmp 105) (Operand.tmp 106), type := 0, pos := "house.go:239", after := #[{ on := 6, ground := Ground.data }, { on := 7, ground := Ground.data }], guard := none }) (v := ?va89) rfl (by kernel_rfl) (by kernel_rfl) (by kernel_rfl) rfl (fun _ _ _ h => h) (Or.inl ⟨by rfl, ?ya89⟩) (fun _ => by assumption) ?ra89
                  case ya89 => (intro w _; go_simp; first | done | (with_reducible rfl) | (rw [if_neg (by omega)]))
                  try simp only [Act.put, List.setIfInBounds_toArray, List.set_cons_zero, List.set_cons_succ]
                  refine takeW (i := 3) (oi := { dst := some 102, op := Op.fieldAddr 32 (Operand.tmp 101) 1, type := 0, pos := "house.go:239", after := #[{ on := 2, ground := Ground.data }], guard := none }) (v := ?va90) rfl (by kernel_rfl) (by kernel_rfl) (by kernel_rfl) rfl (fun _ _ _ h => h) (Or.inl ⟨by rfl, ?ya90⟩) (fun _ => by assumption) ?ra90
                  case ya90 => (intro w _; go_simp; first | done | (with_reducible rfl) | (rw [if_neg (by omega)]))
                  try simp only [Act.put, List.setIfInBounds_toArray, List.set_cons_zero, List.set_cons_succ]
                  refine takeW (i := 9) (oi := { dst := some 108, op := Op.fieldAddr 32 (Operand.tmp 107) 1, type := 0, pos := "house.go:239", after := #[{ on := 8, ground := Ground.data }], guard := none }) (v := ?va91) rfl (by kernel_rfl) (by kernel_rfl) (by kernel_rfl) rfl (fun _ _ _ h => h) (Or.inl ⟨by rfl, ?ya91⟩) (fun _ => by assumption) ?ra91
                  case ya91 => (intro w _; go_simp; first | done | (with_reducible rfl) | (rw [if_neg (by omega)]))
                  try simp only [Act.put, List.setIfInBounds_toArray, List.set_cons_zero, List.set_cons_succ]
                  refine takeL (i := 4) (oi := { dst := some 103, op := Op.load 28 (Operand.tmp 102), type := 28, pos := "house.go:239", after := #[{ on := 3, ground := Ground.data }], guard := none }) (v := ?va92) rfl (by kernel_rfl) (by kernel_rfl) (by kernel_rfl) (by kernel_rfl) rfl (by kernel_rfl) (by kernel_rfl) (fun _ _ _ h => h) (Or.inl ⟨by rfl, ?ya92⟩) (by assumption) ?ra92
                  case ya92 => (intro w hSw; (try dsimp only at hSw); go_simp; first | done | (with_reducible rfl))
                  try simp only [Act.put, List.setIfInBounds_toArray, List.set_cons_zero, List.set_cons_succ]
                  refine takeL (i := 10) (oi := { dst := some 109, op := Op.load 28 (Operand.tmp 108), type := 28, pos := "house.go:239", after := #[{ on := 9, ground := Ground.data }], guard := none }) (v := ?va93) rfl (by kernel_rfl) (by kernel_rfl) (by kernel_rfl) (by kernel_rfl) rfl (by kernel_rfl) (by kernel_rfl) (fun _ _ _ h => h) (Or.inl ⟨by rfl, ?ya93⟩) (by assumption) ?ra93
                  case ya93 => (intro w hSw; (try dsimp only at hSw); go_simp; first | done | (with_reducible rfl))
                  try simp only [Act.put, List.setIfInBounds_toArray, List.set_cons_zero, List.set_cons_succ]
                  refine takeW (i := 5) (oi := { dst := some 104, op := Op.call { callee := Callee.builtin Builtin.len, args := #[Operand.tmp 103], argTypes := #[28] }, type := 3, pos := "house.go:239", after := #[{ on := 4, ground := Ground.data }], guard := none }) (v := ?va94) rfl (by kernel_rfl) (by kernel_rfl) (by kernel_rfl) rfl (fun _ _ _ h => h) (Or.inl ⟨by rfl, ?ya94⟩) (fun _ => by assumption) ?ra94
                  case ya94 => (intro w _; go_simp; first | done | (with_reducible rfl) | (rw [if_neg (by omega)]))
                  try simp only [Act.put, List.setIfInBounds_toArray, List.set_cons_zero, List.set_cons_succ]
                  refine takeW (i := 11) (oi := { dst := some 110, op := Op.call { callee := Callee.builtin Builtin.len, args := #[Operand.tmp 109], argTypes := #[28] }, type := 3, pos := "house.go:239", after := #[{ on := 10, ground := Ground.data }], guard := none }) (v := ?va95) rfl (by kernel_rfl) (by kernel_rfl) (by kernel_rfl) rfl (fun _ _ _ h => h) (Or.inl ⟨by rfl, ?ya95⟩) (fun _ => by assumption) ?ra95
                  case ya95 => (intro w _; go_simp; first | done | (with_reducible rfl) | (rw [if_neg (by omega)]))
                  try simp only [Act.put, List.setIfInBounds_toArray, List.set_cons_zero, List.set_cons_succ]
                  refine takeW (i := 13) (oi := { dst := some 112, op := Op.binOp BinOp.add 3 (Operand.tmp 110) (Operand.tmp 111) 3, type := 3, pos := "house.go:239", after := #[{ on := 11, ground := Ground.data }, { on := 12, ground := Ground.data }], guard := none }) (v := ?va96) rfl (by kernel_rfl) (by kernel_rfl) (by kernel_rfl) rfl (fun _ _ _ h => h) (Or.inl ⟨by rfl, ?ya96⟩) (fun _ => by assumption) ?ra96
                  case ya96 => (intro w _; go_simp; first | done | (with_reducible rfl) | (rw [if_neg (by omega)]))
                  try simp only [Act.put, List.setIfInBounds_toArray, List.set_cons_zero, List.set_cons_succ]
                  refine takeW (i := 14) (oi := { dst := some 113, op := Op.binOp BinOp.neq 3 (Operand.tmp 104) (Operand.tmp 112) 3, type := 4, pos := "house.go:239", after := #[{ on := 5, ground := Ground.data }, { on := 13, ground := Ground.data }], guard := none }) (v := ?va97) rfl (by kernel_rfl) (by kernel_rfl) (by kernel_rfl) rfl (fun _ _ _ h => h) (Or.inl ⟨by rfl, ?ya97⟩) (fun _ => by assumption) ?ra97
                  case ya97 => (intro w _; go_simp; first | done | (with_reducible rfl) | (rw [if_neg (by omega)]))
                  try simp only [Act.put, List.setIfInBounds_toArray, List.set_cons_zero, List.set_cons_succ]
                  refine takeW (i := 15) (oi := { dst := some 114, op := Op.move (Operand.tmp 113), type := 4, pos := "house.go:239", after := #[{ on := 14, ground := Ground.data }], guard := none }) (v := ?va98) rfl (by kernel_rfl) (by kernel_rfl) (by kernel_rfl) rfl (fun _ _ _ h => h) (Or.inl ⟨by rfl, ?ya98⟩) (fun _ => by assumption) ?ra98
                  case ya98 => (intro w _; go_simp; first | done | (with_reducible rfl) | (rw [if_neg (by omega)]))
                  try simp only [Act.put, List.setIfInBounds_toArray, List.set_cons_zero, List.set_cons_succ]
                  refine takeW (i := 16) (oi := { dst := some 115, op := Op.move (Operand.tmp 12), type := 22, pos := "house.go:239", after := #[{ on := 15, ground := Ground.guard }], guard := some (15, false) }) (v := ?va99) rfl (by kernel_rfl) (by kernel_rfl) (by kernel_rfl) rfl (fun _ _ _ h => h) (Or.inl ⟨by rfl, ?ya99⟩) (fun _ => by assumption) ?ra99
                  case ya99 => (intro w _; go_simp; first | done | (with_reducible rfl) | (rw [if_neg (by omega)]))
                  try simp only [Act.put, List.setIfInBounds_toArray, List.set_cons_zero, List.set_cons_succ]
                  refine takeW (i := 17) (oi := { dst := some 116, op := Op.move (Operand.tmp 16), type := 3, pos := "house.go:239", after := #[{ on := 15, ground := Ground.guard }], guard := some (15, false) }) (v := ?va100) rfl (by kernel_rfl) (by kernel_rfl) (by kernel_rfl) rfl (fun _ _ _ h => h) (Or.inl ⟨by rfl, ?ya100⟩) (fun _ => by assumption) ?ra100
                  case ya100 => (intro w _; go_simp; first | done | (with_reducible rfl) | (rw [if_neg (by omega)]))
                  try simp only [Act.put, List.setIfInBounds_toArray, List.set_cons_zero, List.set_cons_succ]
                  refine takeW (i := 21) (oi := { dst := some 120, op := Op.move (Operand.tmp 0), type := 22, pos := "house.go:239", after := #[{ on := 15, ground := Ground.guard }], guard := some (15, false) }) (v := ?va101) rfl (by kernel_rfl) (by kernel_rfl) (by kernel_rfl) rfl (fun _ _ _ h => h) (Or.inl ⟨by rfl, ?ya101⟩) (fun _ => by assumption) ?ra101
                  case ya101 => (intro w _; go_simp; first | done | (with_reducible rfl) | (rw [if_neg (by omega)]))
                  try simp only [Act.put, List.setIfInBounds_toArray, List.set_cons_zero, List.set_cons_succ]
                  refine takeW (i := 22) (oi := { dst := some 121, op := Op.move (Operand.tmp 16), type := 3, pos := "house.go:239", after := #[{ on := 15, ground := Ground.guard }], guard := some (15, false) }) (v := ?va102) rfl (by kernel_rfl) (by kernel_rfl) (by kernel_rfl) rfl (fun _ _ _ h => h) (Or.inl ⟨by rfl, ?ya102⟩) (fun _ => by assumption) ?ra102
                  case ya102 => (intro w _; go_simp; first | done | (with_reducible rfl) | (rw [if_neg (by omega)]))
                  try simp only [Act.put, List.setIfInBounds_toArray, List.set_cons_zero, List.set_cons_succ]
                  refine takeW (i := 18) (oi := { dst := some 117, op := Op.indexAddr 22 (Operand.tmp 115) (Operand.tmp 116), type := 0, pos := "house.go:239", after := #[{ on := 16, ground := Ground.data }, { on := 17, ground := Ground.data }, { on := 15, ground := Ground.guard }], guard := some (15, false) }) (v := ?va103) rfl (by kernel_rfl) (by kernel_rfl) (by kernel_rfl) rfl (fun _ _ _ h => h) (Or.inl ⟨by rfl, ?ya103⟩) (fun _ => by assumption) ?ra103
                  case ya103 => (intro w _; go_simp; first | done | (with_reducible rfl) | (rw [if_neg (by omega)]))
                  try simp only [Act.put, List.setIfInBounds_toArray, List.set_cons_zero, List.set_cons_succ]
                  refine takeW (i := 23) (oi := { dst := some 122, op := Op.indexAddr 22 (Operand.tmp 120) (Operand.tmp 121), type := 0, pos := "house.go:239", after := #[{ on := 21, ground := Ground.data }, { on := 22, ground := Ground.data }, { on := 15, ground := Ground.guard }], guard := some (15, false) }) (v := ?va104) rfl (by kernel_rfl) (by kernel_rfl) (by kernel_rfl) rfl (fun _ _ _ h => h) (Or.inl ⟨by rfl, ?ya104⟩) (fun _ => by assumption) ?ra104
                  case ya104 => (intro w _; go_simp; first | done | (with_reducible rfl) | (rw [if_neg (by omega)]))
                  try simp only [Act.put, List.setIfInBounds_toArray, List.set_cons_zero, List.set_cons_succ]
                  refine takeW (i := 19) (oi := { dst := some 118, op := Op.fieldAddr 32 (Operand.tmp 117) 3, type := 0, pos := "house.go:239", after := #[{ on := 18, ground := Ground.data }, { on := 15, ground := Ground.guard }], guard := some (15, false) }) (v := ?va105) rfl (by kernel_rfl) (by kernel_rfl) (by kernel_rfl) rfl (fun _ _ _ h => h) (Or.inl ⟨by rfl, ?ya105⟩) (fun _ => by assumption) ?ra105
                  case ya105 => (intro w _; go_simp; first | done | (with_reducible rfl) | (rw [if_neg (by omega)]))
                  try simp only [Act.put, List.setIfInBounds_toArray, List.set_cons_zero, List.set_cons_succ]
                  refine takeW (i := 24) (oi := { dst := some 123, op := Op.fieldAddr 32 (Operand.tmp 122) 3, type := 0, pos := "house.go:239", after := #[{ on := 23, ground := Ground.data }, { on := 15, ground := Ground.guard }], guard := some (15, false) }) (v := ?va106) rfl (by kernel_rfl) (by kernel_rfl) (by kernel_rfl) rfl (fun _ _ _ h => h) (Or.inl ⟨by rfl, ?ya106⟩) (fun _ => by assumption) ?ra106
                  case ya106 => (intro w _; go_simp; first | done | (with_reducible rfl) | (rw [if_neg (by omega)]))
                  try simp only [Act.put, List.setIfInBounds_toArray, List.set_cons_zero, List.set_cons_succ]
                  refine takeL (i := 20) (oi := { dst := some 119, op := Op.load 4 (Operand.tmp 118), type := 4, pos := "house.go:239", after := #[{ on := 19, ground := Ground.data }, { on := 15, ground := Ground.guard }], guard := some (15, false) }) (v := ?va107) rfl (by kernel_rfl) (by kernel_rfl) (by kernel_rfl) (by kernel_rfl) rfl (by kernel_rfl) (by kernel_rfl) (fun _ _ _ h => h) (Or.inl ⟨by rfl, ?ya107⟩) (by assumption) ?ra107
                  case ya107 => (intro w hSw; (try dsimp only at hSw); go_simp; first | done | (with_reducible rfl))
                  try simp only [Act.put, List.setIfInBounds_toArray, List.set_cons_zero, List.set_cons_succ]
                  refine takeL (i := 25) (oi := { dst := some 124, op := Op.load 4 (Operand.tmp 123), type := 4, pos := "house.go:239", after := #[{ on := 24, ground := Ground.data }, { on := 15, ground := Ground.guard }], guard := some (15, false) }) (v := ?va108) rfl (by kernel_rfl) (by kernel_rfl) (by kernel_rfl) (by kernel_rfl) rfl (by kernel_rfl) (by kernel_rfl) (fun _ _ _ h => h) (Or.inl ⟨by rfl, ?ya108⟩) (by assumption) ?ra108
                  case ya108 => (intro w hSw; (try dsimp only at hSw); go_simp; first | done | (with_reducible rfl))
                  try simp only [Act.put, List.setIfInBounds_toArray, List.set_cons_zero, List.set_cons_succ]
                  refine takeW (i := 26) (oi := { dst := some 125, op := Op.move (Operand.tmp 124), type := 4, pos := "house.go:239", after := #[{ on := 25, ground := Ground.data }, { on := 15, ground := Ground.chain }, { on := 15, ground := Ground.guard }], guard := some (15, false) }) (v := ?va109) rfl (by kernel_rfl) (by kernel_rfl) (by kernel_rfl) rfl (fun _ _ _ h => h) (Or.inl ⟨by rfl, ?ya109⟩) (fun _ => by assumption) ?ra109
                  case ya109 => (intro w _; go_simp; first | done | (with_reducible rfl) | (rw [if_neg (by omega)]))
                  try simp only [Act.put, List.setIfInBounds_toArray, List.set_cons_zero, List.set_cons_succ]
                  refine takeW (i := 27) (oi := { dst := some 126, op := Op.move (Operand.tmp 16), type := 3, pos := "house.go:239", after := #[{ on := 26, ground := Ground.guard }], guard := some (26, false) }) (v := undef) rfl (by kernel_rfl) (by kernel_rfl) (by kernel_rfl) rfl (fun _ _ _ h => h) (Or.inr ⟨by rfl, rfl⟩) (fun _ => by assumption) ?_
                  try simp only [Act.put, List.setIfInBounds_toArray, List.set_cons_zero, List.set_cons_succ]
                  refine takeW (i := 28) (oi := { dst := some 127, op := Op.move (Operand.tmp 7), type := 3, pos := "house.go:239", after := #[{ on := 26, ground := Ground.guard }], guard := some (26, false) }) (v := undef) rfl (by kernel_rfl) (by kernel_rfl) (by kernel_rfl) rfl (fun _ _ _ h => h) (Or.inr ⟨by rfl, rfl⟩) (fun _ => by assumption) ?_
                  try simp only [Act.put, List.setIfInBounds_toArray, List.set_cons_zero, List.set_cons_succ]
                  refine takeW (i := 29) (oi := { dst := some 128, op := Op.binOp BinOp.eql 3 (Operand.tmp 126) (Operand.tmp 127) 3, type := 4, pos := "house.go:239", after := #[{ on := 27, ground := Ground.data }, { on := 28, ground := Ground.data }, { on := 26, ground := Ground.guard }], guard := some (26, false) }) (v := undef) rfl (by kernel_rfl) (by kernel_rfl) (by kernel_rfl) rfl (fun _ _ _ h => h) (Or.inr ⟨by rfl, rfl⟩) (fun _ => by assumption) ?_
                  try simp only [Act.put, List.setIfInBounds_toArray, List.set_cons_zero, List.set_cons_succ]
                  refine takeW (i := 30) (oi := { dst := some 129, op := Op.pick (Operand.tmp 125) (Operand.const (Value.bool true)) (Operand.tmp 128), type := 4, pos := "house.go:239", after := #[{ on := 26, ground := Ground.data }, { on := 29, ground := Ground.data }, { on := 15, ground := Ground.guard }], guard := some (15, false) }) (v := ?va113) rfl (by kernel_rfl) (by kernel_rfl) (by kernel_rfl) rfl (fun _ _ _ h => h) (Or.inl ⟨by rfl, ?ya113⟩) (fun _ => by assumption) ?ra113
                  case ya113 => (intro w _; go_simp; first | done | (with_reducible rfl) | (rw [if_neg (by omega)]))
                  try simp only [Act.put, List.setIfInBounds_toArray, List.set_cons_zero, List.set_cons_succ]
                  refine takeW (i := 31) (oi := { dst := some 130, op := Op.binOp BinOp.neq 4 (Operand.tmp 119) (Operand.tmp 129) 4, type := 4, pos := "house.go:239", after := #[{ on := 20, ground := Ground.data }, { on := 30, ground := Ground.data }, { on := 15, ground := Ground.guard }], guard := some (15, false) }) (v := ?va114) rfl (by kernel_rfl) (by kernel_rfl) (by kernel_rfl) rfl (fun _ _ _ h => h) (Or.inl ⟨by rfl, ?ya114⟩) (fun _ => by assumption) ?ra114
                  case ya114 => (intro w _; go_simp; first | done | (with_reducible rfl) | (rw [if_neg (by omega)]))
                  try simp only [Act.put, List.setIfInBounds_toArray, List.set_cons_zero, List.set_cons_succ]
                  refine takeW (i := 32) (oi := { dst := some 131, op := Op.pick (Operand.tmp 114) (Operand.const (Value.bool true)) (Operand.tmp 130), type := 4, pos := "house.go:239", after := #[{ on := 15, ground := Ground.data }, { on := 31, ground := Ground.data }], guard := none }) (v := ?va115) rfl (by kernel_rfl) (by kernel_rfl) (by kernel_rfl) rfl (fun _ _ _ h => h) (Or.inl ⟨by rfl, ?ya115⟩) (fun _ => by assumption) ?ra115
                  case ya115 => (intro w _; go_simp; first | done | (with_reducible rfl) | (rw [if_neg (by omega)]))
                  try simp only [Act.put, List.setIfInBounds_toArray, List.set_cons_zero, List.set_cons_succ]
                  refine doneL (by kernel_rfl) ?_ _
                  refine NoPanic.normal ?_
                  clear hHeld
                  go_wp2_with fail
                  go_roundw
                  case rel => exact ⟨k + 1, _, _, rfl, rfl, by omega, by go_num, by rw [HS1.out], by rw [HS2.out], Lib.hid (below_drewN HBd.out 1)⟩
                  case measure => simp [intOf]; omega
            · obtain rfl : k = ps.length := by omega
              rw [HSum.out]
              have hb1 := sum_b (fun i => (plAt ps i).score) 40 (by omega) ps.length (fun i hi => (HSm.out i (by omega)).1)
              generalize sumTo ps.length (fun i => (plAt ps i).score) = t1 at *
              clear HSum
              have HX : Hid ((t1 + 2 * (((ps.length : Int) + 1) / 2) - t1 == 2 * (((ps.length : Int) + 1) / 2)) = true) := Lib.hid (by rw [beq_iff_eq]; omega)
              go_wp2_with fail
              go_ret
              exact ⟨by rw [HX.out]; rfl, HB5.out.trans (HBr.out.mono hs5)⟩
end Go.Proofs.Ytkngpbnildhdpaa.swissAdds
