/- swiss.Pair: the pairing with the least cost. -/
import Derived.Test.YtkngpbnildhdpaaSwO
import Derived.Test.YtkngpbnildhdpaaSwL
import Derived.Test.YtkngpbnildhdpaaSwRep
import Derived.Test.YtkngpbnildhdpaaApp0
import Derived.BigQuiet
import Derived.Deep.Cut
import Derived.Deep.QuietTactic
namespace Go.Proofs.Ytkngpbnildhdpaa
open Go.ChangeShapes Go.WideShapes Go.ChangeAt Go.RowKit
set_option linter.unusedVariables false

/-- a game of two players in memory. -/
def prEl : El (Int × Int) where
  k := 2
  E := fun w x cs => cs = [.int .i64 x.1, .int .i64 x.2]
  mono := fun h _ _ => h
  len := fun h => by subst h; rfl
def flatP (l : List (Int × Int)) : List Value := l.flatMap fun x => [.int .i64 x.1, .int .i64 x.2]
theorem flatP_append (l : List (Int × Int)) (x : Int × Int) : flatP l ++ [.int .i64 x.1, .int .i64 x.2] = flatP (l ++ [x]) := by simp [flatP]
theorem flatP_at : ∀ (l : List (Int × Int)) (i : Nat) (h : i < l.length), ((flatP l).drop (i * 2)).take 2 = [.int .i64 l[i].1, .int .i64 l[i].2]
  | [], i, h => absurd h (Nat.not_lt_zero _)
  | x :: t, 0, h => by simp [flatP]
  | x :: t, i + 1, h => by
    have := flatP_at t i (by simpa using h)
    rw [show (i + 1) * 2 = i * 2 + 1 + 1 by omega]
    simpa [flatP] using this
theorem prs_own {w : World} {b : Nat} {v : Value} {l : List (Int × Int)} (h : w.ownsRow b 30 2 v l.length (flatP l)) : RdL prEl w v l :=
  RdL.of_own h (fun i hi => flatP_at l i hi)
theorem two_ints {x y : Int} : ∀ u ∈ [Value.int .i64 x, .int .i64 y], u.oneCell' = true := by intro u hu; simp at hu; rcases hu with rfl | rfl <;> rfl
theorem info_pr : (Try.prog.info? 30).map (fun i => (i.zero, i.size, i.bytes)) = some (some (.agg #[.int .i64 0, .int .i64 0]), 2, 16) := by kernel_rfl
/-- the games of a pairing. -/
def gmE (ps : List SwP) (i : Nat) (v : Int) : List (Int × Int) :=
  if v = ps.length then [] else if (i : Int) < v then (if (plAt ps v.toNat).colour < (plAt ps i).colour then [(v, (i : Int))] else [((i : Int), v)]) else []
def outZ (ps : List SwP) (W : List Int) : Nat → List (Int × Int)
  | 0 => []
  | k + 1 => outZ ps W k ++ gmE ps k (W.getD k 0)
/-- who has the bye. -/
def offZ (n : Nat) (W : List Int) : Nat → Int
  | 0 => -1
  | k + 1 => if W.getD k 0 = n then k else offZ n W k
theorem outZ_len (ps : List SwP) (W : List Int) : ∀ k, (outZ ps W k).length ≤ k
  | 0 => Nat.le_refl _
  | k + 1 => by
    unfold outZ
    rw [List.length_append]
    have h : (gmE ps k (W.getD k 0)).length ≤ 1 := by
      unfold gmE
      split
      · simp
      · split
        · split <;> simp
        · simp
    have := outZ_len ps W k
    omega
theorem below_trans {B C : Nat} {a b c : World} (h : Below B a b) (k : Below C b c) (hC : B ≤ C) : Below B a c := h.trans (k.mono hC)
def PairPost (ps : List SwP) (w : World) (e : Ending) (w' : World) : Prop := Below w.heap.size w w' ∧
  ((∃ c : Int, c ≠ 0 ∧ ChkSays ps c ∧ e = .returned (.tuple #[.slice none 0 0, .int .i64 0, .int .i64 0, .int .i64 c])) ∨
   (ChkOk ps ∧ (pairZ ps).1 = none ∧ e = .returned (.tuple #[.slice none 0 0, .int .i64 0, .int .i64 0, .int .i64 8])) ∨
   (ChkOk ps ∧ ∃ (W : List Int) (v : Value), (pairZ ps).1 = some W ∧ Whole ps W ∧ RdL prEl w' v (outZ ps W ps.length) ∧ e = .returned (.tuple #[v, .int .i64 (pairZ ps).2, .int .i64 (offZ ps.length W ps.length), .int .i64 0])))

set_option maxRecDepth 100000 in
set_option maxHeartbeats 8000000 in
theorem Pair_any (s : Value) (ps : List SwP) (w : World) (h : RdS w s ps) : Calls Try.prog 7 #[s] w (PairPost ps w) := by
  obtain ⟨a, c, rfl, h1, h2⟩ := h.form
  unfold maxLen at h2
  have HRD := Lib.hid h
  clear h
  go_enter Try.func7, Try.ntmps7
  go_upto_region 2 with (go_at_call 10; refine (Check_any _ ps _ HRD.out).mono ?_; rintro e w1 ⟨cc, rfl, hsay, hbl⟩; have HSAY := Lib.hid hsay; have HB1 := Lib.hid hbl; clear hsay hbl)
  by_cases hc : cc = 0
  rotate_left
  · go_wp2_with fail
    refine bodyPost_ret (v := .tuple #[.slice none 0 0, .int .i64 0, .int .i64 0, .int .i64 cc]) (by simp [results, Try.results7, go_sem]) rfl ?_
    exact ⟨HB1.out, .inl ⟨cc, hc, HSAY.out, rfl⟩⟩
  · have HOK : Hid (ChkOk ps) := Lib.hid (by
      rcases HSAY.out with ⟨-, q⟩ | ⟨q, -⟩ | ⟨q, -⟩ | ⟨q, -⟩ | ⟨q, -⟩
      · exact q
      all_goals omega)
    obtain ⟨hn2, hn8⟩ := HOK.out.1
    obtain ⟨g, o, rfl, -, -⟩ := RdS.some HRD.out (by omega)
    have HR1 := Lib.hid (HRD.out.below HB1.out (Nat.le_refl _))
    subst hc
    clear HSAY
    have hw1 := HB1.out.size
    go_upto_region 5 with (go_at_call 11; refine (Repeat_any ps.length w1.heap.size 0 1 _ hn2 hn8 ((Box.new w1 [.int .i64 (-1)] _).cell 0 rfl)).mono ?_; rintro e w2 ⟨rfl, hbx, hb2⟩; have HBX := Lib.hid hbx; have HB2 := Lib.hid hb2; clear hbx hb2)
    have HBa := Lib.hid (below_trans (HB1.out.alloc hw1 _) HB2.out (by rw [World.size_alloc]; omega))
    rw [World.size_alloc] at HBX
    have hw2 : w1.heap.size + 1 + 1 ≤ w2.heap.size := by
      have := HBX.out.lt
      have h3 := HB2.out.size
      rw [World.size_alloc] at h3
      omega
    obtain ⟨hh, hhe⟩ : ∃ hh, hh = w1.heap.size + 1 := ⟨_, rfl⟩
    obtain ⟨bb, hbe⟩ : ∃ bb, bb = w2.heap.size := ⟨_, rfl⟩
    have hHh : w.heap.size ≤ hh := by omega
    have hHb : w.heap.size ≤ bb := by omega
    have hne : bb ≠ hh := by omega
    have HBp := Lib.hid (HBa.out.alloc (by omega) (.cells #[.slice (some ⟨g, o, none⟩) ps.length c, .slice (some ⟨hh, 0, none⟩) ps.length ps.length, .slice none 0 0, .int .i64 0] 44))
    have HNb := Lib.hid (Box.new' w2 bb [.slice (some ⟨g, o, none⟩) ps.length c, .slice (some ⟨hh, 0, none⟩) ps.length ps.length, .slice none 0 0, .int .i64 0] 44 hbe.symm)
    have HNh := Lib.hid (HBX.out.alloc (.cells #[.slice (some ⟨g, o, none⟩) ps.length c, .slice (some ⟨hh, 0, none⟩) ps.length ps.length, .slice none 0 0, .int .i64 0] 44))
    rw [← hhe] at HNh ⊢
    rw [← hbe]
    clear HBX HBa HB2 hw2 hhe hbe hw1
    generalize (w2.alloc (.cells #[.slice (some ⟨g, o, none⟩) ps.length c, .slice (some ⟨hh, 0, none⟩) ps.length ps.length, .slice none 0 0, .int .i64 0] 44)) = wp at *
    have HST : Hid (St ps (some ⟨g, o, none⟩) c bb hh (List.replicate ps.length (-1)) (.slice none 0 0) (none, 0) wp) := Lib.hid ⟨hne, HNb.out, HNh.out,
      Held.old (fun w' hb => HRD.out.below (HBp.out.trans hb) (Nat.le_refl _)) (fun k hk => by rcases hk with e | e <;> omega) HBp.out.size, .inl ⟨rfl, rfl⟩⟩
    clear HNb HNh HR1
    have hbq : ((ps.length : Int) % 2 == 1) = decide (ps.length % 2 = 1) := by
      by_cases hb : ps.length % 2 = 1
      · rw [decide_eq_true hb]; simp; omega
      · rw [decide_eq_false hb]; simp; omega
    go_upto_region 6 with (fail)
    try rw [hbq]
    refine (search_all ps g o c bb hh hn2 hn8 (fun k hk => (HOK.out.2.1 k hk).1) (ps.length + 1) (List.replicate ps.length (-1)) (decide (ps.length % 2 = 1)) 0 (none, 0) (.slice none 0 0) wp (by simp) (by rw [cnt_start]; omega) (fun k hk => by
      rcases Nat.lt_or_ge k ps.length with h | h
      · exact rep_getD _ _ h
      · rw [List.getD_eq_getElem?_getD, List.getElem?_eq_none (by simpa using h)] at hk; cases hk) (Int.le_refl _) (by rw [cnt_start]; omega) HST.out).mono ?_
    rintro e wx ⟨rfl, vx, hsx, hfx⟩
    change St ps (some ⟨g, o, none⟩) c bb hh (List.replicate ps.length (-1)) vx (pairZ ps) wx at hsx
    have HBx := Lib.hid (HBp.out.trans (hfx.below (B := w.heap.size) (fun k hk => by rcases hk with e | e <;> omega) HBp.out.size))
    have HG := Lib.hid (pair_good ps (sym_of ps HOK.out))
    obtain ⟨⟨bo, lv⟩, hpz⟩ : ∃ p, pairZ ps = p := ⟨_, rfl⟩
    have HPZ := Lib.hid hpz
    rw [hpz] at hsx HG
    have q2 := hsx.box.cell 2 rfl
    have q3 := hsx.box.cell 3 rfl
    have HX3 : Hid (∀ w', Below wx.heap.size wx w' → w'.cell? ⟨bb, 3, none⟩ = some (.int .i64 lv)) := Lib.hid (fun w' hb => (hsx.box.stays hb).cell 3 rfl)
    have hbest := hsx.best
    have hq := fun (w : World) (a : Option Addr) (n c : Nat) => Lib.run_eql_slice_nil (P := Try.prog) w 28 3 a n c 0 0 Try.underlying28
    clear hsx hfx hbq HST hpz HBp HB1
    rcases hbest with ⟨rfl, rfl⟩ | ⟨W, gw, cw, rfl, rfl, hld⟩
    · go_wp2_with fail
      refine bodyPost_ret (v := .tuple #[.slice none 0 0, .int .i64 0, .int .i64 0, .int .i64 8]) (by simp [results, Try.results7, go_sem]) rfl ?_
      exact ⟨HBx.out, .inr (.inl ⟨HOK.out, by rw [HPZ.out], rfl⟩)⟩
    · have HWG : Hid (Whole ps W) := Lib.hid (by
        rcases HG.out with e | ⟨W', e, hw, -⟩
        · cases e
        · cases e; exact hw)
      have HL : Hid (W.length = ps.length) := Lib.hid HWG.out.1.len
      have HWI := Lib.hid hld.now
      have hlW := HL.out
      rw [hlW] at HWI
      rw [hlW] at q2
      clear HG hld
      go_upto_region 11 with (fail)
      go_loopw [40, 8, 9, 10, 11] (fun vk vo vf v10 v11 wr => ∃ (k : Nat) (o1 o2 o3 : Value), o1 = vo ∧ o2 = v10 ∧ o3 = v11 ∧ k ≤ ps.length ∧ vk = .int .i64 k ∧ vf = .int .i64 (offZ ps.length W k) ∧ Hid (Below wx.heap.size wx wr) ∧ Hid (wr.ownsRow wx.heap.size 30 2 vo (outZ ps W k).length (flatP (outZ ps W k)))) (fun v _ _ _ _ _ => ps.length - (intOf v).toNat)
      case atStart => exact ⟨0, _, _, _, rfl, rfl, rfl, Nat.zero_le _, rfl, rfl, Lib.hid (Below.refl _ _), Lib.hid (World.ownsRow_nil _ _ _ _)⟩
      case round =>
        obtain ⟨k, vo, v10, v11, rfl, rfl, rfl, hk, rfl, rfl, HBR, HO⟩ := hrel
        by_cases hlt : k < ps.length
        · have hki : (k : Int) < (ps.length : Int) := by omega
          have hol := outZ_len ps W k
          have HBRw := Lib.hid (below_trans HBx.out HBR.out HBx.out.size)
          obtain ⟨z, hz⟩ : ∃ z, W.getD k 0 = z := ⟨_, rfl⟩
          have czk : wr.cell? ⟨gw, k, none⟩ = some (.int .i64 z) := by
            obtain ⟨g2, o2, cc2, ha, -, -, hg2, hc2⟩ := RdI.some (HWI.out.below HBR.out (Nat.le_refl _)) (by omega)
            simp only [Value.slice.injEq, Option.some.injEq, Addr.mk.injEq] at ha
            obtain ⟨⟨rfl, rfl, -⟩, -, -⟩ := ha
            have := hc2 k (by omega)
            rw [Nat.zero_add, hz] at this
            exact this
          have HON : Hid (outZ ps W (k + 1) = outZ ps W k ++ gmE ps k z) := Lib.hid (by rw [outZ, hz])
          have HOZ : Hid (offZ ps.length W (k + 1) = if z = ps.length then (k : Int) else offZ ps.length W k) := Lib.hid (by rw [offZ, hz])
          have hent : z = (ps.length : Int) ∨ ∃ j : Nat, j < ps.length ∧ z = (j : Int) ∧ j ≠ k := by
            rcases HWG.out.1.ent k hlt with e | ⟨e, -⟩ | ⟨j, h1, h2, h3, -⟩
            · exact absurd e (zero_cnt HWG.out.2 k (by omega))
            · exact .inl (hz.symm.trans e)
            · exact .inr ⟨j, h1, hz.symm.trans h2, h3⟩
          clear hz
          rcases hent with rfl | ⟨j, hj, rfl, hjk⟩
          · have HOF : Hid ((Value.int .i64 (k : Int)) = .int .i64 (offZ ps.length W (k + 1))) := Lib.hid (by rw [HOZ.out, if_pos rfl])
            go_wp2_with fail
            go_roundw
            case rel => exact ⟨k + 1, _, _, _, rfl, rfl, rfl, by omega, by go_num, HOF.out, HBR, Lib.hid (by
              have hg : gmE ps k (ps.length : Int) = [] := by unfold gmE; rw [if_pos rfl]
              rw [HON.out, hg, List.append_nil]; exact HO.out)⟩
            case measure => simp [intOf]; omega
          · have HOF : Hid ((Value.int .i64 (offZ ps.length W k)) = .int .i64 (offZ ps.length W (k + 1))) := Lib.hid (by rw [HOZ.out, if_neg (by omega)])
            have hjn : ¬ ((j : Int) = (ps.length : Int)) := by omega
            have HGM : Hid (gmE ps k (j : Int) = if (k : Int) < j then (if (plAt ps j).colour < (plAt ps k).colour then [((j : Int), (k : Int))] else [((k : Int), (j : Int))]) else []) := Lib.hid (by unfold gmE; rw [if_neg hjn]; rfl)
            have hcol : wr.cell? ⟨g, o + j * 4 + 2, none⟩ = some (.int .i64 (plAt ps j).colour) ∧ wr.cell? ⟨g, o + k * 4 + 2, none⟩ = some (.int .i64 (plAt ps k).colour) := by
              obtain ⟨g2, o2, ha, -, hc2⟩ := RdS.some (HRD.out.below HBRw.out (Nat.le_refl _)) (by omega)
              cases ha
              obtain ⟨-, -, -, d1, -, -⟩ := hc2 j hj
              obtain ⟨-, -, -, d2, -, -⟩ := hc2 k hlt
              exact ⟨d1, d2⟩
            have HBR' : Hid (Below wx.heap.size wx wr.drew) := Lib.hid (below_drewN HBR.out 1)
            have HOd : Hid (wr.drew.ownsRow wx.heap.size 30 2 vo (outZ ps W k).length (flatP (outZ ps W k))) := Lib.hid (own_stays HO.out (below_drewN (Below.refl _ _) 1))
            obtain ⟨cj, hcj⟩ : ∃ c, (plAt ps j).colour = c := ⟨_, rfl⟩
            obtain ⟨ck, hck⟩ : ∃ c, (plAt ps k).colour = c := ⟨_, rfl⟩
            rw [hcj, hck] at HGM hcol
            clear hcj hck HO HOZ HBRw
            by_cases hkj : (k : Int) < (j : Int)
            · rw [if_pos hkj] at HGM
              by_cases hcc : cj < ck
              · rw [if_pos hcc] at HGM
                rw [HGM.out] at HON
                go_upto_region 15 with (fail)
                refine wp_region_noPanic ?_
                refine beginL (S := (fun w' => w'.cell? ⟨g, o + j * 4 + 2, none⟩ = some (.int .i64 cj) ∧ w'.cell? ⟨g, o + k * 4 + 2, none⟩ = some (.int .i64 ck))) (L := []) (by kernel_rfl) ⟨hcol.1, hcol.2⟩ (fun hHeld => ?_)
                refine takeW (i := 0) (oi := { dst := some 52, op := Op.move (Operand.tmp 10), type := 3, pos := "swiss.go:124", after := #[], guard := none }) (v := ?va1) rfl (by kernel_rfl) (by kernel_rfl) (by kernel_rfl) rfl (fun _ _ _ h => h) (Or.inl ⟨by rfl, ?ya1⟩) (fun _ => by assumption) ?ra1
                case ya1 => (intro w _; go_simp; first | done | (with_reducible rfl) | (rw [if_neg (by omega)]))
                try simp only [Act.put, List.setIfInBounds_toArray, List.set_cons_zero, List.set_cons_succ]
                refine takeW (i := 1) (oi := { dst := some 53, op := Op.move (Operand.tmp 11), type := 3, pos := "swiss.go:124", after := #[], guard := none }) (v := ?va2) rfl (by kernel_rfl) (by kernel_rfl) (by kernel_rfl) rfl (fun _ _ _ h => h) (Or.inl ⟨by rfl, ?ya2⟩) (fun _ => by assumption) ?ra2
                case ya2 => (intro w _; go_simp; first | done | (with_reducible rfl) | (rw [if_neg (by omega)]))
                try simp only [Act.put, List.setIfInBounds_toArray, List.set_cons_zero, List.set_cons_succ]
                refine takeW (i := 2) (oi := { dst := some 54, op := Op.binOp BinOp.lss 3 (Operand.tmp 52) (Operand.tmp 53) 3, type := 4, pos := "swiss.go:124", after := #[{ on := 0, ground := Ground.data }, { on := 1, ground := Ground.data }], guard := none }) (v := ?va3) rfl (by kernel_rfl) (by kernel_rfl) (by kernel_rfl) rfl (fun _ _ _ h => h) (Or.inl ⟨by rfl, ?ya3⟩) (fun _ => by assumption) ?ra3
                case ya3 => (intro w _; go_simp; first | done | (with_reducible rfl) | (rw [if_neg (by omega)]))
                try simp only [Act.put, List.setIfInBounds_toArray, List.set_cons_zero, List.set_cons_succ]
                refine takeW (i := 3) (oi := { dst := some 55, op := Op.move (Operand.tmp 54), type := 4, pos := "swiss.go:124", after := #[{ on := 2, ground := Ground.data }], guard := none }) (v := ?va4) rfl (by kernel_rfl) (by kernel_rfl) (by kernel_rfl) rfl (fun _ _ _ h => h) (Or.inl ⟨by rfl, ?ya4⟩) (fun _ => by assumption) ?ra4
                case ya4 => (intro w _; go_simp; first | done | (with_reducible rfl) | (rw [if_neg (by omega)]))
                try simp only [Act.put, List.setIfInBounds_toArray, List.set_cons_zero, List.set_cons_succ]
                refine takeW (i := 4) (oi := { dst := some 56, op := Op.move (Operand.tmp 0), type := 22, pos := "swiss.go:124", after := #[{ on := 3, ground := Ground.guard }], guard := some (3, true) }) (v := ?va5) rfl (by kernel_rfl) (by kernel_rfl) (by kernel_rfl) rfl (fun _ _ _ h => h) (Or.inl ⟨by rfl, ?ya5⟩) (fun _ => by assumption) ?ra5
                case ya5 => (intro w _; go_simp; first | done | (with_reducible rfl) | (rw [if_neg (by omega)]))
                try simp only [Act.put, List.setIfInBounds_toArray, List.set_cons_zero, List.set_cons_succ]
                refine takeW (i := 5) (oi := { dst := some 57, op := Op.move (Operand.tmp 11), type := 3, pos := "swiss.go:124", after := #[{ on := 3, ground := Ground.guard }], guard := some (3, true) }) (v := ?va6) rfl (by kernel_rfl) (by kernel_rfl) (by kernel_rfl) rfl (fun _ _ _ h => h) (Or.inl ⟨by rfl, ?ya6⟩) (fun _ => by assumption) ?ra6
                case ya6 => (intro w _; go_simp; first | done | (with_reducible rfl) | (rw [if_neg (by omega)]))
                try simp only [Act.put, List.setIfInBounds_toArray, List.set_cons_zero, List.set_cons_succ]
                refine takeW (i := 9) (oi := { dst := some 61, op := Op.move (Operand.tmp 0), type := 22, pos := "swiss.go:124", after := #[{ on := 3, ground := Ground.guard }], guard := some (3, true) }) (v := ?va7) rfl (by kernel_rfl) (by kernel_rfl) (by kernel_rfl) rfl (fun _ _ _ h => h) (Or.inl ⟨by rfl, ?ya7⟩) (fun _ => by assumption) ?ra7
                case ya7 => (intro w _; go_simp; first | done | (with_reducible rfl) | (rw [if_neg (by omega)]))
                try simp only [Act.put, List.setIfInBounds_toArray, List.set_cons_zero, List.set_cons_succ]
                refine takeW (i := 10) (oi := { dst := some 62, op := Op.move (Operand.tmp 10), type := 3, pos := "swiss.go:124", after := #[{ on := 3, ground := Ground.guard }], guard := some (3, true) }) (v := ?va8) rfl (by kernel_rfl) (by kernel_rfl) (by kernel_rfl) rfl (fun _ _ _ h => h) (Or.inl ⟨by rfl, ?ya8⟩) (fun _ => by assumption) ?ra8
                case ya8 => (intro w _; go_simp; first | done | (with_reducible rfl) | (rw [if_neg (by omega)]))
                try simp only [Act.put, List.setIfInBounds_toArray, List.set_cons_zero, List.set_cons_succ]
                refine takeW (i := 6) (oi := { dst := some 58, op := Op.indexAddr 22 (Operand.tmp 56) (Operand.tmp 57), type := 0, pos := "swiss.go:124", after := #[{ on := 4, ground := Ground.data }, { on := 5, ground := Ground.data }, { on := 3, ground := Ground.guard }], guard := some (3, true) }) (v := ?va9) rfl (by kernel_rfl) (by kernel_rfl) (by kernel_rfl) rfl (fun _ _ _ h => h) (Or.inl ⟨by rfl, ?ya9⟩) (fun _ => by assumption) ?ra9
                case ya9 => (intro w _; go_simp; first | done | (with_reducible rfl) | (rw [if_neg (by omega)]))
                try simp only [Act.put, List.setIfInBounds_toArray, List.set_cons_zero, List.set_cons_succ]
                refine takeW (i := 11) (oi := { dst := some 63, op := Op.indexAddr 22 (Operand.tmp 61) (Operand.tmp 62), type := 0, pos := "swiss.go:124", after := #[{ on := 9, ground := Ground.data }, { on := 10, ground := Ground.data }, { on := 3, ground := Ground.guard }], guard := some (3, true) }) (v := ?va10) rfl (by kernel_rfl) (by kernel_rfl) (by kernel_rfl) rfl (fun _ _ _ h => h) (Or.inl ⟨by rfl, ?ya10⟩) (fun _ => by assumption) ?ra10
                case ya10 => (intro w _; go_simp; first | done | (with_reducible rfl) | (rw [if_neg (by omega)]))
                try simp only [Act.put, List.setIfInBounds_toArray, List.set_cons_zero, List.set_cons_succ]
                refine takeW (i := 7) (oi := { dst := some 59, op := Op.fieldAddr 32 (Operand.tmp 58) 2, type := 0, pos := "swiss.go:124", after := #[{ on := 6, ground := Ground.data }, { on := 3, ground := Ground.guard }], guard := some (3, true) }) (v := ?va11) rfl (by kernel_rfl) (by kernel_rfl) (by kernel_rfl) rfl (fun _ _ _ h => h) (Or.inl ⟨by rfl, ?ya11⟩) (fun _ => by assumption) ?ra11
                case ya11 => (intro w _; go_simp; first | done | (with_reducible rfl) | (rw [if_neg (by omega)]))
                try simp only [Act.put, List.setIfInBounds_toArray, List.set_cons_zero, List.set_cons_succ]
                refine takeW (i := 12) (oi := { dst := some 64, op := Op.fieldAddr 32 (Operand.tmp 63) 2, type := 0, pos := "swiss.go:124", after := #[{ on := 11, ground := Ground.data }, { on := 3, ground := Ground.guard }], guard := some (3, true) }) (v := ?va12) rfl (by kernel_rfl) (by kernel_rfl) (by kernel_rfl) rfl (fun _ _ _ h => h) (Or.inl ⟨by rfl, ?ya12⟩) (fun _ => by assumption) ?ra12
                case ya12 => (intro w _; go_simp; first | done | (with_reducible rfl) | (rw [if_neg (by omega)]))
                try simp only [Act.put, List.setIfInBounds_toArray, List.set_cons_zero, List.set_cons_succ]
                refine takeL (i := 8) (oi := { dst := some 60, op := Op.load 3 (Operand.tmp 59), type := 3, pos := "swiss.go:124", after := #[{ on := 7, ground := Ground.data }, { on := 3, ground := Ground.guard }], guard := some (3, true) }) (v := ?va13) rfl (by kernel_rfl) (by kernel_rfl) (by kernel_rfl) (by kernel_rfl) rfl (by kernel_rfl) (by kernel_rfl) (fun _ _ _ h => h) (Or.inl ⟨by rfl, ?ya13⟩) (by assumption) ?ra13
                case ya13 => (intro w hSw; (try dsimp only at hSw); go_simp; first | done | (with_reducible rfl))
                try simp only [Act.put, List.setIfInBounds_toArray, List.set_cons_zero, List.set_cons_succ]
                refine takeL (i := 13) (oi := { dst := some 65, op := Op.load 3 (Operand.tmp 64), type := 3, pos := "swiss.go:124", after := #[{ on := 12, ground := Ground.data }, { on := 3, ground := Ground.guard }], guard := some (3, true) }) (v := ?va14) rfl (by kernel_rfl) (by kernel_rfl) (by kernel_rfl) (by kernel_rfl) rfl (by kernel_rfl) (by kernel_rfl) (fun _ _ _ h => h) (Or.inl ⟨by rfl, ?ya14⟩) (by assumption) ?ra14
                case ya14 => (intro w hSw; (try dsimp only at hSw); go_simp; first | done | (with_reducible rfl))
                try simp only [Act.put, List.setIfInBounds_toArray, List.set_cons_zero, List.set_cons_succ]
                refine takeW (i := 14) (oi := { dst := some 66, op := Op.binOp BinOp.lss 3 (Operand.tmp 60) (Operand.tmp 65) 3, type := 4, pos := "swiss.go:124", after := #[{ on := 8, ground := Ground.data }, { on := 13, ground := Ground.data }, { on := 3, ground := Ground.guard }], guard := some (3, true) }) (v := ?va15) rfl (by kernel_rfl) (by kernel_rfl) (by kernel_rfl) rfl (fun _ _ _ h => h) (Or.inl ⟨by rfl, ?ya15⟩) (fun _ => by assumption) ?ra15
                case ya15 => (intro w _; go_simp; first | done | (with_reducible rfl) | (rw [if_neg (by omega)]))
                try simp only [Act.put, List.setIfInBounds_toArray, List.set_cons_zero, List.set_cons_succ]
                refine takeW (i := 15) (oi := { dst := some 67, op := Op.pick (Operand.tmp 55) (Operand.tmp 66) (Operand.const (Value.bool false)), type := 4, pos := "swiss.go:124", after := #[{ on := 3, ground := Ground.data }, { on := 14, ground := Ground.data }], guard := none }) (v := ?va16) rfl (by kernel_rfl) (by kernel_rfl) (by kernel_rfl) rfl (fun _ _ _ h => h) (Or.inl ⟨by rfl, ?ya16⟩) (fun _ => by assumption) ?ra16
                case ya16 => (intro w _; go_simp; first | done | (with_reducible rfl) | (rw [if_neg (by omega)]))
                try simp only [Act.put, List.setIfInBounds_toArray, List.set_cons_zero, List.set_cons_succ]
                refine takeW (i := 16) (oi := { dst := some 51, op := Op.assign (Operand.tmp 67), type := 4, pos := "swiss.go:124", after := #[{ on := 15, ground := Ground.data }, { on := 3, ground := Ground.chain }], guard := none }) (v := ?va17) rfl (by kernel_rfl) (by kernel_rfl) (by kernel_rfl) rfl (fun _ _ _ h => h) (Or.inl ⟨by rfl, ?ya17⟩) (fun _ => by assumption) ?ra17
                case ya17 => (intro w _; go_simp; first | done | (with_reducible rfl) | (rw [if_neg (by omega)]))
                try simp only [Act.put, List.setIfInBounds_toArray, List.set_cons_zero, List.set_cons_succ]
                refine doneL (by kernel_rfl) ?_ _
                refine NoPanic.normal ?_
                clear hHeld
                have HDR : Hid (∀ o, (wr.alloc o).drew = wr.drew.alloc o) := Lib.hid (fun _ => rfl)
                go_wp2_with (at_builtin; rw [HDR.out]; refine app_new 24 30 (.agg #[.int .i64 0, .int .i64 0]) 2 16 info_pr Try.underlying24 rfl (by decide) (by rfl) _ _ (by rfl) wx.heap.size vo (outZ ps W k).length (flatP (outZ ps W k)) [.int .i64 (j : Int), .int .i64 (k : Int)] wr.drew HOd.out (by have := HBR'.out.size; omega) rfl two_ints (by omega) (by omega) (by rfl) (by rfl) ?_)
                intro g3 cap3 w3 hown3 hkeep3 _
                have HO3 := Lib.hid hown3
                have HB3 := Lib.hid (hkeep3.below HBR'.out (Nat.le_refl _))
                clear hown3 hkeep3
                go_wp2_with fail
                go_roundw
                case rel => exact ⟨k + 1, _, _, _, rfl, rfl, rfl, by omega, by go_num, HOF.out, HB3, Lib.hid (by
                  rw [HON.out, ← flatP_append _ ((j : Int), (k : Int)), show (outZ ps W k ++ [((j : Int), (k : Int))]).length = (outZ ps W k).length + 1 by rw [List.length_append]; rfl]
                  exact HO3.out)⟩
                case measure => simp [intOf]; omega
              · rw [if_neg hcc] at HGM
                rw [HGM.out] at HON
                go_upto_region 15 with (fail)
                refine wp_region_noPanic ?_
                refine beginL (S := (fun w' => w'.cell? ⟨g, o + j * 4 + 2, none⟩ = some (.int .i64 cj) ∧ w'.cell? ⟨g, o + k * 4 + 2, none⟩ = some (.int .i64 ck))) (L := []) (by kernel_rfl) ⟨hcol.1, hcol.2⟩ (fun hHeld => ?_)
                refine takeW (i := 0) (oi := { dst := some 52, op := Op.move (Operand.tmp 10), type := 3, pos := "swiss.go:124", after := #[], guard := none }) (v := ?va18) rfl (by kernel_rfl) (by kernel_rfl) (by kernel_rfl) rfl (fun _ _ _ h => h) (Or.inl ⟨by rfl, ?ya18⟩) (fun _ => by assumption) ?ra18
                case ya18 => (intro w _; go_simp; first | done | (with_reducible rfl) | (rw [if_neg (by omega)]))
                try simp only [Act.put, List.setIfInBounds_toArray, List.set_cons_zero, List.set_cons_succ]
                refine takeW (i := 1) (oi := { dst := some 53, op := Op.move (Operand.tmp 11), type := 3, pos := "swiss.go:124", after := #[], guard := none }) (v := ?va19) rfl (by kernel_rfl) (by kernel_rfl) (by kernel_rfl) rfl (fun _ _ _ h => h) (Or.inl ⟨by rfl, ?ya19⟩) (fun _ => by assumption) ?ra19
                case ya19 => (intro w _; go_simp; first | done | (with_reducible rfl) | (rw [if_neg (by omega)]))
                try simp only [Act.put, List.setIfInBounds_toArray, List.set_cons_zero, List.set_cons_succ]
                refine takeW (i := 2) (oi := { dst := some 54, op := Op.binOp BinOp.lss 3 (Operand.tmp 52) (Operand.tmp 53) 3, type := 4, pos := "swiss.go:124", after := #[{ on := 0, ground := Ground.data }, { on := 1, ground := Ground.data }], guard := none }) (v := ?va20) rfl (by kernel_rfl) (by kernel_rfl) (by kernel_rfl) rfl (fun _ _ _ h => h) (Or.inl ⟨by rfl, ?ya20⟩) (fun _ => by assumption) ?ra20
                case ya20 => (intro w _; go_simp; first | done | (with_reducible rfl) | (rw [if_neg (by omega)]))
                try simp only [Act.put, List.setIfInBounds_toArray, List.set_cons_zero, List.set_cons_succ]
                refine takeW (i := 3) (oi := { dst := some 55, op := Op.move (Operand.tmp 54), type := 4, pos := "swiss.go:124", after := #[{ on := 2, ground := Ground.data }], guard := none }) (v := ?va21) rfl (by kernel_rfl) (by kernel_rfl) (by kernel_rfl) rfl (fun _ _ _ h => h) (Or.inl ⟨by rfl, ?ya21⟩) (fun _ => by assumption) ?ra21
                case ya21 => (intro w _; go_simp; first | done | (with_reducible rfl) | (rw [if_neg (by omega)]))
                try simp only [Act.put, List.setIfInBounds_toArray, List.set_cons_zero, List.set_cons_succ]
                refine takeW (i := 4) (oi := { dst := some 56, op := Op.move (Operand.tmp 0), type := 22, pos := "swiss.go:124", after := #[{ on := 3, ground := Ground.guard }], guard := some (3, true) }) (v := ?va22) rfl (by kernel_rfl) (by kernel_rfl) (by kernel_rfl) rfl (fun _ _ _ h => h) (Or.inl ⟨by rfl, ?ya22⟩) (fun _ => by assumption) ?ra22
                case ya22 => (intro w _; go_simp; first | done | (with_reducible rfl) | (rw [if_neg (by omega)]))
                try simp only [Act.put, List.setIfInBounds_toArray, List.set_cons_zero, List.set_cons_succ]
                refine takeW (i := 5) (oi := { dst := some 57, op := Op.move (Operand.tmp 11), type := 3, pos := "swiss.go:124", after := #[{ on := 3, ground := Ground.guard }], guard := some (3, true) }) (v := ?va23) rfl (by kernel_rfl) (by kernel_rfl) (by kernel_rfl) rfl (fun _ _ _ h => h) (Or.inl ⟨by rfl, ?ya23⟩) (fun _ => by assumption) ?ra23
                case ya23 => (intro w _; go_simp; first | done | (with_reducible rfl) | (rw [if_neg (by omega)]))
                try simp only [Act.put, List.setIfInBounds_toArray, List.set_cons_zero, List.set_cons_succ]
                refine takeW (i := 9) (oi := { dst := some 61, op := Op.move (Operand.tmp 0), type := 22, pos := "swiss.go:124", after := #[{ on := 3, ground := Ground.guard }], guard := some (3, true) }) (v := ?va24) rfl (by kernel_rfl) (by kernel_rfl) (by kernel_rfl) rfl (fun _ _ _ h => h) (Or.inl ⟨by rfl, ?ya24⟩) (fun _ => by assumption) ?ra24
                case ya24 => (intro w _; go_simp; first | done | (with_reducible rfl) | (rw [if_neg (by omega)]))
                try simp only [Act.put, List.setIfInBounds_toArray, List.set_cons_zero, List.set_cons_succ]
                refine takeW (i := 10) (oi := { dst := some 62, op := Op.move (Operand.tmp 10), type := 3, pos := "swiss.go:124", after := #[{ on := 3, ground := Ground.guard }], guard := some (3, true) }) (v := ?va25) rfl (by kernel_rfl) (by kernel_rfl) (by kernel_rfl) rfl (fun _ _ _ h => h) (Or.inl ⟨by rfl, ?ya25⟩) (fun _ => by assumption) ?ra25
                case ya25 => (intro w _; go_simp; first | done | (with_reducible rfl) | (rw [if_neg (by omega)]))
                try simp only [Act.put, List.setIfInBounds_toArray, List.set_cons_zero, List.set_cons_succ]
                refine takeW (i := 6) (oi := { dst := some 58, op := Op.indexAddr 22 (Operand.tmp 56) (Operand.tmp 57), type := 0, pos := "swiss.go:124", after := #[{ on := 4, ground := Ground.data }, { on := 5, ground := Ground.data }, { on := 3, ground := Ground.guard }], guard := some (3, true) }) (v := ?va26) rfl (by kernel_rfl) (by kernel_rfl) (by kernel_rfl) rfl (fun _ _ _ h => h) (Or.inl ⟨by rfl, ?ya26⟩) (fun _ => by assumption) ?ra26
                case ya26 => (intro w _; go_simp; first | done | (with_reducible rfl) | (rw [if_neg (by omega)]))
                try simp only [Act.put, List.setIfInBounds_toArray, List.set_cons_zero, List.set_cons_succ]
                refine takeW (i := 11) (oi := { dst := some 63, op := Op.indexAddr 22 (Operand.tmp 61) (Operand.tmp 62), type := 0, pos := "swiss.go:124", after := #[{ on := 9, ground := Ground.data }, { on := 10, ground := Ground.data }, { on := 3, ground := Ground.guard }], guard := some (3, true) }) (v := ?va27) rfl (by kernel_rfl) (by kernel_rfl) (by kernel_rfl) rfl (fun _ _ _ h => h) (Or.inl ⟨by rfl, ?ya27⟩) (fun _ => by assumption) ?ra27
                case ya27 => (intro w _; go_simp; first | done | (with_reducible rfl) | (rw [if_neg (by omega)]))
                try simp only [Act.put, List.setIfInBounds_toArray, List.set_cons_zero, List.set_cons_succ]
                refine takeW (i := 7) (oi := { dst := some 59, op := Op.fieldAddr 32 (Operand.tmp 58) 2, type := 0, pos := "swiss.go:124", after := #[{ on := 6, ground := Ground.data }, { on := 3, ground := Ground.guard }], guard := some (3, true) }) (v := ?va28) rfl (by kernel_rfl) (by kernel_rfl) (by kernel_rfl) rfl (fun _ _ _ h => h) (Or.inl ⟨by rfl, ?ya28⟩) (fun _ => by assumption) ?ra28
                case ya28 => (intro w _; go_simp; first | done | (with_reducible rfl) | (rw [if_neg (by omega)]))
                try simp only [Act.put, List.setIfInBounds_toArray, List.set_cons_zero, List.set_cons_succ]
                refine takeW (i := 12) (oi := { dst := some 64, op := Op.fieldAddr 32 (Operand.tmp 63) 2, type := 0, pos := "swiss.go:124", after := #[{ on := 11, ground := Ground.data }, { on := 3, ground := Ground.guard }], guard := some (3, true) }) (v := ?va29) rfl (by kernel_rfl) (by kernel_rfl) (by kernel_rfl) rfl (fun _ _ _ h => h) (Or.inl ⟨by rfl, ?ya29⟩) (fun _ => by assumption) ?ra29
                case ya29 => (intro w _; go_simp; first | done | (with_reducible rfl) | (rw [if_neg (by omega)]))
                try simp only [Act.put, List.setIfInBounds_toArray, List.set_cons_zero, List.set_cons_succ]
                refine takeL (i := 8) (oi := { dst := some 60, op := Op.load 3 (Operand.tmp 59), type := 3, pos := "swiss.go:124", after := #[{ on := 7, ground := Ground.data }, { on := 3, ground := Ground.guard }], guard := some (3, true) }) (v := ?va30) rfl (by kernel_rfl) (by kernel_rfl) (by kernel_rfl) (by kernel_rfl) rfl (by kernel_rfl) (by kernel_rfl) (fun _ _ _ h => h) (Or.inl ⟨by rfl, ?ya30⟩) (by assumption) ?ra30
                case ya30 => (intro w hSw; (try dsimp only at hSw); go_simp; first | done | (with_reducible rfl))
                try simp only [Act.put, List.setIfInBounds_toArray, List.set_cons_zero, List.set_cons_succ]
                refine takeL (i := 13) (oi := { dst := some 65, op := Op.load 3 (Operand.tmp 64), type := 3, pos := "swiss.go:124", after := #[{ on := 12, ground := Ground.data }, { on := 3, ground := Ground.guard }], guard := some (3, true) }) (v := ?va31) rfl (by kernel_rfl) (by kernel_rfl) (by kernel_rfl) (by kernel_rfl) rfl (by kernel_rfl) (by kernel_rfl) (fun _ _ _ h => h) (Or.inl ⟨by rfl, ?ya31⟩) (by assumption) ?ra31
                case ya31 => (intro w hSw; (try dsimp only at hSw); go_simp; first | done | (with_reducible rfl))
                try simp only [Act.put, List.setIfInBounds_toArray, List.set_cons_zero, List.set_cons_succ]
                refine takeW (i := 14) (oi := { dst := some 66, op := Op.binOp BinOp.lss 3 (Operand.tmp 60) (Operand.tmp 65) 3, type := 4, pos := "swiss.go:124", after := #[{ on := 8, ground := Ground.data }, { on := 13, ground := Ground.data }, { on := 3, ground := Ground.guard }], guard := some (3, true) }) (v := ?va32) rfl (by kernel_rfl) (by kernel_rfl) (by kernel_rfl) rfl (fun _ _ _ h => h) (Or.inl ⟨by rfl, ?ya32⟩) (fun _ => by assumption) ?ra32
                case ya32 => (intro w _; go_simp; first | done | (with_reducible rfl) | (rw [if_neg (by omega)]))
                try simp only [Act.put, List.setIfInBounds_toArray, List.set_cons_zero, List.set_cons_succ]
                refine takeW (i := 15) (oi := { dst := some 67, op := Op.pick (Operand.tmp 55) (Operand.tmp 66) (Operand.const (Value.bool false)), type := 4, pos := "swiss.go:124", after := #[{ on := 3, ground := Ground.data }, { on := 14, ground := Ground.data }], guard := none }) (v := ?va33) rfl (by kernel_rfl) (by kernel_rfl) (by kernel_rfl) rfl (fun _ _ _ h => h) (Or.inl ⟨by rfl, ?ya33⟩) (fun _ => by assumption) ?ra33
                case ya33 => (intro w _; go_simp; first | done | (with_reducible rfl) | (rw [if_neg (by omega)]))
                try simp only [Act.put, List.setIfInBounds_toArray, List.set_cons_zero, List.set_cons_succ]
                refine takeW (i := 16) (oi := { dst := some 51, op := Op.assign (Operand.tmp 67), type := 4, pos := "swiss.go:124", after := #[{ on := 15, ground := Ground.data }, { on := 3, ground := Ground.chain }], guard := none }) (v := ?va34) rfl (by kernel_rfl) (by kernel_rfl) (by kernel_rfl) rfl (fun _ _ _ h => h) (Or.inl ⟨by rfl, ?ya34⟩) (fun _ => by assumption) ?ra34
                case ya34 => (intro w _; go_simp; first | done | (with_reducible rfl) | (rw [if_neg (by omega)]))
                try simp only [Act.put, List.setIfInBounds_toArray, List.set_cons_zero, List.set_cons_succ]
                refine doneL (by kernel_rfl) ?_ _
                refine NoPanic.normal ?_
                clear hHeld
                have HDR : Hid (∀ o, (wr.alloc o).drew = wr.drew.alloc o) := Lib.hid (fun _ => rfl)
                go_wp2_with (at_builtin; rw [HDR.out]; refine app_new 24 30 (.agg #[.int .i64 0, .int .i64 0]) 2 16 info_pr Try.underlying24 rfl (by decide) (by rfl) _ _ (by rfl) wx.heap.size vo (outZ ps W k).length (flatP (outZ ps W k)) [.int .i64 (k : Int), .int .i64 (j : Int)] wr.drew HOd.out (by have := HBR'.out.size; omega) rfl two_ints (by omega) (by omega) (by rfl) (by rfl) ?_)
                intro g3 cap3 w3 hown3 hkeep3 _
                have HO3 := Lib.hid hown3
                have HB3 := Lib.hid (hkeep3.below HBR'.out (Nat.le_refl _))
                clear hown3 hkeep3
                go_wp2_with fail
                go_roundw
                case rel => exact ⟨k + 1, _, _, _, rfl, rfl, rfl, by omega, by go_num, HOF.out, HB3, Lib.hid (by
                  rw [HON.out, ← flatP_append _ ((k : Int), (j : Int)), show (outZ ps W k ++ [((k : Int), (j : Int))]).length = (outZ ps W k).length + 1 by rw [List.length_append]; rfl]
                  exact HO3.out)⟩
                case measure => simp [intOf]; omega
            · rw [if_neg hkj] at HGM
              rw [HGM.out, List.append_nil] at HON
              go_upto_region 15 with (fail)
              refine wp_region_noPanic ?_
              refine beginL (S := (fun _ => True)) (L := []) (by kernel_rfl) trivial (fun hHeld => ?_)
              refine takeW (i := 0) (oi := { dst := some 52, op := Op.move (Operand.tmp 10), type := 3, pos := "swiss.go:124", after := #[], guard := none }) (v := ?va35) rfl (by kernel_rfl) (by kernel_rfl) (by kernel_rfl) rfl (fun _ _ _ h => h) (Or.inl ⟨by rfl, ?ya35⟩) (fun _ => by assumption) ?ra35
              case ya35 => (intro w _; go_simp; first | done | (with_reducible rfl) | (rw [if_neg (by omega)]))
              try simp only [Act.put, List.setIfInBounds_toArray, List.set_cons_zero, List.set_cons_succ]
              refine takeW (i := 1) (oi := { dst := some 53, op := Op.move (Operand.tmp 11), type := 3, pos := "swiss.go:124", after := #[], guard := none }) (v := ?va36) rfl (by kernel_rfl) (by kernel_rfl) (by kernel_rfl) rfl (fun _ _ _ h => h) (Or.inl ⟨by rfl, ?ya36⟩) (fun _ => by assumption) ?ra36
              case ya36 => (intro w _; go_simp; first | done | (with_reducible rfl) | (rw [if_neg (by omega)]))
              try simp only [Act.put, List.setIfInBounds_toArray, List.set_cons_zero, List.set_cons_succ]
              refine takeW (i := 2) (oi := { dst := some 54, op := Op.binOp BinOp.lss 3 (Operand.tmp 52) (Operand.tmp 53) 3, type := 4, pos := "swiss.go:124", after := #[{ on := 0, ground := Ground.data }, { on := 1, ground := Ground.data }], guard := none }) (v := ?va37) rfl (by kernel_rfl) (by kernel_rfl) (by kernel_rfl) rfl (fun _ _ _ h => h) (Or.inl ⟨by rfl, ?ya37⟩) (fun _ => by assumption) ?ra37
              case ya37 => (intro w _; go_simp; first | done | (with_reducible rfl) | (rw [if_neg (by omega)]))
              try simp only [Act.put, List.setIfInBounds_toArray, List.set_cons_zero, List.set_cons_succ]
              refine takeW (i := 3) (oi := { dst := some 55, op := Op.move (Operand.tmp 54), type := 4, pos := "swiss.go:124", after := #[{ on := 2, ground := Ground.data }], guard := none }) (v := ?va38) rfl (by kernel_rfl) (by kernel_rfl) (by kernel_rfl) rfl (fun _ _ _ h => h) (Or.inl ⟨by rfl, ?ya38⟩) (fun _ => by assumption) ?ra38
              case ya38 => (intro w _; go_simp; first | done | (with_reducible rfl) | (rw [if_neg (by omega)]))
              try simp only [Act.put, List.setIfInBounds_toArray, List.set_cons_zero, List.set_cons_succ]
              refine takeW (i := 4) (oi := { dst := some 56, op := Op.move (Operand.tmp 0), type := 22, pos := "swiss.go:124", after := #[{ on := 3, ground := Ground.guard }], guard := some (3, true) }) (v := undef) rfl (by kernel_rfl) (by kernel_rfl) (by kernel_rfl) rfl (fun _ _ _ h => h) (Or.inr ⟨by rfl, rfl⟩) (fun _ => by assumption) ?_
              try simp only [Act.put, List.setIfInBounds_toArray, List.set_cons_zero, List.set_cons_succ]
              refine takeW (i := 5) (oi := { dst := some 57, op := Op.move (Operand.tmp 11), type := 3, pos := "swiss.go:124", after := #[{ on := 3, ground := Ground.guard }], guard := some (3, true) }) (v := undef) rfl (by kernel_rfl) (by kernel_rfl) (by kernel_rfl) rfl (fun _ _ _ h => h) (Or.inr ⟨by rfl, rfl⟩) (fun _ => by assumption) ?_
              try simp only [Act.put, List.setIfInBounds_toArray, List.set_cons_zero, List.set_cons_succ]
              refine takeW (i := 9) (oi := { dst := some 61, op := Op.move (Operand.tmp 0), type := 22, pos := "swiss.go:124", after := #[{ on := 3, ground := Ground.guard }], guard := some (3, true) }) (v := undef) rfl (by kernel_rfl) (by kernel_rfl) (by kernel_rfl) rfl (fun _ _ _ h => h) (Or.inr ⟨by rfl, rfl⟩) (fun _ => by assumption) ?_
              try simp only [Act.put, List.setIfInBounds_toArray, List.set_cons_zero, List.set_cons_succ]
              refine takeW (i := 10) (oi := { dst := some 62, op := Op.move (Operand.tmp 10), type := 3, pos := "swiss.go:124", after := #[{ on := 3, ground := Ground.guard }], guard := some (3, true) }) (v := undef) rfl (by kernel_rfl) (by kernel_rfl) (by kernel_rfl) rfl (fun _ _ _ h => h) (Or.inr ⟨by rfl, rfl⟩) (fun _ => by assumption) ?_
              try simp only [Act.put, List.setIfInBounds_toArray, List.set_cons_zero, List.set_cons_succ]
              refine takeW (i := 6) (oi := { dst := some 58, op := Op.indexAddr 22 (Operand.tmp 56) (Operand.tmp 57), type := 0, pos := "swiss.go:124", after := #[{ on := 4, ground := Ground.data }, { on := 5, ground := Ground.data }, { on := 3, ground := Ground.guard }], guard := some (3, true) }) (v := undef) rfl (by kernel_rfl) (by kernel_rfl) (by kernel_rfl) rfl (fun _ _ _ h => h) (Or.inr ⟨by rfl, rfl⟩) (fun _ => by assumption) ?_
              try simp only [Act.put, List.setIfInBounds_toArray, List.set_cons_zero, List.set_cons_succ]
              refine takeW (i := 11) (oi := { dst := some 63, op := Op.indexAddr 22 (Operand.tmp 61) (Operand.tmp 62), type := 0, pos := "swiss.go:124", after := #[{ on := 9, ground := Ground.data }, { on := 10, ground := Ground.data }, { on := 3, ground := Ground.guard }], guard := some (3, true) }) (v := undef) rfl (by kernel_rfl) (by kernel_rfl) (by kernel_rfl) rfl (fun _ _ _ h => h) (Or.inr ⟨by rfl, rfl⟩) (fun _ => by assumption) ?_
              try simp only [Act.put, List.setIfInBounds_toArray, List.set_cons_zero, List.set_cons_succ]
              refine takeW (i := 7) (oi := { dst := some 59, op := Op.fieldAddr 32 (Operand.tmp 58) 2, type := 0, pos := "swiss.go:124", after := #[{ on := 6, ground := Ground.data }, { on := 3, ground := Ground.guard }], guard := some (3, true) }) (v := undef) rfl (by kernel_rfl) (by kernel_rfl) (by kernel_rfl) rfl (fun _ _ _ h => h) (Or.inr ⟨by rfl, rfl⟩) (fun _ => by assumption) ?_
              try simp only [Act.put, List.setIfInBounds_toArray, List.set_cons_zero, List.set_cons_succ]
              refine takeW (i := 12) (oi := { dst := some 64, op := Op.fieldAddr 32 (Operand.tmp 63) 2, type := 0, pos := "swiss.go:124", after := #[{ on := 11, ground := Ground.data }, { on := 3, ground := Ground.guard }], guard := some (3, true) }) (v := undef) rfl (by kernel_rfl) (by kernel_rfl) (by kernel_rfl) rfl (fun _ _ _ h => h) (Or.inr ⟨by rfl, rfl⟩) (fun _ => by assumption) ?_
              try simp only [Act.put, List.setIfInBounds_toArray, List.set_cons_zero, List.set_cons_succ]
              refine takeW (i := 8) (oi := { dst := some 60, op := Op.load 3 (Operand.tmp 59), type := 3, pos := "swiss.go:124", after := #[{ on := 7, ground := Ground.data }, { on := 3, ground := Ground.guard }], guard := some (3, true) }) (v := undef) rfl (by kernel_rfl) (by kernel_rfl) (by kernel_rfl) rfl (fun _ _ _ h => h) (Or.inr ⟨by rfl, rfl⟩) (fun _ => by assumption) ?_
              try simp only [Act.put, List.setIfInBounds_toArray, List.set_cons_zero, List.set_cons_succ]
              refine takeW (i := 13) (oi := { dst := some 65, op := Op.load 3 (Operand.tmp 64), type := 3, pos := "swiss.go:124", after := #[{ on := 12, ground := Ground.data }, { on := 3, ground := Ground.guard }], guard := some (3, true) }) (v := undef) rfl (by kernel_rfl) (by kernel_rfl) (by kernel_rfl) rfl (fun _ _ _ h => h) (Or.inr ⟨by rfl, rfl⟩) (fun _ => by assumption) ?_
              try simp only [Act.put, List.setIfInBounds_toArray, List.set_cons_zero, List.set_cons_succ]
              refine takeW (i := 14) (oi := { dst := some 66, op := Op.binOp BinOp.lss 3 (Operand.tmp 60) (Operand.tmp 65) 3, type := 4, pos := "swiss.go:124", after := #[{ on := 8, ground := Ground.data }, { on := 13, ground := Ground.data }, { on := 3, ground := Ground.guard }], guard := some (3, true) }) (v := undef) rfl (by kernel_rfl) (by kernel_rfl) (by kernel_rfl) rfl (fun _ _ _ h => h) (Or.inr ⟨by rfl, rfl⟩) (fun _ => by assumption) ?_
              try simp only [Act.put, List.setIfInBounds_toArray, List.set_cons_zero, List.set_cons_succ]
              refine takeW (i := 15) (oi := { dst := some 67, op := Op.pick (Operand.tmp 55) (Operand.tmp 66) (Operand.const (Value.bool false)), type := 4, pos := "swiss.go:124", after := #[{ on := 3, ground := Ground.data }, { on := 14, ground := Ground.data }], guard := none }) (v := ?va50) rfl (by kernel_rfl) (by kernel_rfl) (by kernel_rfl) rfl (fun _ _ _ h => h) (Or.inl ⟨by rfl, ?ya50⟩) (fun _ => by assumption) ?ra50
              case ya50 => (intro w _; go_simp; first | done | (with_reducible rfl) | (rw [if_neg (by omega)]))
              try simp only [Act.put, List.setIfInBounds_toArray, List.set_cons_zero, List.set_cons_succ]
              refine takeW (i := 16) (oi := { dst := some 51, op := Op.assign (Operand.tmp 67), type := 4, pos := "swiss.go:124", after := #[{ on := 15, ground := Ground.data }, { on := 3, ground := Ground.chain }], guard := none }) (v := ?va51) rfl (by kernel_rfl) (by kernel_rfl) (by kernel_rfl) rfl (fun _ _ _ h => h) (Or.inl ⟨by rfl, ?ya51⟩) (fun _ => by assumption) ?ra51
              case ya51 => (intro w _; go_simp; first | done | (with_reducible rfl) | (rw [if_neg (by omega)]))
              try simp only [Act.put, List.setIfInBounds_toArray, List.set_cons_zero, List.set_cons_succ]
              refine doneL (by kernel_rfl) ?_ _
              refine NoPanic.normal ?_
              clear hHeld
              go_wp2_with fail
              go_roundw
              case rel => exact ⟨k + 1, _, _, _, rfl, rfl, rfl, by omega, by go_num, HOF.out, HBR', Lib.hid (by rw [HON.out]; exact HOd.out)⟩
              case measure => simp [intOf]; omega
        · obtain rfl : k = ps.length := by omega
          have q3 := HX3.out wr HBR.out
          go_upto_region 20 with (fail)
          refine wp_region_noPanic ?_
          refine beginL (S := (fun w' => w'.cell? ⟨bb, 3, none⟩ = some (.int .i64 lv))) (L := []) (by kernel_rfl) q3 (fun hHeld => ?_)
          refine takeW (i := 0) (oi := { dst := some 85, op := Op.move (Operand.tmp 8), type := 24, pos := "swiss.go:130", after := #[], guard := none }) (v := ?va52) rfl (by kernel_rfl) (by kernel_rfl) (by kernel_rfl) rfl (fun _ _ _ h => h) (Or.inl ⟨by rfl, ?ya52⟩) (fun _ => by assumption) ?ra52
          case ya52 => (intro w _; go_simp; first | done | (with_reducible rfl) | (rw [if_neg (by omega)]))
          try simp only [Act.put, List.setIfInBounds_toArray, List.set_cons_zero, List.set_cons_succ]
          refine takeW (i := 1) (oi := { dst := some 86, op := Op.move (Operand.tmp 7), type := 41, pos := "swiss.go:130", after := #[{ on := 6, ground := Ground.gcOnly Departure.lateStores }], guard := none }) (v := ?va53) rfl (by kernel_rfl) (by kernel_rfl) (by kernel_rfl) rfl (fun _ _ _ h => h) (Or.inl ⟨by rfl, ?ya53⟩) (fun _ => by assumption) ?ra53
          case ya53 => (intro w _; go_simp; first | done | (with_reducible rfl) | (rw [if_neg (by omega)]))
          try simp only [Act.put, List.setIfInBounds_toArray, List.set_cons_zero, List.set_cons_succ]
          refine takeW (i := 5) (oi := { dst := some 90, op := Op.move (Operand.tmp 9), type := 3, pos := "swiss.go:130", after := #[{ on := 7, ground := Ground.gcOnly Departure.lateStores }], guard := none }) (v := ?va54) rfl (by kernel_rfl) (by kernel_rfl) (by kernel_rfl) rfl (fun _ _ _ h => h) (Or.inl ⟨by rfl, ?ya54⟩) (fun _ => by assumption) ?ra54
          case ya54 => (intro w _; go_simp; first | done | (with_reducible rfl) | (rw [if_neg (by omega)]))
          try simp only [Act.put, List.setIfInBounds_toArray, List.set_cons_zero, List.set_cons_succ]
          refine takeW (i := 2) (oi := { dst := some 87, op := Op.nilCheck (Operand.tmp 86), type := 0, pos := "swiss.go:130", after := #[{ on := 1, ground := Ground.data }, { on := 6, ground := Ground.gcOnly Departure.lateStores }], guard := none }) (v := ?va55) rfl (by kernel_rfl) (by kernel_rfl) (by kernel_rfl) rfl (fun _ _ _ h => h) (Or.inl ⟨by rfl, ?ya55⟩) (fun _ => by assumption) ?ra55
          case ya55 => (intro w _; go_simp; first | done | (with_reducible rfl) | (rw [if_neg (by omega)]))
          try simp only [Act.put, List.setIfInBounds_toArray, List.set_cons_zero, List.set_cons_succ]
          refine takeW (i := 6) (oi := { dst := some 2, op := Op.assign (Operand.tmp 85), type := 24, pos := "swiss.go:130", after := #[{ on := 0, ground := Ground.data }, { on := 0, ground := Ground.phase }, { on := 1, ground := Ground.textOnly Departure.lateStores }, { on := 2, ground := Ground.textOnly Departure.lateStores }, { on := 3, ground := Ground.textOnly Departure.lateStores }, { on := 4, ground := Ground.textOnly Departure.lateStores }, { on := 5, ground := Ground.textOnly Departure.lateStores }], guard := none }) (v := ?va56) rfl (by kernel_rfl) (by kernel_rfl) (by kernel_rfl) rfl (fun _ _ _ h => h) (Or.inl ⟨by rfl, ?ya56⟩) (fun _ => by assumption) ?ra56
          case ya56 => (intro w _; go_simp; first | done | (with_reducible rfl) | (rw [if_neg (by omega)]))
          try simp only [Act.put, List.setIfInBounds_toArray, List.set_cons_zero, List.set_cons_succ]
          refine takeW (i := 3) (oi := { dst := some 88, op := Op.fieldAddr 44 (Operand.tmp 87) 3, type := 0, pos := "swiss.go:130", after := #[{ on := 2, ground := Ground.data }, { on := 6, ground := Ground.gcOnly Departure.lateStores }], guard := none }) (v := ?va57) rfl (by kernel_rfl) (by kernel_rfl) (by kernel_rfl) rfl (fun _ _ _ h => h) (Or.inl ⟨by rfl, ?ya57⟩) (fun _ => by assumption) ?ra57
          case ya57 => (intro w _; go_simp; first | done | (with_reducible rfl) | (rw [if_neg (by omega)]))
          try simp only [Act.put, List.setIfInBounds_toArray, List.set_cons_zero, List.set_cons_succ]
          refine takeL (i := 4) (oi := { dst := some 89, op := Op.load 3 (Operand.tmp 88), type := 3, pos := "swiss.go:130", after := #[{ on := 3, ground := Ground.data }, { on := 6, ground := Ground.gcOnly Departure.lateStores }], guard := none }) (v := ?va58) rfl (by kernel_rfl) (by kernel_rfl) (by kernel_rfl) (by kernel_rfl) rfl (by kernel_rfl) (by kernel_rfl) (fun _ _ _ h => h) (Or.inl ⟨by rfl, ?ya58⟩) (by assumption) ?ra58
          case ya58 => (intro w hSw; (try dsimp only at hSw); go_simp; first | done | (with_reducible rfl))
          try simp only [Act.put, List.setIfInBounds_toArray, List.set_cons_zero, List.set_cons_succ]
          refine takeW (i := 7) (oi := { dst := some 3, op := Op.assign (Operand.tmp 89), type := 3, pos := "swiss.go:130", after := #[{ on := 4, ground := Ground.data }, { on := 6, ground := Ground.chain }, { on := 0, ground := Ground.phase }, { on := 1, ground := Ground.phase }, { on := 2, ground := Ground.phase }, { on := 3, ground := Ground.phase }, { on := 4, ground := Ground.phase }, { on := 5, ground := Ground.textOnly Departure.lateStores }, { on := 6, ground := Ground.phase }], guard := none }) (v := ?va59) rfl (by kernel_rfl) (by kernel_rfl) (by kernel_rfl) rfl (fun _ _ _ h => h) (Or.inl ⟨by rfl, ?ya59⟩) (fun _ => by assumption) ?ra59
          case ya59 => (intro w _; go_simp; first | done | (with_reducible rfl) | (rw [if_neg (by omega)]))
          try simp only [Act.put, List.setIfInBounds_toArray, List.set_cons_zero, List.set_cons_succ]
          refine takeW (i := 8) (oi := { dst := some 4, op := Op.assign (Operand.tmp 90), type := 3, pos := "swiss.go:130", after := #[{ on := 5, ground := Ground.data }, { on := 7, ground := Ground.chain }, { on := 0, ground := Ground.phase }, { on := 1, ground := Ground.phase }, { on := 2, ground := Ground.phase }, { on := 3, ground := Ground.phase }, { on := 4, ground := Ground.phase }, { on := 5, ground := Ground.phase }, { on := 6, ground := Ground.phase }, { on := 7, ground := Ground.phase }], guard := none }) (v := ?va60) rfl (by kernel_rfl) (by kernel_rfl) (by kernel_rfl) rfl (fun _ _ _ h => h) (Or.inl ⟨by rfl, ?ya60⟩) (fun _ => by assumption) ?ra60
          case ya60 => (intro w _; go_simp; first | done | (with_reducible rfl) | (rw [if_neg (by omega)]))
          try simp only [Act.put, List.setIfInBounds_toArray, List.set_cons_zero, List.set_cons_succ]
          refine takeW (i := 9) (oi := { dst := some 5, op := Op.assign (Operand.const (Value.int IntKind.i64 0)), type := 25, pos := "swiss.go:130", after := #[{ on := 8, ground := Ground.chain }, { on := 0, ground := Ground.phase }, { on := 1, ground := Ground.phase }, { on := 2, ground := Ground.phase }, { on := 3, ground := Ground.phase }, { on := 4, ground := Ground.phase }, { on := 5, ground := Ground.phase }, { on := 6, ground := Ground.phase }, { on := 7, ground := Ground.phase }, { on := 8, ground := Ground.phase }], guard := none }) (v := ?va61) rfl (by kernel_rfl) (by kernel_rfl) (by kernel_rfl) rfl (fun _ _ _ h => h) (Or.inl ⟨by rfl, ?ya61⟩) (fun _ => by assumption) ?ra61
          case ya61 => (intro w _; go_simp; first | done | (with_reducible rfl) | (rw [if_neg (by omega)]))
          try simp only [Act.put, List.setIfInBounds_toArray, List.set_cons_zero, List.set_cons_succ]
          refine doneL (by kernel_rfl) ?_ _
          refine NoPanic.normal ?_
          clear hHeld
          go_wp2_with fail
          refine bodyPost_ret (v := .tuple #[vo, .int .i64 lv, .int .i64 (offZ ps.length W ps.length), .int .i64 0]) (by simp [results, Try.results7, go_sem]) rfl ?_
          exact ⟨below_drewN (below_trans HBx.out HBR.out HBx.out.size) 1, .inr (.inr ⟨HOK.out, W, vo, by rw [HPZ.out], HWG.out, RdL.below (prs_own HO.out) (below_drewN (Below.refl _ _) 1) (Nat.le_refl _), by rw [HPZ.out]⟩)⟩

end Go.Proofs.Ytkngpbnildhdpaa
