/- RatingKept: games move points from one player to another one; none is lost. For every input, no condition. -/
import Derived.Test.YtgbedogdikflcaaRatingParts
import Derived.Test.YtgbedogdikflcaaRatPer
namespace Go.Proofs.Ytgbedogdikflcaa.ratingKept
open Go.ChangeShapes Go.WideShapes Go.ChangeAt Go.RowKit Go.Proofs.Ytgbedogdikflcaa.ratingParts
set_option linter.unusedVariables false

/-! ### plainly -/
theorem sum_set (l : List Int) (i : Nat) (x : Int) (h : i < l.length) : (l.set i x).sum = l.sum - l.getD i 0 + x := by
  induction l generalizing i with
  | nil => simp at h
  | cons a t ih =>
    cases i with
    | zero => simp; omega
    | succ i =>
      have := ih i (by simpa using h)
      simp only [List.set_cons_succ, List.sum_cons, List.getD_cons_succ] at this ⊢
      omega
theorem sum_move (l : List Int) (i j : Nat) (n : Int) (hi : i < l.length) (hj : j < l.length) (hij : i ≠ j) : (moveZ l i j n).sum = l.sum := by
  unfold moveZ
  rw [sum_set _ _ _ (by simpa using hj), sum_set _ _ _ hi, set_get, if_neg (by omega)]
  omega
theorem change_in {zs : List Int} {g : GameZ} {f : Int} (h : (changeG zs g f).2 = 0) : g.fst.toNat < zs.length ∧ g.snd.toNat < zs.length ∧ g.fst.toNat ≠ g.snd.toNat := by
  have hbad : badG zs.length g = false := by
    cases hb : badG zs.length g
    · rfl
    · unfold changeG at h; rw [if_pos hb] at h; cases h
  simp [badG] at hbad
  omega
theorem game_sum {zs : List Int} {g : GameZ} {f : Int} (h : (gameR zs g f).2 = 0) : (gameR zs g f).1.length = zs.length ∧ (gameR zs g f).1.sum = zs.sum := by
  unfold gameR at h ⊢
  by_cases hc : checkR zs = 0
  · rw [if_neg (by simpa using hc)] at h ⊢
    by_cases hg : (changeG zs g f).2 = 0
    · rw [if_neg (by simpa using hg)]
      obtain ⟨q1, q2, q3⟩ := change_in hg
      exact ⟨moveZ_len _ _ _ _, sum_move _ _ _ _ q1 q2 q3⟩
    · rw [if_pos hg] at h
      exact absurd h hg
  · rw [if_pos hc] at h
    exact absurd h hc
theorem fold_sum (f : Int) : ∀ (gs : List GameZ) (zs : List Int), (foldG f zs gs).2 = 0 → (foldG f zs gs).1.length = zs.length ∧ (foldG f zs gs).1.sum = zs.sum
  | [], zs, _ => ⟨rfl, rfl⟩
  | g :: t, zs, h => by
    by_cases hg : (gameR zs g f).2 = 0
    · rw [fold_ok hg] at h ⊢
      obtain ⟨q1, q2⟩ := fold_sum f t _ h
      obtain ⟨q3, q4⟩ := game_sum hg
      exact ⟨q1.trans q3, q2.trans q4⟩
    · rw [fold_no hg] at h
      exact absurd h hg
theorem all_sum {zs : List Int} {gs : List GameZ} {f : Int} (h : (allR zs gs f).2 = 0) : checkR zs = 0 ∧ (allR zs gs f).1.length = zs.length ∧ (allR zs gs f).1.sum = zs.sum ∧ checkR (allR zs gs f).1 = 0 := by
  by_cases hz : checkR zs = 0
  · unfold allR at h ⊢
    by_cases hc : chkAllR zs gs.length = 0
    · rw [if_neg (by simpa using hc)] at h ⊢
      obtain ⟨q1, q2⟩ := fold_sum f gs zs h
      exact ⟨hz, q1, q2, fold_check f gs zs hz h⟩
    · rw [if_pos hc] at h
      exact absurd h hc
  · rw [all_no hz] at h
    exact absurd h hz
theorem foldP_sum (f : Int) (zs : List Int) : ∀ (gs : List GameZ) (x : List Int), x.length = zs.length → (foldP f zs x gs).2 = 0 → (foldP f zs x gs).1.length = x.length ∧ (foldP f zs x gs).1.sum = x.sum
  | [], x, _, _ => ⟨rfl, rfl⟩
  | g :: t, x, hl, h => by
    rw [foldP] at h ⊢
    by_cases hg : (changeG zs g f).2 = 0
    · rw [if_neg (by simpa using hg)] at h ⊢
      obtain ⟨q1, q2, q3⟩ := change_in hg
      obtain ⟨q4, q5⟩ := foldP_sum f zs t _ ((moveZ_len _ _ _ _).trans hl) h
      exact ⟨q4.trans (moveZ_len _ _ _ _), q5.trans (sum_move _ _ _ _ (by omega) (by omega) q3)⟩
    · rw [if_pos hg] at h
      exact absurd h hg
theorem period_sum {zs : List Int} {gs : List GameZ} {f : Int} (h : (periodR zs gs f).2 = 0) : checkR zs = 0 ∧ (periodR zs gs f).1.length = zs.length ∧ (periodR zs gs f).1.sum = zs.sum ∧ checkR (periodR zs gs f).1 = 0 := by
  unfold periodR at h ⊢
  by_cases hc : chkAllR zs gs.length = 0
  · rw [if_neg (by simpa using hc)] at h ⊢
    have hz : checkR zs = 0 := by
      unfold chkAllR at hc
      split at hc
      · contradiction
      · rename_i hh; simpa using hh
    unfold endP at h ⊢
    by_cases h2 : (foldP f zs zs gs).2 = 0
    · rw [if_neg (by simpa using h2)] at h ⊢
      by_cases h3 : checkR (foldP f zs zs gs).1 = 0
      · rw [if_neg (by simpa using h3)]
        obtain ⟨q1, q2⟩ := foldP_sum f zs gs zs rfl h2
        exact ⟨hz, q1, q2, h3⟩
      · rw [if_pos h3] at h
        exact absurd h h3
    · rw [if_pos h2] at h
      exact absurd h h2
  · rw [if_pos hc] at h
    exact absurd h hc
theorem sum_take (l : List Int) (k : Nat) (h : k < l.length) : (l.take (k + 1)).sum = (l.take k).sum + l.getD k 0 := by
  rw [List.take_succ_eq_append_getElem h, List.sum_append]
  simp [List.getD, List.getElem?_eq_getElem h]
theorem sum_b {l : List Int} (h : Within 1000000 l) (k : Nat) : -(1000000 * (k : Int)) ≤ (l.take k).sum ∧ (l.take k).sum ≤ 1000000 * (k : Int) := by
  induction k with
  | zero => simp
  | succ k ih =>
    by_cases hk : k < l.length
    · rw [sum_take l k hk]
      have := h k
      omega
    · rw [List.take_of_length_le (by omega)]
      rw [List.take_of_length_le (by omega)] at ih
      omega

/-- what the loop knows of a list that is summed. -/
theorem row_at {w : World} {b : Nat} {a : Option Addr} {n c : Nat} {l : List Int} (h : w.ownsRow b 3 1 (.slice a n c) n (ints l)) (hl : l.length = n) (k : Nat) (hk : k < n) : ∃ g, a = some ⟨g, 0, none⟩ ∧ w.cell? ⟨g, k, none⟩ = some (.int .i64 (l.getD k 0)) := by
  obtain ⟨g, c', q⟩ := own_some h (by omega)
  simp only [Value.slice.injEq, true_and] at q
  obtain ⟨rfl, rfl⟩ := q
  exact ⟨g, rfl, (h.cellAt k (by omega)).trans (ints_get _ k (by omega))⟩

set_option maxHeartbeats 2000000 in
theorem walk (v vg : Value) (f : Int) (w : World) (zs0 : List Int) (gs0 : List GameZ) (h : RdI w v zs0) (hg : RdG w vg gs0) :
    Calls Try.prog 5 #[v, vg, .int .i64 f] w fun e w' => e = .returned (.bool true) ∧ Below w.heap.size w w' := by
  obtain ⟨a, c, rfl, h1, h2⟩ := h.form
  obtain ⟨ga, gc, rfl, g1, g2, _⟩ := hg.form
  unfold maxLen at h2 g2
  obtain ⟨L, hL, lq1, lq2⟩ := minN zs0.length 64 (by omega)
  obtain ⟨G, hG, m1, m2⟩ := minN gs0.length 60 (by omega)
  have HI := Lib.hid (RdI.take h L lq1)
  have HG := Lib.hid (RdG.take hg G m1)
  clear h hg
  have t1 := fun w => run_takeAt elemI sizeI a zs0.length c L (by omega) w
  have t2 := fun w => run_takeAt elemG sizeG ga gs0.length gc G (by omega) w
  have lz : (zs0.take L).length = L := by rw [List.length_take]; omega
  have HLZ := Lib.hid lz
  clear lz
  generalize zs0.take L = zs at *
  generalize gs0.take G = gs at *
  go_enter Try.func5, Try.ntmps5
  go_wp2_with fail
  refine (rates_any _).mono ?_
  rintro e w' ⟨rfl, rfl⟩
  go_wp2_with fail
  go_region
  clear t1 t2 hL hG
  go_wp2_with fail
  have HI0 : Hid (RdI w.drew (.slice a L c) zs) := HI
  have HG0 : Hid (RdG w.drew (.slice ga G gc) gs) := HG
  have hb0 : Below w.heap.size w w.drew := (Below.refl _ w).drew
  clear HI HG
  generalize w.drew = W0 at *
  refine (All_any _ _ zs gs f _ HI0.out HG0.out).mono ?_
  rintro e w1 ⟨va, rfl, hown1, hb1⟩
  obtain ⟨aa, ca, hva⟩ := own_form2 hown1
  have HO1 := Lib.hid hown1
  have HVA := Lib.hid hva
  have HI1 := Lib.hid (HI0.out.below hb1 (Nat.le_refl _))
  have HG1 := Lib.hid (RdG.below HG0.out hb1 (Nat.le_refl _))
  have hb01 := hb0.trans (hb1.mono hb0.size)
  clear hown1 hb1 hb0 HG0 HI0 hva
  have HS1 := Lib.hid (all_sum (zs := zs) (gs := gs) (f := f))
  generalize allR zs gs f = r1 at *
  obtain ⟨l1, e1⟩ := r1
  simp only at *
  go_wp2_with fail
  refine (Period_any _ _ zs gs f _ HI1.out HG1.out).mono ?_
  rintro e w2 ⟨vb, rfl, hown2, hb2⟩
  obtain ⟨ab, cb, hvb⟩ := own_form2 hown2
  have HO1' := Lib.hid (own_stays HO1.out hb2)
  have HO2 := Lib.hid hown2
  have HVB := Lib.hid hvb
  have HI2 := Lib.hid (HI1.out.below hb2 (Nat.le_refl _))
  have hb02 := hb01.trans (hb2.mono hb01.size)
  clear hown2 hb2 hb01 HO1 HG1 HI1 hvb
  have HS2 := Lib.hid (period_sum (zs := zs) (gs := gs) (f := f))
  generalize periodR zs gs f = r2 at *
  obtain ⟨l2', e2⟩ := r2
  simp only at *
  have hva := HVA.out
  subst hva
  have hvb := HVB.out
  subst hvb
  by_cases he1 : e1 = 0
  · obtain ⟨z0, z1, z2, z3⟩ := HS1.out he1
    by_cases he2 : e2 = 0
    · obtain ⟨_, y1, y2, y3⟩ := HS2.out he2
      subst he1
      have HL1 := Lib.hid z1
      have HM1 := Lib.hid z2
      have HW1 := Lib.hid (checkR_within z3)
      rw [z1] at HO1'
      rw [z1]
      subst he2
      have HL2 := Lib.hid y1
      have HM2 := Lib.hid y2
      have HW2 := Lib.hid (checkR_within y3)
      rw [y1] at HO2
      rw [y1]
      have HW0 := Lib.hid (checkR_within z0)
      clear z0 HS1 HS2 z1 z2 z3 y1 y2 y3
      rw [HLZ.out] at HO1'
      rw [HLZ.out] at HO2
      rw [HLZ.out]
      go_wp2_with fail
      go_loop [11, 12, 13, 43] (fun s t1 t2 i => ∃ k : Nat, k ≤ L ∧ i = .int .i64 k ∧ s = .int .i64 (zs.take k).sum ∧ t1 = .int .i64 (l1.take k).sum ∧ t2 = .int .i64 (l2'.take k).sum) (fun _ _ _ i => L - (intOf i).toNat)
      case atStart => exact ⟨0, Nat.zero_le _, rfl, rfl, rfl, rfl⟩
      case round =>
        obtain ⟨k, hk, rfl, rfl, rfl, rfl⟩ := hrel
        have b0 := sum_b HW0.out k
        have b1 := sum_b HW1.out k
        have b2 := sum_b HW2.out k
        by_cases hlt : k < L
        · obtain ⟨gb, o, c', q, _, _, _, hcell⟩ := HI2.out.some (by rw [HLZ.out]; omega)
          simp only [Value.slice.injEq] at q
          obtain ⟨rfl, _, rfl⟩ := q
          have ck := hcell k (by rw [HLZ.out]; omega)
          have b3 := HW0.out k
          have HT0 := Lib.hid (sum_take zs k (by rw [HLZ.out]; omega))
          obtain ⟨gx, rfl, cx⟩ := row_at HO1'.out (by rw [HL1.out, HLZ.out]) k hlt
          have b4 := HW1.out k
          have HT1 := Lib.hid (sum_take l1 k (by rw [HL1.out, HLZ.out]; omega))
          obtain ⟨gy, rfl, cy⟩ := row_at HO2.out (by rw [HL2.out, HLZ.out]) k hlt
          have b5 := HW2.out k
          have HT2 := Lib.hid (sum_take l2' k (by rw [HL2.out, HLZ.out]; omega))
          clear hcell
          generalize zs.getD k 0 = z at *
          generalize l1.getD k 0 = z1 at *
          generalize l2'.getD k 0 = z2 at *
          go_wp2_with fail
          go_round
          case rel => exact ⟨k + 1, by omega, by go_num, by rw [HT0.out], by rw [HT1.out], by rw [HT2.out]⟩
          case measure => simp [intOf]; omega
        · obtain rfl : k = L := by omega
          have HE0 : Hid (zs.take k = zs) := Lib.hid (List.take_of_length_le (by rw [HLZ.out]; exact Nat.le_refl _))
          have HE1 : Hid (l1.take k = l1) := Lib.hid (List.take_of_length_le (by rw [HL1.out, HLZ.out]; exact Nat.le_refl _))
          have HE2 : Hid (l2'.take k = l2') := Lib.hid (List.take_of_length_le (by rw [HL2.out, HLZ.out]; exact Nat.le_refl _))
          rw [HE0.out, HE1.out, HE2.out]
          rw [HM1.out]
          rw [HM2.out]
          go_wp2_with fail
          go_ret
          exact ⟨by simp, hb02⟩
    · have tok : True := trivial
      subst he1
      have HL1 := Lib.hid z1
      have HM1 := Lib.hid z2
      have HW1 := Lib.hid (checkR_within z3)
      rw [z1] at HO1'
      rw [z1]
      have n2 : (e2 != 0) = true := by simpa using he2
      have n4 : (e2 == 0) = false := by simpa using he2
      have HW0 := Lib.hid (checkR_within z0)
      clear z0 HS1 HS2 z1 z2 z3 he2
      rw [HLZ.out] at HO1'
      rw [HLZ.out]
      go_wp2_with fail
      go_loop [11, 12, 43] (fun s t1 i => ∃ k : Nat, k ≤ L ∧ i = .int .i64 k ∧ s = .int .i64 (zs.take k).sum ∧ t1 = .int .i64 (l1.take k).sum) (fun _ _ i => L - (intOf i).toNat)
      case atStart => exact ⟨0, Nat.zero_le _, rfl, rfl, rfl⟩
      case round =>
        obtain ⟨k, hk, rfl, rfl, rfl⟩ := hrel
        have b0 := sum_b HW0.out k
        have b1 := sum_b HW1.out k
        by_cases hlt : k < L
        · obtain ⟨gb, o, c', q, _, _, _, hcell⟩ := HI2.out.some (by rw [HLZ.out]; omega)
          simp only [Value.slice.injEq] at q
          obtain ⟨rfl, _, rfl⟩ := q
          have ck := hcell k (by rw [HLZ.out]; omega)
          have b3 := HW0.out k
          have HT0 := Lib.hid (sum_take zs k (by rw [HLZ.out]; omega))
          obtain ⟨gx, rfl, cx⟩ := row_at HO1'.out (by rw [HL1.out, HLZ.out]) k hlt
          have b4 := HW1.out k
          have HT1 := Lib.hid (sum_take l1 k (by rw [HL1.out, HLZ.out]; omega))
          clear hcell
          generalize zs.getD k 0 = z at *
          generalize l1.getD k 0 = z1 at *
          go_wp2_with fail
          go_round
          case rel => exact ⟨k + 1, by omega, by go_num, by rw [HT0.out], by rw [HT1.out]⟩
          case measure => simp [intOf]; omega
        · obtain rfl : k = L := by omega
          have HE0 : Hid (zs.take k = zs) := Lib.hid (List.take_of_length_le (by rw [HLZ.out]; exact Nat.le_refl _))
          have HE1 : Hid (l1.take k = l1) := Lib.hid (List.take_of_length_le (by rw [HL1.out, HLZ.out]; exact Nat.le_refl _))
          rw [HE0.out, HE1.out]
          rw [HM1.out]
          go_wp2_with fail
          go_ret
          exact ⟨by simp, hb02⟩
  · by_cases he2 : e2 = 0
    · obtain ⟨z0, y1, y2, y3⟩ := HS2.out he2
      have n1 : (e1 != 0) = true := by simpa using he1
      have n3 : (e1 == 0) = false := by simpa using he1
      subst he2
      have HL2 := Lib.hid y1
      have HM2 := Lib.hid y2
      have HW2 := Lib.hid (checkR_within y3)
      rw [y1] at HO2
      rw [y1]
      have HW0 := Lib.hid (checkR_within z0)
      clear z0 HS1 HS2 he1 y1 y2 y3
      rw [HLZ.out] at HO2
      rw [HLZ.out]
      go_wp2_with fail
      go_loop [11, 13, 43] (fun s t2 i => ∃ k : Nat, k ≤ L ∧ i = .int .i64 k ∧ s = .int .i64 (zs.take k).sum ∧ t2 = .int .i64 (l2'.take k).sum) (fun _ _ i => L - (intOf i).toNat)
      case atStart => exact ⟨0, Nat.zero_le _, rfl, rfl, rfl⟩
      case round =>
        obtain ⟨k, hk, rfl, rfl, rfl⟩ := hrel
        have b0 := sum_b HW0.out k
        have b2 := sum_b HW2.out k
        by_cases hlt : k < L
        · obtain ⟨gb, o, c', q, _, _, _, hcell⟩ := HI2.out.some (by rw [HLZ.out]; omega)
          simp only [Value.slice.injEq] at q
          obtain ⟨rfl, _, rfl⟩ := q
          have ck := hcell k (by rw [HLZ.out]; omega)
          have b3 := HW0.out k
          have HT0 := Lib.hid (sum_take zs k (by rw [HLZ.out]; omega))
          obtain ⟨gy, rfl, cy⟩ := row_at HO2.out (by rw [HL2.out, HLZ.out]) k hlt
          have b5 := HW2.out k
          have HT2 := Lib.hid (sum_take l2' k (by rw [HL2.out, HLZ.out]; omega))
          clear hcell
          generalize zs.getD k 0 = z at *
          generalize l2'.getD k 0 = z2 at *
          go_wp2_with fail
          go_round
          case rel => exact ⟨k + 1, by omega, by go_num, by rw [HT0.out], by rw [HT2.out]⟩
          case measure => simp [intOf]; omega
        · obtain rfl : k = L := by omega
          have HE0 : Hid (zs.take k = zs) := Lib.hid (List.take_of_length_le (by rw [HLZ.out]; exact Nat.le_refl _))
          have HE2 : Hid (l2'.take k = l2') := Lib.hid (List.take_of_length_le (by rw [HL2.out, HLZ.out]; exact Nat.le_refl _))
          rw [HE0.out, HE2.out]
          rw [HM2.out]
          go_wp2_with fail
          go_ret
          exact ⟨by simp, hb02⟩
    · have n1 : (e1 != 0) = true := by simpa using he1
      have n2 : (e2 != 0) = true := by simpa using he2
      have n3 : (e1 == 0) = false := by simpa using he1
      have n4 : (e2 == 0) = false := by simpa using he2
      clear he1 he2 HS1 HS2
      go_wp2_with fail
      go_loop [11, 43] (fun s i => ∃ k : Nat, k ≤ L ∧ i = .int .i64 k ∧ ∃ x : Int, s = .int .i64 x) (fun _ i => L - (intOf i).toNat)
      case atStart => exact ⟨0, Nat.zero_le _, rfl, 0, rfl⟩
      case round =>
        obtain ⟨k, hk, rfl, x, rfl⟩ := hrel
        by_cases hlt : k < L
        · obtain ⟨gb, o, c', q, _, _, _, hcell⟩ := HI2.out.some (by rw [HLZ.out]; omega)
          simp only [Value.slice.injEq] at q
          obtain ⟨rfl, _, rfl⟩ := q
          have ck := hcell k (by rw [HLZ.out]; omega)
          clear hcell
          generalize zs.getD k 0 = z at *
          go_wp2_with fail
          go_round
          case rel => exact ⟨k + 1, by omega, by go_num, _, rfl⟩
          case measure => simp [intOf]; omega
        · obtain rfl : k = L := by omega
          go_wp2_with fail
          go_ret
          exact ⟨rfl, hb02⟩

section
theorem own : ownKnob Try.prog.godebug = none := by kernel_rfl
theorem laidOut : laidOutB Try.prog = true := by kernel_rfl

set_option maxRecDepth 100000 in
theorem lifted (os : Os) (started : os.Started) (H : Type) (enc : TypeId × Value → H) :
    ReturnsInHanded {} Try.checked os 5 .any (Rows.ratingKeptSpec.pre6 enc Try.prog Try.f5 Rows.ratingKeptRow.domain false) (Rows.ratingKeptSpec.post enc Try.prog Try.f5 false true false false) := by
  refine returnsInHanded_of_change (C := Try.checked) own started (by kernel_rfl) Try.func5
    (ChangeSpec.witness6 (enc := enc) (C := Try.checked) false ⟨#[], #[.slice none 0 0, .slice none 0 0, .int .i64 0], []⟩ 8 (by kernel_rfl) (by kernel_rfl) (by kernel_rfl) (by kernel_rfl)) ?_
  intro W base args ds gs before hval0 hW hcnd _
  have hval : ∀ (j : Nat) t v, Try.f5.params[j]? = some t → args[j]? = some v → Value.okWide Try.prog W .any base t v := hval0
  have hW' := hW
  obtain ⟨p, q, hA0, hV, rfl, hfz, hnd⟩ := hW
  have hA : DataW.TrodAll enc Try.prog W 0 (fun _ => true) true Try.f5.params.toList args.toList ds p := hA0
  rw [Try.params5] at hA hval
  have hAll := hA
  obtain ⟨v0, vs0, d0, ds0, p0, q0, hargs, rfl, rfl, h0, r0⟩ := trodAll_cons hA
  obtain ⟨v1, vs1, d1, ds1, p1, q1, rfl, rfl, rfl, h1, r1⟩ := trodAll_cons r0
  obtain ⟨v2, vs2, d2, ds2, p2, q2, rfl, rfl, rfl, h2, r2⟩ := trodAll_cons r1
  obtain ⟨rfl, rfl, rfl⟩ := trodAll_nil r2
  obtain rfl : args = #[v0, v1, v2] := by cases args; simp_all
  obtain ⟨rfl, rfl⟩ := trodVars_none hV
  obtain ⟨zs, hz, _⟩ := open_RdI Try.underlying28 Try.underlying3 (by kernel_rfl) (hval 0 28 v0 rfl rfl) h0
  obtain ⟨gs, hgs⟩ := open_RdG (ti := 3) Try.underlying29 Try.underlying39 (by kernel_rfl) rfl (by kernel_rfl) (by decide +kernel) Try.underlying3 (hval 1 29 v1 rfl rfl) h1
  obtain ⟨a2, rfl, rfl, rfl, w2⟩ := open_int Try.underlying3 (hval 2 3 v2 rfl rfl) h2
  clear hA0 hval0
  refine (walk v0 v1 a2 W zs gs hz hgs).mono fun e W' ⟨he, bel⟩ => ?_
  subst he
  exact ⟨_, rfl, _, _, _, [], _, [], hW', trodAll_mk1 (shut_bool Try.underlying4 _), trodAll_stays laidOut bel (by kernel_rfl) hAll, rfl, bel.frame _, fun h => by cases h⟩

theorem over : Rows.ratingKeptRow.holds Try.pinned (OpenSpec.ofChange Rows.ratingKeptSpec) :=
  OpenClaim.holds_of_wide 5 Try.f5 rfl rfl rfl rfl rfl rfl rfl ⟨rfl, rfl, rfl, rfl, rfl⟩ rfl rfl rfl rfl rfl (by kernel_rfl) Try.func5 (by kernel_rfl)
    (of_decide_eq_true (by kernel_rfl)) (by unfold Func.isWrapper; first | (rw [if_pos (by decide +kernel)]; kernel_rfl) | (rw [if_neg (by decide +kernel)]; exact ⟨rfl, rfl⟩))
    (fun os started H enc _ => lifted os started H enc)

theorem proved : Rows.RatingKeptSaid := over
end
#print axioms proved
end Go.Proofs.Ytgbedogdikflcaa.ratingKept
