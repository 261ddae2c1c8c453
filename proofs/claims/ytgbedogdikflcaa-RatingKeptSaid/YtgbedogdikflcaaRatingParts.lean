/- RatingParts: games in two parts are all at once. For every input, no condition. -/
import Derived.Test.YtgbedogdikflcaaRatOpen
import Derived.Test.YtgbedogdikflcaaSub
import Derived.Test.YtgbedogdikflcaaFrame
namespace Go.Proofs.Ytgbedogdikflcaa.ratingParts
open Go.ChangeShapes Go.WideShapes Go.ChangeAt Go.RowKit
set_option linter.unusedVariables false

/-! ### plainly -/
theorem moveZ_len (zs : List Int) (i j : Nat) (n : Int) : (moveZ zs i j n).length = zs.length := by simp [moveZ]
theorem any_out {zs : List Int} (h : zs.any outB = false) (i : Nat) : -1000000 ≤ zs.getD i 0 ∧ zs.getD i 0 ≤ 1000000 := by
  by_cases hi : i < zs.length
  · rw [List.getD_eq_getElem?_getD, List.getElem?_eq_getElem hi]
    exact outB_false (List.any_eq_false.1 h _ (List.getElem_mem hi) |> fun q => by simpa using q)
  · rw [List.getD_eq_getElem?_getD, List.getElem?_eq_none (by omega)]; simp
theorem set_out {zs : List Int} (h : zs.any outB = false) (i : Nat) (x : Int) (hx : -1000000 ≤ x ∧ x ≤ 1000000) : (zs.set i x).any outB = false := by
  rw [List.any_eq_false] at h ⊢
  intro y hy
  rcases List.mem_or_eq_of_mem_set hy with q | q
  · exact h y q
  · subst q
    simp [outB]; omega
theorem check_zero {zs : List Int} : checkR zs = 0 ↔ 1 ≤ zs.length ∧ zs.length ≤ 64 ∧ zs.any outB = false := by
  unfold checkR
  split
  · simp; omega
  · split
    · rename_i h; simp [h]
    · rename_i h; simp only [Bool.not_eq_true] at h; simp [h]; omega
theorem game_check (zs : List Int) (g : GameZ) (f : Int) (h : (gameR zs g f).2 = 0) : checkR (gameR zs g f).1 = 0 := by
  unfold gameR at h ⊢
  by_cases hc : checkR zs = 0
  · rw [if_neg (by simpa using hc)] at h ⊢
    by_cases hg : (changeG zs g f).2 = 0
    · rw [if_neg (by simpa using hg)] at h ⊢
      simp only
      have hz := check_zero.1 hc
      have hi := any_out hz.2.2 g.fst.toNat
      have hj := any_out hz.2.2 g.snd.toNat
      rw [check_zero, moveZ_len]
      refine ⟨hz.1, hz.2.1, ?_⟩
      unfold moveZ
      generalize (changeG zs g f).1 = n
      generalize zs.getD g.fst.toNat 0 = a at *
      generalize zs.getD g.snd.toNat 0 = b at *
      refine set_out (set_out hz.2.2 _ _ ?_) _ _ ?_
      · unfold clampN; omega
      · unfold clampN; omega
    · rw [if_pos hg] at h
      exact absurd h hg
  · rw [if_pos hc] at h
    exact absurd h hc
theorem fold_ok {f : Int} {zs : List Int} {g : GameZ} {t : List GameZ} (h : (gameR zs g f).2 = 0) : foldG f zs (g :: t) = foldG f (gameR zs g f).1 t := by
  rw [foldG, if_neg (by simpa using h)]
theorem fold_no {f : Int} {zs : List Int} {g : GameZ} {t : List GameZ} (h : ¬ (gameR zs g f).2 = 0) : foldG f zs (g :: t) = ([], (gameR zs g f).2) := by
  rw [foldG, if_pos h]
theorem fold_check (f : Int) : ∀ (gs : List GameZ) (zs : List Int), checkR zs = 0 → (foldG f zs gs).2 = 0 → checkR (foldG f zs gs).1 = 0
  | [], zs, hz, _ => hz
  | g :: t, zs, hz, h => by
    by_cases hg : (gameR zs g f).2 = 0
    · rw [fold_ok hg] at h ⊢
      exact fold_check f t _ (game_check zs g f hg) h
    · rw [fold_no hg] at h
      exact absurd h hg
theorem fold_append (f : Int) : ∀ (a b : List GameZ) (zs : List Int), foldG f zs (a ++ b) = if (foldG f zs a).2 ≠ 0 then ([], (foldG f zs a).2) else foldG f (foldG f zs a).1 b
  | [], b, zs => by simp [foldG]
  | g :: t, b, zs => by
    rw [List.cons_append]
    by_cases hg : (gameR zs g f).2 = 0
    · rw [fold_ok hg, fold_ok hg]
      exact fold_append f t b _
    · rw [fold_no hg, fold_no hg]
      simp [hg]
theorem fold_bad (f : Int) : ∀ (gs : List GameZ) (zs : List Int), (foldG f zs gs).2 ≠ 0 → (foldG f zs gs).1 = []
  | [], zs, h => by simp [foldG] at h
  | g :: t, zs, h => by
    by_cases hg : (gameR zs g f).2 = 0
    · rw [fold_ok hg] at h ⊢
      exact fold_bad f t _ h
    · rw [fold_no hg]
theorem all_ok {zs : List Int} {gs : List GameZ} {f : Int} (hg : gs.length ≤ 60) (h : checkR zs = 0) : allR zs gs f = foldG f zs gs := by
  unfold allR chkAllR
  rw [h]
  simp
  omega
theorem all_no {zs : List Int} {gs : List GameZ} {f : Int} (h : ¬ checkR zs = 0) : allR zs gs f = ([], checkR zs) := by
  unfold allR chkAllR
  simp [h]
theorem all_bad (zs : List Int) (gs : List GameZ) (f : Int) (h : (allR zs gs f).2 ≠ 0) : (allR zs gs f).1 = [] := by
  unfold allR at h ⊢
  split
  · rfl
  · rename_i hc
    rw [if_neg hc] at h
    exact fold_bad f gs zs h
/-- the law, plainly. -/
theorem parts_bad (zs : List Int) (gs : List GameZ) (f : Int) (k : Nat) (hg : gs.length ≤ 60) (h : (allR zs (gs.take k) f).2 ≠ 0) : (allR zs gs f).2 = (allR zs (gs.take k) f).2 ∧ (allR zs gs f).1 = [] := by
  have ht : (gs.take k).length ≤ 60 := by rw [List.length_take]; omega
  by_cases hz : checkR zs = 0
  · have happ := fold_append f (gs.take k) (gs.drop k) zs
    rw [List.take_append_drop] at happ
    rw [all_ok ht hz] at h ⊢
    rw [all_ok hg hz, happ, if_pos h]
    exact ⟨rfl, rfl⟩
  · rw [all_no hz, all_no hz]
    exact ⟨rfl, rfl⟩
theorem parts_ok (zs : List Int) (gs : List GameZ) (f : Int) (k : Nat) (hg : gs.length ≤ 60) (h : (allR zs (gs.take k) f).2 = 0) : allR zs gs f = allR (allR zs (gs.take k) f).1 (gs.drop k) f := by
  have ht : (gs.take k).length ≤ 60 := by rw [List.length_take]; omega
  have hd : (gs.drop k).length ≤ 60 := by rw [List.length_drop]; omega
  by_cases hz : checkR zs = 0
  · have happ := fold_append f (gs.take k) (gs.drop k) zs
    rw [List.take_append_drop] at happ
    rw [all_ok ht hz] at h ⊢
    rw [all_ok hg hz, happ, if_neg (by simpa using h), all_ok hd (fold_check f _ _ hz h)]
  · rw [all_no hz] at h
    exact absurd h hz

theorem flatG_take (gs : List GameZ) (k : Nat) : (flatG gs).take (k * 3) = flatG (gs.take k) := by
  induction gs generalizing k with
  | nil => simp [flatG]
  | cons g t ih =>
    cases k with
    | zero => simp [flatG]
    | succ k =>
      have e : (k + 1) * 3 = k * 3 + 1 + 1 + 1 := by omega
      have e1 : flatG (g :: t) = .int .i64 g.fst :: .int .i64 g.snd :: .int .i64 g.pts :: flatG t := rfl
      have e2 : flatG (g :: t.take k) = .int .i64 g.fst :: .int .i64 g.snd :: .int .i64 g.pts :: flatG (t.take k) := rfl
      rw [e, e1, List.take_succ_cons, List.take_succ_cons, List.take_succ_cons, ih, List.take_succ_cons, e2]
theorem flatG_drop (gs : List GameZ) (k : Nat) : (flatG gs).drop (k * 3) = flatG (gs.drop k) := by
  induction gs generalizing k with
  | nil => simp [flatG]
  | cons g t ih =>
    cases k with
    | zero => simp [flatG]
    | succ k =>
      have e : (k + 1) * 3 = k * 3 + 1 + 1 + 1 := by omega
      have e1 : flatG (g :: t) = .int .i64 g.fst :: .int .i64 g.snd :: .int .i64 g.pts :: flatG t := rfl
      rw [e, e1, List.drop_succ_cons, List.drop_succ_cons, List.drop_succ_cons, ih, List.drop_succ_cons]
theorem RdG.take {w : World} {a : Option Addr} {c : Nat} {gs : List GameZ} (h : RdG w (.slice a gs.length c) gs) (k : Nat) (hk : k ≤ gs.length) : RdG w (.slice a k c) (gs.take k) := by
  have := Rd.take h k hk
  rw [flatG_take] at this
  unfold RdG
  rw [List.length_take, Nat.min_eq_left hk]
  exact this
theorem RdG.drop {w : World} {a : Option Addr} {c : Nat} {gs : List GameZ} (h : RdG w (.slice a gs.length c) gs) (k : Nat) (hk : k ≤ gs.length) : RdG w (.slice (subAddr a c k 3) (gs.length - k) (c - k)) (gs.drop k) := by
  have := Rd.drop h k hk
  rw [flatG_drop] at this
  unfold RdG
  rw [List.length_drop]
  exact this
theorem RdI.take {w : World} {a : Option Addr} {c : Nat} {zs : List Int} (h : RdI w (.slice a zs.length c) zs) (k : Nat) (hk : k ≤ zs.length) : RdI w (.slice a k c) (zs.take k) := by
  have := Rd.take h k hk
  unfold RdI
  rw [List.length_take, Nat.min_eq_left hk]
  rw [Nat.mul_one] at this
  unfold ints at *
  rw [List.map_take]
  exact this

theorem elemI : Try.prog.underlying 28 = some (.slice (Try.prog.elem 28)) := by kernel_rfl
theorem elemG : Try.prog.underlying 29 = some (.slice (Try.prog.elem 29)) := by kernel_rfl
theorem sizeI (w : World) : (sizeOf (Try.prog.elem 28)).run Try.prog w = .ok 1 w := by kernel_rfl
theorem sizeG (w : World) : (sizeOf (Try.prog.elem 29)).run Try.prog w = .ok 3 w := by kernel_rfl

theorem own_form2 {w : World} {base : Nat} {e : TypeId} {size : Nat} {v : Value} {n : Nat} {xs : List Value} (h : w.ownsRow base e size v n xs) : ∃ a c, v = .slice a n c := by
  rcases h.2 with ⟨h, h0⟩ | ⟨g, c, _, h, _⟩
  · exact ⟨none, 0, by rw [h, h0]⟩
  · exact ⟨_, c, h⟩
theorem minN (a : Nat) (b : Int) (hb : 0 ≤ b) : ∃ m : Nat, (if b < (a : Int) then b else (a : Int)) = (m : Int) ∧ m ≤ a ∧ (m : Int) ≤ b := by
  by_cases h : b < a
  · exact ⟨b.toNat, by rw [if_pos (by omega)]; omega, by omega, by omega⟩
  · exact ⟨a, by rw [if_neg (by omega)], by omega, by omega⟩

set_option maxHeartbeats 1000000 in
theorem walk (v vg : Value) (f n : Int) (w : World) (zs0 : List Int) (gs0 : List GameZ) (h : RdI w v zs0) (hg : RdG w vg gs0) :
    Calls Try.prog 4 #[v, vg, .int .i64 f, .int .i64 n] w fun e w' => e = .returned (.bool true) ∧ Below w.heap.size w w' := by
  obtain ⟨a, c, rfl, h1, h2⟩ := h.form
  obtain ⟨ga, gc, rfl, g1, g2, _⟩ := hg.form
  unfold maxLen at h2 g2
  obtain ⟨L, hL, l1, l2⟩ := minN zs0.length 64 (by omega)
  obtain ⟨G, hG, m1, m2⟩ := minN gs0.length 60 (by omega)
  obtain ⟨k, hk, k1⟩ : ∃ k : Nat, (if 0 < (if (G : Int) < n then (G : Int) else n) then (if (G : Int) < n then (G : Int) else n) else 0) = (k : Int) ∧ k ≤ G := by
    by_cases hn : (G : Int) < n
    · rw [if_pos hn]
      by_cases h0 : 0 < (G : Int)
      · exact ⟨G, by rw [if_pos h0], by omega⟩
      · exact ⟨0, by rw [if_neg h0]; rfl, by omega⟩
    · rw [if_neg hn]
      by_cases h0 : 0 < n
      · exact ⟨n.toNat, by rw [if_pos h0]; omega, by omega⟩
      · exact ⟨0, by rw [if_neg h0]; rfl, by omega⟩
  obtain ⟨q, hq⟩ : ∃ q, (if (G : Int) < n then (G : Int) else n) = q := ⟨_, rfl⟩
  rw [hq] at hk
  have HI := Lib.hid (RdI.take h L l1)
  have HG := Lib.hid (RdG.take hg G m1)
  clear h hg
  have t1 := fun w => run_takeAt elemI sizeI a zs0.length c L (by omega) w
  have t2 := fun w => run_takeAt elemG sizeG ga gs0.length gc G (by omega) w
  have lz : (zs0.take L).length = L := by rw [List.length_take]; omega
  have lg : (gs0.take G).length = G := by rw [List.length_take]; omega
  have HLZ := Lib.hid lz
  have HLG := Lib.hid lg
  clear lz lg
  generalize zs0.take L = zs at *
  generalize gs0.take G = gs at *
  go_enter Try.func4, Try.ntmps4
  go_wp2_with fail
  refine (rates_any _).mono ?_
  rintro e w' ⟨rfl, rfl⟩
  go_wp2_with fail
  go_region
  clear t1 t2 hL hG
  go_wp2_with fail
  have hkc : k ≤ gc := by omega
  have t3 := fun w => run_takeAt elemG sizeG ga G gc k hkc w
  have t4 := fun w => run_dropAt elemG sizeG ga G gc k k1 w
  have HI0 : Hid (RdI w.drew (.slice a L c) zs) := HI
  have HG0 : Hid (RdG w.drew (.slice ga G gc) gs) := HG
  have hb0 : Below w.heap.size w w.drew := (Below.refl _ w).drew
  have HPB := Lib.hid (parts_bad zs gs f k (by rw [HLG.out]; omega))
  have HPO := Lib.hid (parts_ok zs gs f k (by rw [HLG.out]; omega))
  clear HI HG hq
  generalize w.drew = W0 at *
  refine (All_any _ _ zs gs f _ HI0.out HG0.out).mono ?_
  rintro e w1 ⟨va, rfl, hown1, hb1⟩
  obtain ⟨aa, ca, hva⟩ := own_form2 hown1
  have HO1 := Lib.hid hown1
  have HI1 := Lib.hid (HI0.out.below hb1 (Nat.le_refl _))
  have HG1 := Lib.hid (RdG.below HG0.out hb1 (Nat.le_refl _))
  have HT1 : Hid (RdG w1 (.slice ga k gc) (gs.take k)) := Lib.hid (RdG.take (by rw [HLG.out]; exact HG1.out) k (by rw [HLG.out]; omega))
  have HD1 : Hid (RdG w1 (.slice (subAddr ga gc k 3) (G - k) (gc - k)) (gs.drop k)) := Lib.hid (by have := RdG.drop (by rw [HLG.out]; exact HG1.out) k (by rw [HLG.out]; omega); rw [HLG.out] at this; exact this)
  have hb01 := hb0.trans (hb1.mono hb0.size)
  clear hown1 hb1 hb0 HG0 HI0
  have HVA := Lib.hid hva
  clear hva
  generalize hr1 : allR zs gs f = r1 at *
  clear hr1
  obtain ⟨l1, e1⟩ := r1
  simp only at *
  go_wp2_with fail
  refine (All_any _ _ zs (gs.take k) f _ HI1.out HT1.out).mono ?_
  rintro e w2 ⟨vb, rfl, hown2, hb2⟩
  have HO1' := Lib.hid (own_stays HO1.out hb2)
  have HO2 := Lib.hid hown2
  have HD2 := Lib.hid (RdG.below HD1.out hb2 (Nat.le_refl _))
  have hb02 := hb01.trans (hb2.mono hb01.size)
  clear hown2 hb2 hb01 HO1 HD1 HT1 HG1 HI1
  generalize hr2 : allR zs (gs.take k) f = r2 at *
  clear hr2
  obtain ⟨l2, e2⟩ := r2
  simp only at *
  have hva := HVA.out
  subst hva
  by_cases he2 : e2 = 0
  · subst he2
    have HE := Lib.hid (HPO.out rfl)
    clear HPO HPB
    go_wp2_with fail
    refine (All_any _ _ l2 (gs.drop k) f _ (RdI.of_own HO2.out) HD2.out).mono ?_
    rintro e w3 ⟨vc, rfl, hown3, hb3⟩
    rw [← HE.out] at hown3
    rw [← HE.out]
    simp only at hown3
    obtain ⟨ac, cc, rfl⟩ := own_form2 hown3
    have HO1c := Lib.hid (own_stays HO1'.out hb3)
    have HO3 := Lib.hid hown3
    have hb03 := hb02.trans (hb3.mono hb02.size)
    clear hown3 hb3 hb02 HO1' HO2 HD2
    have hl1 : l1.length ≤ 9223372036854775807 := by
      have := HO1c.out.2
      rcases this with ⟨_, h⟩ | ⟨_, cap, _, _, _, _, h, h', _⟩
      · omega
      · unfold maxLen at h'; omega
    have hne : (((l1.length : Int)) != (l1.length : Int)) = false := by simp
    go_wp2_with fail
    go_loopw [75] (fun i wr => ∃ j : Nat, j ≤ l1.length ∧ i = .int .i64 j ∧ Hid (wr.ownsRow W0.heap.size 3 1 (.slice aa l1.length ca) l1.length (ints l1)) ∧ Hid (wr.ownsRow w2.heap.size 3 1 (.slice ac l1.length cc) l1.length (ints l1)) ∧ Below w.heap.size w wr) (fun i _ => l1.length - (intOf i).toNat)
    case atStart => exact ⟨0, Nat.zero_le _, rfl, HO1c, HO3, hb03⟩
    case round =>
      obtain ⟨j, hj, rfl, HA, HC, hbl⟩ := hrel
      by_cases hlt : j < l1.length
      · obtain ⟨g1', c1', q1⟩ := own_some HA.out (by omega)
        obtain ⟨g2', c2', q2⟩ := own_some HC.out (by omega)
        simp only [Value.slice.injEq, true_and] at q1 q2
        obtain ⟨rfl, rfl⟩ := q1
        obtain ⟨rfl, rfl⟩ := q2
        have x1 : wr.cell? ⟨g1', j, none⟩ = some (.int .i64 (l1.getD j 0)) := (HA.out.cellAt j (by omega)).trans (ints_get _ j hlt)
        have x2 : wr.cell? ⟨g2', j, none⟩ = some (.int .i64 (l1.getD j 0)) := (HC.out.cellAt j (by omega)).trans (ints_get _ j hlt)
        have q3 : 0 ≤ (j : Int) := by omega
        have q4 : (j : Int) < (l1.length : Int) := by omega
        generalize l1.getD j 0 = z at *
        have q5 : (z != z) = false := by simp
        go_wp2_with fail
        go_quiet (fail)
        have HA' : Hid ((wr.drewN nq).ownsRow W0.heap.size 3 1 (.slice (some ⟨g1', 0, none⟩) l1.length ca) l1.length (ints l1)) := HA
        have HC' : Hid ((wr.drewN nq).ownsRow w2.heap.size 3 1 (.slice (some ⟨g2', 0, none⟩) l1.length cc) l1.length (ints l1)) := HC
        have hbl' := below_drewN hbl nq
        clear x1 x2 HA HC hbl
        generalize wr.drewN nq = W at *
        go_wp2_with fail
        go_roundw
        case rel => exact ⟨j + 1, by omega, by go_num, HA', HC', hbl'⟩
        case measure => simp [intOf]; omega
      · obtain rfl : j = l1.length := by omega
        go_wp2_with fail
        go_ret
        exact ⟨by simp, hbl⟩
  · obtain ⟨p1, p2⟩ := HPB.out he2
    have he : (e2 != 0) = true := by simpa using he2
    subst p1 p2
    clear HPO HPB he2
    go_wp2_with fail
    go_ret
    exact ⟨by simp, hb02⟩

section
theorem own : ownKnob Try.prog.godebug = none := by kernel_rfl
theorem laidOut : laidOutB Try.prog = true := by kernel_rfl

set_option maxRecDepth 100000 in
theorem lifted (os : Os) (started : os.Started) (H : Type) (enc : TypeId × Value → H) :
    ReturnsInHanded {} Try.checked os 4 .any (Rows.ratingPartsSpec.pre6 enc Try.prog Try.f4 Rows.ratingPartsRow.domain false) (Rows.ratingPartsSpec.post enc Try.prog Try.f4 false true false false) := by
  refine returnsInHanded_of_change (C := Try.checked) own started (by kernel_rfl) Try.func4
    (ChangeSpec.witness6 (enc := enc) (C := Try.checked) false ⟨#[], #[.slice none 0 0, .slice none 0 0, .int .i64 0, .int .i64 0], []⟩ 8 (by kernel_rfl) (by kernel_rfl) (by kernel_rfl) (by kernel_rfl)) ?_
  intro W base args ds gs before hval0 hW hcnd _
  have hval : ∀ (j : Nat) t v, Try.f4.params[j]? = some t → args[j]? = some v → Value.okWide Try.prog W .any base t v := hval0
  have hW' := hW
  obtain ⟨p, q, hA0, hV, rfl, hfz, hnd⟩ := hW
  have hA : DataW.TrodAll enc Try.prog W 0 (fun _ => true) true Try.f4.params.toList args.toList ds p := hA0
  rw [Try.params4] at hA hval
  have hAll := hA
  obtain ⟨v0, vs0, d0, ds0, p0, q0, hargs, rfl, rfl, h0, r0⟩ := trodAll_cons hA
  obtain ⟨v1, vs1, d1, ds1, p1, q1, rfl, rfl, rfl, h1, r1⟩ := trodAll_cons r0
  obtain ⟨v2, vs2, d2, ds2, p2, q2, rfl, rfl, rfl, h2, r2⟩ := trodAll_cons r1
  obtain ⟨v3, vs3, d3, ds3, p3, q3, rfl, rfl, rfl, h3, r3⟩ := trodAll_cons r2
  obtain ⟨rfl, rfl, rfl⟩ := trodAll_nil r3
  obtain rfl : args = #[v0, v1, v2, v3] := by cases args; simp_all
  obtain ⟨rfl, rfl⟩ := trodVars_none hV
  obtain ⟨zs, hz, _⟩ := open_RdI Try.underlying28 Try.underlying3 (by kernel_rfl) (hval 0 28 v0 rfl rfl) h0
  obtain ⟨gs, hgs⟩ := open_RdG (ti := 3) Try.underlying29 Try.underlying39 (by kernel_rfl) rfl (by kernel_rfl) (by decide +kernel) Try.underlying3 (hval 1 29 v1 rfl rfl) h1
  obtain ⟨a2, rfl, rfl, rfl, w2⟩ := open_int Try.underlying3 (hval 2 3 v2 rfl rfl) h2
  obtain ⟨a3, rfl, rfl, rfl, w3⟩ := open_int Try.underlying3 (hval 3 3 v3 rfl rfl) h3
  clear hA0 hval0
  refine (walk v0 v1 a2 a3 W zs gs hz hgs).mono fun e W' ⟨he, bel⟩ => ?_
  subst he
  exact ⟨_, rfl, _, _, _, [], _, [], hW', trodAll_mk1 (shut_bool Try.underlying4 _), trodAll_stays laidOut bel (by kernel_rfl) hAll, rfl, bel.frame _, fun h => by cases h⟩

theorem over : Rows.ratingPartsRow.holds Try.pinned (OpenSpec.ofChange Rows.ratingPartsSpec) :=
  OpenClaim.holds_of_wide 4 Try.f4 rfl rfl rfl rfl rfl rfl rfl ⟨rfl, rfl, rfl, rfl, rfl⟩ rfl rfl rfl rfl rfl (by kernel_rfl) Try.func4 (by kernel_rfl)
    (of_decide_eq_true (by kernel_rfl)) (by unfold Func.isWrapper; first | (rw [if_pos (by decide +kernel)]; kernel_rfl) | (rw [if_neg (by decide +kernel)]; exact ⟨rfl, rfl⟩))
    (fun os started H enc _ => lifted os started H enc)

theorem proved : Rows.RatingPartsSaid := over
end
#print axioms proved
end Go.Proofs.Ytgbedogdikflcaa.ratingParts
