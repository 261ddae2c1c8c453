/- PatternOwn: a piece of a position is a pattern that is found where it was. For every input, no condition. -/
import Derived.Test.YthddenadehhbdaaPatCut
import Derived.Test.YthddenadehhbdaaPatP
import Derived.Test.YthddenadehhbdaaOpenR
import Derived.Test.YthddenadehhbdaaOpenP
import Derived.Test.YthddenadehhbdaaFrame
namespace Go.Proofs.Ythddenadehhbdaa.patternOwn
open Go.ChangeShapes Go.WideShapes Go.ChangeAt Go.RowKit
set_option linter.unusedVariables false

theorem flat_get (f : Nat → List Int) (n k : Nat) (hf : ∀ y, y < k → (f y).length = n) : ((List.range k).flatMap f).length = k * n ∧ ∀ i, i < k * n → ((List.range k).flatMap f)[i]? = (f (i / n))[i % n]? := by
  induction k with
  | zero => exact ⟨by simp, fun i h => absurd h (by omega)⟩
  | succ k ih =>
    obtain ⟨h1, h2⟩ := ih fun y hy => hf y (by omega)
    have e : (List.range (k + 1)).flatMap f = (List.range k).flatMap f ++ f k := by rw [List.range_succ, List.flatMap_append]; simp
    have hk := hf k (by omega)
    rw [e]
    refine ⟨by rw [List.length_append, h1, hk, Nat.succ_mul], fun i hi => ?_⟩
    by_cases hlt : i < k * n
    · rw [List.getElem?_append_left (by omega)]; exact h2 i hlt
    · obtain ⟨j, rfl⟩ : ∃ j, i = k * n + j := ⟨i - k * n, by omega⟩
      rw [Nat.succ_mul] at hi
      have hn : 0 < n := by omega
      rw [List.getElem?_append_right (by omega), h1, show k * n + j - k * n = j by omega, show (k * n + j) / n = k by rw [Nat.mul_comm k n, Nat.mul_add_div hn, Nat.div_eq_of_lt (by omega)]; omega, show (k * n + j) % n = j by rw [Nat.mul_comm k n, Nat.mul_add_mod, Nat.mod_eq_of_lt (by omega)]]
theorem cutOk {R : RulesZ} {p : PosZ} {s wd ht : Int} (h : cutErr R p s wd ht = 0) (hp : posErr R p = 0) : 0 ≤ s ∧ s < (p.cells.length : Int) ∧ 1 ≤ wd ∧ 1 ≤ ht ∧ wd ≤ R.width - s % R.width ∧ ht ≤ R.height - s / R.width := by
  unfold cutErr at h
  rw [if_neg (by simp [hp])] at h
  split at h
  · cases h
  · omega
theorem fits_self {c : Int} (h : 0 ≤ c) : fitsZ c c = true := by
  rw [fitsZ_4 c c (by omega) (by omega) (by omega)]; simp
/-- what is cut out of a position is a pattern, and it is where it was. -/
theorem cut_at {R : RulesZ} {p : PosZ} {s wd ht : Int} (h : cutErr R p s wd ht = 0) (hp : posErr R p = 0) :
    chkErr R ⟨wd, ht, cutRows R p s wd ht.toNat, p.turn⟩ p = 0 ∧ (0 ≤ s ∧ s < (p.cells.length : Int)) ∧ atZ R ⟨wd, ht, cutRows R p s wd ht.toNat, p.turn⟩ p s = true ∧ s ∈ listPZ R ⟨wd, ht, cutRows R p s wd ht.toNat, p.turn⟩ p := by
  obtain ⟨s0, s1, w1, t1, w2, t2⟩ := cutOk h hp
  obtain ⟨hr, pl, _, _, pc, pq⟩ := posOk hp
  obtain ⟨hw, hh, hn⟩ := rulesOk hr
  have hm0 := Int.emod_nonneg s (show R.width ≠ 0 by omega)
  have hq0 : 0 ≤ s / R.width := Int.ediv_nonneg (by omega) (by omega)
  have hrow : ∀ y : Nat, y < ht.toNat → ((p.cells.drop (s + (y : Int) * R.width).toNat).take wd.toNat).length = wd.toNat := by
    intro y hy
    obtain ⟨e1, e2, e3⟩ := cut_room (R := R) (s := s) (k := y) hw hh w2 t2 (by omega)
    rw [← pl] at e3
    rw [List.length_take, List.length_drop]
    omega
  obtain ⟨hl, hg⟩ := flat_get (fun y : Nat => (p.cells.drop (s + (y : Int) * R.width).toNat).take wd.toNat) wd.toNat ht.toNat hrow
  have hl' : (cutRows R p s wd ht.toNat).length = ht.toNat * wd.toNat := hl
  have hc : ∀ i : Nat, i < ht.toNat * wd.toNat → (cutRows R p s wd ht.toNat).getD i 0 = p.cells.getD (s + (i : Int) / wd * R.width + (i : Int) % wd).toNat 0 ∧ (s + (i : Int) / wd * R.width + (i : Int) % wd).toNat < p.cells.length := by
    intro i hi
    have hwn : 0 < wd.toNat := by omega
    have hy : i / wd.toNat < ht.toNat := (Nat.div_lt_iff_lt_mul hwn).2 hi
    have hx : i % wd.toNat < wd.toNat := Nat.mod_lt _ hwn
    obtain ⟨e1, e2, e3⟩ := cut_room (R := R) (s := s) (k := i / wd.toNat) hw hh w2 t2 (by omega)
    rw [← pl] at e3
    have hwe : ((wd.toNat : Nat) : Int) = wd := Int.toNat_of_nonneg (by omega)
    have q1 : (i : Int) / wd = ((i / wd.toNat : Nat) : Int) := by rw [Int.natCast_ediv, hwe]
    have q2 : (i : Int) % wd = ((i % wd.toNat : Nat) : Int) := by rw [Int.natCast_emod, hwe]
    rw [q1, q2]
    have e4 : (cutRows R p s wd ht.toNat)[i]? = ((p.cells.drop (s + ((i / wd.toNat : Nat) : Int) * R.width).toNat).take wd.toNat)[i % wd.toNat]? := hg i hi
    rw [List.getD_eq_getElem?_getD, e4, List.getElem?_take, if_pos hx, List.getElem?_drop, List.getD_eq_getElem?_getD]
    generalize ((i / wd.toNat : Nat) : Int) * R.width = z at *
    rw [show (s + z).toNat + i % wd.toNat = (s + z + ((i % wd.toNat : Nat) : Int)).toNat by omega]
    exact ⟨rfl, by omega⟩
  have hpatE : patErr R ⟨wd, ht, cutRows R p s wd ht.toNat, p.turn⟩ = 0 := by
    unfold patErr
    have hL : ((cutRows R p s wd ht.toNat).length : Int) = wd * ht := by
      rw [hl', Int.natCast_mul, Int.toNat_of_nonneg (by omega), Int.toNat_of_nonneg (by omega), Int.mul_comm]
    have ha : ¬ (cutRows R p s wd ht.toNat).any (fun z => !wb z (-3) (2 * (R.pieces.length : Int))) = true := by
      simp only [List.any_eq_true, not_exists, not_and, Bool.not_eq_true]
      intro c hc'
      obtain ⟨i, hi, rfl⟩ := List.mem_iff_getElem.1 hc'
      rw [hl'] at hi
      obtain ⟨g1, g2⟩ := hc i hi
      have g3 : (cutRows R p s wd ht.toNat)[i]'(by rw [hl']; exact hi) = p.cells[(s + (i : Int) / wd * R.width + (i : Int) % wd).toNat]'g2 := by
        rw [List.getD_eq_getElem?_getD, List.getElem?_eq_getElem (by rw [hl']; exact hi), List.getD_eq_getElem?_getD, List.getElem?_eq_getElem g2] at g1
        simpa using g1
      have g4 := pc _ (List.getElem_mem g2)
      rw [g3, (wb_iff _ _ _).2 (by omega)]; rfl
    rw [if_neg (by simp [hr]), if_neg (by simp only [(wb_iff _ _ _).2 (show 1 ≤ wd ∧ wd ≤ R.width by omega), (wb_iff _ _ _).2 (show 1 ≤ ht ∧ ht ≤ R.height by omega)]; simp), if_neg (by simp only [hL]; simp), if_neg ha, if_neg (by simp only [(wb_iff _ _ _).2 (show -1 ≤ p.turn ∧ p.turn ≤ 1 by omega)]; simp)]
  have hat : atZ R ⟨wd, ht, cutRows R p s wd ht.toNat, p.turn⟩ p s = true := by
    unfold atZ
    rw [if_neg (by show ¬ (R.width < s % R.width + wd ∨ R.height < s / R.width + ht ∨ (0 ≤ p.turn ∧ p.turn ≠ p.turn)); omega), List.all_eq_true]
    intro i hi
    have hi' : i < ht.toNat * wd.toNat := by rw [← hl']; exact List.mem_range.1 hi
    obtain ⟨g1, g2⟩ := hc i hi'
    show fitsZ ((cutRows R p s wd ht.toNat).getD i 0) (p.cells.getD (s + (i : Int) / wd * R.width + (i : Int) % wd).toNat 0) = true
    rw [g1]
    refine fits_self ?_
    rw [List.getD_eq_getElem?_getD, List.getElem?_eq_getElem g2]
    exact (pc _ (List.getElem_mem g2)).1
  refine ⟨by unfold chkErr; rw [if_neg (by simp [hpatE])]; exact hp, ⟨s0, s1⟩, hat, ?_⟩
  unfold listPZ atsTo
  refine List.mem_map.2 ⟨s.toNat, List.mem_filter.2 ⟨List.mem_range.2 (by omega), ?_⟩, by omega⟩
  rw [show ((s.toNat : Nat) : Int) = s by omega]
  exact hat
theorem take_any (L : List Int) (s : Int) (k : Nat) (h : k < L.length) : (L.take (k + 1)).any (· == s) = ((L.take k).any (· == s) || L.getD k 0 == s) := by
  rw [List.take_succ_eq_append_getElem h, List.any_append, List.getD_eq_getElem?_getD, List.getElem?_eq_getElem h]; simp
set_option maxRecDepth 100000 in
theorem great_anyO (R : RulesZ) (vp vs ve : Value) (w : World) (h : RdI w vs R.start) : Calls Try.prog 17 #[(.agg #[.string R.name, .int .i64 R.width, .int .i64 R.height, vp, vs, .bool R.falls, .bool R.keeps, ve, .int .i64 R.blocked, .int .i64 R.quiet, .int .i64 R.rept])] w fun e w' => e = .returned (.bool (decide (20 < (R.start.length : Int)))) ∧ Below w.heap.size w w' := by
  obtain ⟨a, c, rfl, h1, h2⟩ := h.form
  unfold maxLen at h2
  clear h
  go_enter Try.func17, Try.ntmps17
  go_wp2
  go_ret
  exact ⟨rfl, (Below.refl _ _).alloc (Nat.le_refl _) _⟩

set_option maxRecDepth 100000 in
set_option maxHeartbeats 4000000 in
theorem walk (R : RulesZ) (vp vs ve : Value) (p : PosZ) (vc v0 v1 : Value) (s wd ht : Int) (w : World) (h : RdR w R vp vs ve) (hnm : R.name.size ≤ maxLen) (hp : RdP w p vc v0 v1) :
    Calls Try.prog 7 #[(.agg #[.string R.name, .int .i64 R.width, .int .i64 R.height, vp, vs, .bool R.falls, .bool R.keeps, ve, .int .i64 R.blocked, .int .i64 R.quiet, .int .i64 R.rept]), (.agg #[vc, v0, v1, .int .i64 p.turn, .int .i64 p.quiet]), .int .i64 s, .int .i64 wd, .int .i64 ht] w fun e w' => e = .returned (.bool true) ∧ Below w.heap.size w w' := by
  have HR := Lib.hid h
  have HP := Lib.hid hp
  have HN := Lib.hid hnm
  clear h hnm hp
  go_enter Try.func7, Try.ntmps7
  go_upto_region 1 with (fail)
  have B0 : Box ((w.alloc (.cells #[.string R.name, .int .i64 R.width, .int .i64 R.height, vp, vs, .bool R.falls, .bool R.keeps, ve, .int .i64 R.blocked, .int .i64 R.quiet, .int .i64 R.rept] 43)).alloc (.cells #[vc, v0, v1, .int .i64 p.turn, .int .i64 p.quiet] 51)) (w.heap.size) [.string R.name, .int .i64 R.width, .int .i64 R.height, vp, vs, .bool R.falls, .bool R.keeps, ve, .int .i64 R.blocked, .int .i64 R.quiet, .int .i64 R.rept] 43 := ((Box.new' w (w.heap.size) [.string R.name, .int .i64 R.width, .int .i64 R.height, vp, vs, .bool R.falls, .bool R.keeps, ve, .int .i64 R.blocked, .int .i64 R.quiet, .int .i64 R.rept] 43 (by simp <;> omega)).alloc _)
  have B1 : Box ((w.alloc (.cells #[.string R.name, .int .i64 R.width, .int .i64 R.height, vp, vs, .bool R.falls, .bool R.keeps, ve, .int .i64 R.blocked, .int .i64 R.quiet, .int .i64 R.rept] 43)).alloc (.cells #[vc, v0, v1, .int .i64 p.turn, .int .i64 p.quiet] 51)) (w.heap.size + 1) [vc, v0, v1, .int .i64 p.turn, .int .i64 p.quiet] 51 := (Box.new' (w.alloc (.cells #[.string R.name, .int .i64 R.width, .int .i64 R.height, vp, vs, .bool R.falls, .bool R.keeps, ve, .int .i64 R.blocked, .int .i64 R.quiet, .int .i64 R.rept] 43)) (w.heap.size + 1) [vc, v0, v1, .int .i64 p.turn, .int .i64 p.quiet] 51 (by simp <;> omega))
  have HB : Hid (Below w.heap.size w ((w.alloc (.cells #[.string R.name, .int .i64 R.width, .int .i64 R.height, vp, vs, .bool R.falls, .bool R.keeps, ve, .int .i64 R.blocked, .int .i64 R.quiet, .int .i64 R.rept] 43)).alloc (.cells #[vc, v0, v1, .int .i64 p.turn, .int .i64 p.quiet] 51))) := Lib.hid (((Below.refl w.heap.size w).alloc (Nat.le_refl _) _).alloc (by simp <;> omega) _)
  have hz0 : w.heap.size + 1 < ((w.alloc (.cells #[.string R.name, .int .i64 R.width, .int .i64 R.height, vp, vs, .bool R.falls, .bool R.keeps, ve, .int .i64 R.blocked, .int .i64 R.quiet, .int .i64 R.rept] 43)).alloc (.cells #[vc, v0, v1, .int .i64 p.turn, .int .i64 p.quiet] 51)).heap.size := by simp
  generalize ((w.alloc (.cells #[.string R.name, .int .i64 R.width, .int .i64 R.height, vp, vs, .bool R.falls, .bool R.keeps, ve, .int .i64 R.blocked, .int .i64 R.quiet, .int .i64 R.rept] 43)).alloc (.cells #[vc, v0, v1, .int .i64 p.turn, .int .i64 p.quiet] 51)) = w0 at *
  have HB0 := Lib.hid B0
  have HB1 := Lib.hid B1
  clear B0 B1
  go_wp2_with fail
  refine (patterns_any _).mono ?_
  rintro e w1 ⟨rfl, hb1⟩
  have HL1 := Lib.hid (below_trans HB.out hb1 HB.out.size)
  have HC0 := Lib.hid (HB0.out.stays hb1)
  have HC1 := Lib.hid (HB1.out.stays hb1)
  clear hb1 HB0 HB1
  go_upto_region 3 with (fail)
  refine wp_region_lit ?_
  refine wpList_load_box (by rfl) 43 (.tmp 5) (by rfl) (w.heap.size) (by rfl) HC0.out Try.underlying43 (by rfl) (by kernel_rfl) ?_
  go_wp2_with fail
  refine (great_anyO R vp vs ve w1 (HR.out.2.1.below HL1.out (Nat.le_refl _))).mono ?_
  rintro e w2 ⟨rfl, hb2⟩
  have HL2 := Lib.hid (below_trans HL1.out hb2 HL1.out.size)
  have HD0 := Lib.hid (HC0.out.stays hb2)
  have HD1 := Lib.hid (HC1.out.stays hb2)
  clear hb2 HC0 HC1
  by_cases hgt : 20 < (R.start.length : Int)
  · have hg' : decide (20 < (R.start.length : Int)) = true := by simpa using hgt
    clear hgt
    go_wp2_with fail
    go_ret
    exact ⟨rfl, HL2.out⟩
  have hg' : decide (20 < (R.start.length : Int)) = false := by simpa using hgt
  clear hgt
  go_upto_region 5 with (fail)
  refine wp_region_lit ?_
  refine wpList_load_box (by rfl) 43 (.tmp 5) (by rfl) (w.heap.size) (by rfl) HD0.out Try.underlying43 (by rfl) (by kernel_rfl) ?_
  refine wpList_load_box (by rfl) 51 (.tmp 6) (by rfl) (w.heap.size + 1) (by rfl) HD1.out Try.underlying51 (by rfl) (by kernel_rfl) ?_
  clear hg'
  go_wp2_with fail
  refine (Cut_any R vp vs ve p vc v0 v1 s wd ht w2 (HR.out.below HL2.out (Nat.le_refl _)) HN.out (HP.out.below HL2.out (Nat.le_refl _))).mono ?_
  rintro e w3 (⟨hbad, rfl, hb3⟩ | ⟨hok, hpo, vx, rfl, hox, hb3⟩)
  · have h0 : (cutErr R p s wd ht != 0) = true := by simpa using hbad
    have HL3 := Lib.hid (below_trans HL2.out hb3 HL2.out.size)
    clear hbad hb3
    generalize cutErr R p s wd ht = ce at *
    go_wp2_with fail
    go_ret
    exact ⟨rfl, HL3.out.alloc HL3.out.size _⟩
  obtain ⟨hk1, hk2, hk3, hk4⟩ := cut_at hok hpo
  have HL3 := Lib.hid (below_trans HL2.out hb3 HL2.out.size)
  have HX3 := Lib.hid (RdI.of_own hox)
  generalize cutRows R p s wd ht.toNat = xs at *
  obtain ⟨ax, cx, rfl⟩ := own_form2 hox
  have HK1 := Lib.hid hk1
  have HK2 := Lib.hid hk2
  have HK3 := Lib.hid hk3
  have HK4 := Lib.hid hk4
  have HE0 := Lib.hid ((HD0.out.stays hb3).alloc (.cells #[.int .i64 wd, .int .i64 ht, .slice ax xs.length cx, .int .i64 p.turn] 45))
  have HE1 := Lib.hid ((HD1.out.stays hb3).alloc (.cells #[.int .i64 wd, .int .i64 ht, .slice ax xs.length cx, .int .i64 p.turn] 45))
  have HE2 := Lib.hid (Box.new w3 [.int .i64 wd, .int .i64 ht, .slice ax xs.length cx, .int .i64 p.turn] 45)
  have HL4 := Lib.hid (HL3.out.alloc HL3.out.size (.cells #[.int .i64 wd, .int .i64 ht, .slice ax xs.length cx, .int .i64 p.turn] 45))
  have HX4 := Lib.hid (HX3.out.alloc (.cells #[.int .i64 wd, .int .i64 ht, .slice ax xs.length cx, .int .i64 p.turn] 45))
  have hz4 : w3.heap.size < (w3.alloc (.cells #[.int .i64 wd, .int .i64 ht, .slice ax xs.length cx, .int .i64 p.turn] 45)).heap.size := by simp
  clear hok hpo hox hb3 hk1 hk2 hk3 hk4 HD0 HD1 HX3
  go_upto_region 8 with (fail)
  generalize (w3.alloc (.cells #[.int .i64 wd, .int .i64 ht, .slice ax xs.length cx, .int .i64 p.turn] 45)) = w4 at *
  refine wp_region_lit ?_
  refine wpList_load_box (by rfl) 43 (.tmp 5) (by rfl) (w.heap.size) (by rfl) HE0.out Try.underlying43 (by rfl) (by kernel_rfl) ?_
  refine wpList_load_box (by rfl) 45 (.tmp 11) (by rfl) (w3.heap.size) (by rfl) HE2.out Try.underlying45 (by rfl) (by kernel_rfl) ?_
  refine wpList_load_box (by rfl) 51 (.tmp 6) (by rfl) (w.heap.size + 1) (by rfl) HE1.out Try.underlying51 (by rfl) (by kernel_rfl) ?_
  go_wp2_with fail
  refine (At_any R vp vs ve ⟨wd, ht, xs, p.turn⟩ _ p vc v0 v1 s w4 (HR.out.below HL4.out (Nat.le_refl _)) HN.out HX4.out (HP.out.below HL4.out (Nat.le_refl _))).mono ?_
  rintro e w5 ⟨he, hb5⟩
  rw [if_pos ⟨HK1.out, HK2.out⟩, if_neg (by rw [HK1.out]; decide), if_pos HK2.out, HK3.out] at he
  subst he
  have HL5 := Lib.hid (below_trans HL4.out hb5 HL4.out.size)
  have HX5 := Lib.hid (HX4.out.below hb5 (Nat.le_refl _))
  have HF0 := Lib.hid (HE0.out.stays hb5)
  have HF1 := Lib.hid (HE1.out.stays hb5)
  have HF2 := Lib.hid (HE2.out.stays hb5)
  clear hb5 HE0 HE1 HE2 HX4
  go_upto_region 9 with (fail)
  refine wp_region_lit ?_
  refine wpList_load_box (by rfl) 43 (.tmp 5) (by rfl) (w.heap.size) (by rfl) HF0.out Try.underlying43 (by rfl) (by kernel_rfl) ?_
  refine wpList_load_box (by rfl) 45 (.tmp 11) (by rfl) (w3.heap.size) (by rfl) HF2.out Try.underlying45 (by rfl) (by kernel_rfl) ?_
  refine wpList_load_box (by rfl) 51 (.tmp 6) (by rfl) (w.heap.size + 1) (by rfl) HF1.out Try.underlying51 (by rfl) (by kernel_rfl) ?_
  go_wp2_with fail
  refine (PAll_any R vp vs ve ⟨wd, ht, xs, p.turn⟩ _ p vc v0 v1 w5 (HR.out.below HL5.out (Nat.le_refl _)) HN.out HX5.out (HP.out.below HL5.out (Nat.le_refl _))).mono ?_
  rintro e w6 (⟨hbad, -⟩ | ⟨-, vl, rfl, hol, hb6⟩)
  · exact absurd HK1.out hbad
  have HL6 := Lib.hid (below_trans HL5.out hb6 HL5.out.size)
  have HO := Lib.hid (RdI.of_own hol)
  obtain ⟨L, hL⟩ : ∃ L, listPZ R ⟨wd, ht, xs, p.turn⟩ p = L := ⟨_, rfl⟩
  have HM : Hid (s ∈ L) := Lib.hid (by rw [← hL]; exact HK4.out)
  rw [hL] at HO hol
  obtain ⟨al, cl, rfl⟩ := own_form2 hol
  have hln := HO.out.form
  obtain ⟨_, _, _, hl1, hl2⟩ := hln
  unfold maxLen at hl2
  clear hb6 hol hL HF0 HF1 HF2 HX5 HK1 HK2 HK3 HK4
  go_wp2_with fail
  go_loopw [17, 56] (fun f i wr => ∃ k : Nat, k ≤ L.length ∧ f = .bool ((L.take k).any (· == s)) ∧ i = .int .i64 k ∧ Hid (Below w6.heap.size w6 wr)) (fun _ i _ => L.length - (intOf i).toNat)
  case atStart => exact ⟨0, Nat.zero_le _, by simp, rfl, Lib.hid (Below.refl _ _)⟩
  case round =>
    obtain ⟨k, hk, rfl, rfl, HBr⟩ := hrel
    by_cases hlt : k < L.length
    · have HT := Lib.hid (take_any L s k hlt)
      obtain ⟨gx, ox, c1, e1, _, _, _, cx1⟩ := (HO.out.below HBr.out (Nat.le_refl _)).some (by omega)
      simp only [Value.slice.injEq] at e1
      obtain ⟨rfl, _, rfl⟩ := e1
      have k1 := cx1 k hlt
      clear cx1
      generalize L.getD k 0 = y at *
      obtain ⟨b, hb⟩ : ∃ b, (L.take k).any (· == s) = b := ⟨_, rfl⟩
      rw [hb] at HT
      rw [hb]
      have HT := Lib.hid HT.out
      clear hb
      cases b
      · have HT2 : Hid ((L.take (k + 1)).any (· == s) = (y == s)) := Lib.hid (by rw [HT.out, Bool.false_or])
        clear HT
        go_wp2_with fail
        exact ⟨⟨k + 1, by omega, by rw [HT2.out], by go_num, HBr⟩, by simp [intOf]; omega⟩
      · have HT2 : Hid ((L.take (k + 1)).any (· == s) = true) := Lib.hid (by rw [HT.out, Bool.true_or])
        clear HT
        go_wp2_with fail
        exact ⟨⟨k + 1, by omega, by rw [HT2.out], by go_num, HBr⟩, by simp [intOf]; omega⟩
    · obtain rfl : k = L.length := by omega
      have hall : (L.take L.length).any (· == s) = true := by rw [List.take_length, List.any_eq_true]; exact ⟨s, HM.out, by simp⟩
      rw [hall]
      clear hall
      go_wp2_with fail
      go_ret
      exact ⟨rfl, below_trans HL6.out HBr.out HL6.out.size⟩

section
theorem own : ownKnob Try.prog.godebug = none := by kernel_rfl
theorem laidOut : laidOutB Try.prog = true := by kernel_rfl

set_option maxRecDepth 100000 in
theorem lifted (os : Os) (started : os.Started) (H : Type) (enc : TypeId × Value → H) :
    ReturnsInHanded {} Try.checked os 7 .any (Rows.patternOwnSpec.pre6 enc Try.prog Try.f7 Rows.patternOwnRow.domain false) (Rows.patternOwnSpec.post enc Try.prog Try.f7 false true false false) := by
  refine returnsInHanded_of_change (C := Try.checked) own started (by kernel_rfl) Try.func7
    (ChangeSpec.witness6 (enc := enc) (C := Try.checked) false ⟨#[], #[.agg #[.string ByteArray.empty, .int .i64 0, .int .i64 0, .slice none 0 0, .slice none 0 0, .bool false, .bool false, .slice none 0 0, .int .i64 0, .int .i64 0, .int .i64 0], .agg #[.slice none 0 0, .slice none 0 0, .slice none 0 0, .int .i64 0, .int .i64 0], .int .i64 0, .int .i64 0, .int .i64 0], []⟩ 8 (by kernel_rfl) (by kernel_rfl) (by kernel_rfl) (by kernel_rfl)) ?_
  intro W base args ds gs before hval0 hW hcnd _
  have hval : ∀ (j : Nat) t v, Try.f7.params[j]? = some t → args[j]? = some v → Value.okWide Try.prog W .any base t v := hval0
  have hW' := hW
  obtain ⟨p, q, hA0, hV, rfl, hfz, hnd⟩ := hW
  have hA : DataW.TrodAll enc Try.prog W 0 (fun _ => true) true Try.f7.params.toList args.toList ds p := hA0
  rw [Try.params7] at hA hval
  have hAll := hA
  obtain ⟨v0, vs0, d0, ds0, p0, q0, hargs, rfl, rfl, h0, r0⟩ := trodAll_cons hA
  obtain ⟨v1, vs1, d1, ds1, p1, q1, rfl, rfl, rfl, h1, r1⟩ := trodAll_cons r0
  obtain ⟨v2, vs2, d2, ds2, p2, q2, rfl, rfl, rfl, h2, r2⟩ := trodAll_cons r1
  obtain ⟨v3, vs3, d3, ds3, p3, q3, rfl, rfl, rfl, h3, r3⟩ := trodAll_cons r2
  obtain ⟨v4, vs4, d4, ds4, p4, q4, rfl, rfl, rfl, h4, r4⟩ := trodAll_cons r3
  obtain ⟨rfl, rfl, rfl⟩ := trodAll_nil r4
  obtain rfl : args = #[v0, v1, v2, v3, v4] := by cases args; simp_all
  obtain ⟨rfl, rfl⟩ := trodVars_none hV
  obtain ⟨R, vp, vs, ve, rfl, hr, hn⟩ := open_R (hval 0 43 v0 rfl rfl) h0
  obtain ⟨p, vc, u0, u1, rfl, hp⟩ := open_P (hval 1 51 v1 rfl rfl) h1
  obtain ⟨a2, rfl, rfl, rfl, w2⟩ := open_int Try.underlying3 (hval 2 3 v2 rfl rfl) h2
  obtain ⟨a3, rfl, rfl, rfl, w3⟩ := open_int Try.underlying3 (hval 3 3 v3 rfl rfl) h3
  obtain ⟨a4, rfl, rfl, rfl, w4⟩ := open_int Try.underlying3 (hval 4 3 v4 rfl rfl) h4
  clear hA0 hval0
  refine (walk R vp vs ve p vc u0 u1 a2 a3 a4 W hr hn hp).mono fun e W' ⟨he, bel⟩ => ?_
  subst he
  exact ⟨_, rfl, _, _, _, [], _, [], hW', trodAll_mk1 (shut_bool Try.underlying4 _), trodAll_stays laidOut bel (by kernel_rfl) hAll, rfl, bel.frame _, fun h => by cases h⟩

theorem over : Rows.patternOwnRow.holds Try.pinned (OpenSpec.ofChange Rows.patternOwnSpec) :=
  OpenClaim.holds_of_wide 7 Try.f7 rfl rfl rfl rfl rfl rfl rfl ⟨rfl, rfl, rfl, rfl, rfl⟩ rfl rfl rfl rfl rfl (by kernel_rfl) Try.func7 (by kernel_rfl)
    (of_decide_eq_true (by kernel_rfl)) (by unfold Func.isWrapper; first | (rw [if_pos (by decide +kernel)]; kernel_rfl) | (rw [if_neg (by decide +kernel)]; exact ⟨rfl, rfl⟩))
    (fun os started H enc _ => lifted os started H enc)

theorem proved : Rows.PatternOwnSaid := over
end
#print axioms proved

end Go.Proofs.Ythddenadehhbdaa.patternOwn
