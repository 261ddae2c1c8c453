/- BookTwice: the walk. -/
import Derived.Test.YtkfaibdflbdpgaaBq3
import Derived.Test.YtkfaibdflbdpgaaFrame
namespace Go.Proofs.Ytkfaibdflbdpgaa.bookTwice
open Go.ChangeShapes Go.WideShapes Go.ChangeAt Go.RowKit
set_option linter.unusedVariables false

theorem add_ok {R : RulesZ} {b : List BkZ} {l : List MoveZ} {plies wt : Int} (h : addErr R b l plies wt = 0) : bookErr b = 0 ∧ runErr R l = 0 ∧ (0 ≤ plies ∧ 1 ≤ wt ∧ wt ≤ 1000000) := by
  unfold addErr at h
  by_cases e1 : bookErr b = 0
  · rw [if_neg (fun q => q e1)] at h
    by_cases e2 : runErr R l = 0
    · rw [if_neg (fun q => q e2)] at h
      by_cases e3 : plies < 0 ∨ wt < 1 ∨ 1000000 < wt
      · rw [if_pos e3] at h; cases h
      · exact ⟨e1, e2, by omega, by omega, by omega⟩
    · rw [if_pos e2] at h; exact absurd h e2
  · rw [if_pos e1] at h; exact absurd h e1
theorem ply_len (plies : Int) (n : Nat) : plyN plies n ≤ n := by unfold plyN; omega
theorem added_len (R : RulesZ) (b : List BkZ) (l : List MoveZ) (plies wt : Int) : (addedB R b l plies wt).length ≤ b.length + l.length := by
  unfold addedB
  have h1 := (foldB_len b (gameB R l wt (plyN plies l.length))).2
  have h2 := ply_len plies l.length
  rw [gameB_len] at h1
  omega
theorem added_book {R : RulesZ} {l : List MoveZ} {plies wt : Int} (h : addErr R [] l plies wt = 0) (hl : l.length ≤ 40) : bookErr (addedB R [] l plies wt) = 0 := by
  have h3 := (add_ok h).2.2
  have hlen := added_len R [] l plies wt
  refine bookErr_of (by simp at hlen; omega) (foldB_sorted List.Pairwise.nil _) (foldB_wt (fun x hx => by cases hx) (fun y hy => by rw [gameB_wt R l wt _ y hy]; omega))
theorem twice_err {R : RulesZ} {l : List MoveZ} {plies wt : Int} (h : addErr R [] l plies wt = 0) (hl : l.length ≤ 40) : addErr R (addedB R [] l plies wt) l plies wt = 0 := by
  have hb := added_book h hl
  obtain ⟨-, h2, h3⟩ := add_ok h
  have h4 := added_len R [] l plies wt
  have h5 := added_len R (addedB R [] l plies wt) l plies wt
  unfold addErr
  rw [if_neg (fun q => q hb), if_neg (fun q => q h2), if_neg (by omega), if_neg]
  unfold addedB at h5
  simp only [addedB] at h4 h5 ⊢
  simp at h4
  omega
theorem twice_merge {R : RulesZ} {l : List MoveZ} {plies wt : Int} (h : addErr R [] l plies wt = 0) (hl : l.length ≤ 40) : mergeErr (addedB R [] l plies wt) (addedB R [] l plies wt) = 0 := by
  have hb := added_book h hl
  have h4 := added_len R [] l plies wt
  have h5 := (foldB_len (addedB R [] l plies wt) (addedB R [] l plies wt)).2
  unfold mergeErr
  simp at h4
  rw [if_neg (fun q => q hb), if_neg (fun q => q hb), if_neg (by omega)]
theorem twice_same {R : RulesZ} {l : List MoveZ} {plies wt : Int} (h : addErr R [] l plies wt = 0) : addedB R (addedB R [] l plies wt) l plies wt = foldB (addedB R [] l plies wt) (addedB R [] l plies wt) := by
  obtain ⟨-, -, h3⟩ := add_ok h
  unfold addedB
  exact fold_twice h3.2.1 h3.2.2 (gameB_wt R l wt _)
set_option maxRecDepth 100000 in
set_option maxHeartbeats 8000000 in
theorem walk (HS : SortMvSaid) (R : RulesZ) (vp vs ve : Value) (v : Value) (l0 : List MoveZ) (plies wt : Int) (w : World) (hr : RdR w R vp vs ve) (hnm : R.name.size ≤ maxLen) (h : RdL moveEl w v l0) :
    Calls Try.prog 11 #[(.agg #[.string R.name, .int .i64 R.width, .int .i64 R.height, vp, vs, .bool R.falls, .bool R.keeps, ve, .int .i64 R.blocked, .int .i64 R.quiet, .int .i64 R.rept]), v, .int .i64 plies, .int .i64 wt] w fun e w' => e = .returned (.bool true) ∧ Below w.heap.size w w' := by
  have HSh := Lib.hid HS
  have HR := Lib.hid hr
  have HN := Lib.hid hnm
  have HL := Lib.hid h
  clear h HS hr hnm
  go_enter Try.func11, Try.ntmps11
  go_upto_region 1 with (fail)
  have B0 : Box (w.alloc (.cells #[.string R.name, .int .i64 R.width, .int .i64 R.height, vp, vs, .bool R.falls, .bool R.keeps, ve, .int .i64 R.blocked, .int .i64 R.quiet, .int .i64 R.rept] 26)) (w.heap.size) [.string R.name, .int .i64 R.width, .int .i64 R.height, vp, vs, .bool R.falls, .bool R.keeps, ve, .int .i64 R.blocked, .int .i64 R.quiet, .int .i64 R.rept] 26 := (Box.new' w (w.heap.size) [.string R.name, .int .i64 R.width, .int .i64 R.height, vp, vs, .bool R.falls, .bool R.keeps, ve, .int .i64 R.blocked, .int .i64 R.quiet, .int .i64 R.rept] 26 (by simp <;> omega))
  have HB : Hid (Below w.heap.size w (w.alloc (.cells #[.string R.name, .int .i64 R.width, .int .i64 R.height, vp, vs, .bool R.falls, .bool R.keeps, ve, .int .i64 R.blocked, .int .i64 R.quiet, .int .i64 R.rept] 26))) := Lib.hid ((Below.refl w.heap.size w).alloc (Nat.le_refl _) _)
  have hz0 : w.heap.size < (w.alloc (.cells #[.string R.name, .int .i64 R.width, .int .i64 R.height, vp, vs, .bool R.falls, .bool R.keeps, ve, .int .i64 R.blocked, .int .i64 R.quiet, .int .i64 R.rept] 26)).heap.size := by simp
  generalize (w.alloc (.cells #[.string R.name, .int .i64 R.width, .int .i64 R.height, vp, vs, .bool R.falls, .bool R.keeps, ve, .int .i64 R.blocked, .int .i64 R.quiet, .int .i64 R.rept] 26)) = w0 at *
  have HB0 := Lib.hid B0
  clear B0
  go_wp2_with fail
  refine (books_any HSh.out w0).mono ?_
  rintro e w1 ⟨rfl, hb1⟩
  have HL1 := Lib.hid (below_trans HB.out hb1 HB.out.size)
  have HC0 := Lib.hid (HB0.out.stays hb1)
  clear hb1 HB0
  go_wp2_with fail
  refine (cut_any v l0 w1 (HL.out.below HL1.out (Nat.le_refl _))).mono ?_
  rintro e w2 ⟨rfl, v2, rfl, hl2⟩
  obtain ⟨l, hl⟩ : ∃ l, l = l0.take 40 := ⟨_, rfl⟩
  have hl40 : l.length ≤ 40 := by rw [hl, List.length_take]; omega
  rw [← hl] at hl2
  obtain ⟨a, c, rfl, h1, h2⟩ := hl2.form
  unfold maxLen at h2
  have HM2 := Lib.hid hl2
  clear hl hl2
  go_upto_region 4 with (fail)
  refine wp_region_lit ?_
  refine wpList_load_box (by rfl) 26 (.tmp 4) (by rfl) (w.heap.size) (by rfl) HC0.out Try.underlying26 (by rfl) (by kernel_rfl) ?_
  go_wp2_with fail
  refine (great_anyG R vp vs ve w2 (HR.out.2.1.below HL1.out (Nat.le_refl _))).mono ?_
  rintro e w3 ⟨rfl, hb3⟩
  have HL3 := Lib.hid (below_trans HL1.out hb3 HL1.out.size)
  have HD0 := Lib.hid (HC0.out.stays hb3)
  have HM3 := Lib.hid (HM2.out.below hb3 (Nat.le_refl _))
  clear hb3 HC0 HM2 HL1
  by_cases hgr : 20 < (R.start.length : Int)
  · have hd : decide (20 < (R.start.length : Int)) = true := by simpa using hgr
    rw [hd]
    clear hgr hd
    go_wp2_with fail
    go_ret
    exact ⟨rfl, HL3.out⟩
  have hd : decide (20 < (R.start.length : Int)) = false := by simpa using hgr
  rw [hd]
  clear hgr hd
  go_upto_region 6 with (fail)
  refine wp_region_lit ?_
  refine wpList_load_box (by rfl) 26 (.tmp 4) (by rfl) (w.heap.size) (by rfl) HD0.out Try.underlying26 (by rfl) (by kernel_rfl) ?_
  go_wp2_with fail
  refine (Add_any HSh.out R vp vs ve _ [] _ l plies wt w3 (HR.out.below HL3.out (Nat.le_refl _)) HN.out (RdL.nil _ _) HM3.out).mono ?_
  rintro e w4 (⟨hbad, rfl, hb4⟩ | ⟨hok, va, rfl, hoa, hb4⟩)
  · have HB4 := Lib.hid (below_trans HL3.out hb4 HL3.out.size)
    have he' : (addErr R [] l plies wt != 0) = true := by simpa using hbad
    clear hbad hb4
    go_wp2_with fail
    go_ret
    exact ⟨rfl, HB4.out⟩
  have HOK := Lib.hid hok
  have HL4 := Lib.hid (below_trans HL3.out hb4 HL3.out.size)
  have HM4 := Lib.hid (HM3.out.below hb4 (Nat.le_refl _))
  have HE0 := Lib.hid (HD0.out.stays hb4)
  have HA4 := Lib.hid (rdK_of_own hoa)
  obtain ⟨aa, ca, rfl⟩ := own_form2 hoa
  have HTE := Lib.hid (twice_err hok hl40)
  have HTM := Lib.hid (twice_merge hok hl40)
  have HTS := Lib.hid (twice_same hok)
  have hAl : (addedB R [] l plies wt).length ≤ 40 := by have := added_len R [] l plies wt; simp at this; omega
  have HAA := Lib.hid (added_len R (addedB R [] l plies wt) l plies wt)
  clear hok hb4 hoa HD0 HM3 HL3
  obtain ⟨A, hA⟩ : ∃ A, addedB R [] l plies wt = A := ⟨_, rfl⟩
  rw [hA] at HA4 HTE HTM HTS hAl HAA ⊢
  clear hA
  go_upto_region 9 with (fail)
  refine wp_region_lit ?_
  refine wpList_load_box (by rfl) 26 (.tmp 4) (by rfl) (w.heap.size) (by rfl) HE0.out Try.underlying26 (by rfl) (by kernel_rfl) ?_
  go_wp2_with fail
  refine (Add_any HSh.out R vp vs ve _ A _ l plies wt w4 (HR.out.below HL4.out (Nat.le_refl _)) HN.out HA4.out HM4.out).mono ?_
  rintro e w5 (⟨hbad, -⟩ | ⟨-, vb, rfl, hob, hb5⟩)
  · exact absurd HTE.out hbad
  have HL5 := Lib.hid (below_trans HL4.out hb5 HL4.out.size)
  have HA5 := Lib.hid (HA4.out.below hb5 (Nat.le_refl _))
  rw [HTS.out] at hob HAA
  have HB5 := Lib.hid (rdK_of_own hob)
  obtain ⟨ab, cb, rfl⟩ := own_form2 hob
  clear hob hb5 HE0 HA4 HM4 HL4
  go_wp2_with fail
  refine (merge_any _ _ A A _ HA5.out HA5.out).mono ?_
  rintro e w6 (⟨hbad, -⟩ | ⟨-, vc, rfl, hoc, hb6⟩)
  · exact absurd HTM.out hbad
  have HL6 := Lib.hid (below_trans HL5.out hb6 HL5.out.size)
  have HB6 := Lib.hid (HB5.out.below hb6 (Nat.le_refl _))
  have HC6 := Lib.hid (rdK_of_own hoc)
  obtain ⟨ac, cc, rfl⟩ := own_form2 hoc
  clear hoc hb6
  have hfl := HAA.out
  go_wp2_with fail
  refine (sameBook_any _ _ (foldB A A) (foldB A A) w6 HB6.out HC6.out (by omega)).mono ?_
  rintro e w7 ⟨rfl, hb7⟩
  have HL7 := Lib.hid (below_trans HL6.out hb7 HL6.out.size)
  have hdd : decide (foldB A A = foldB A A) = true := by simp
  rw [hdd]
  clear hb7
  go_wp2_with fail
  go_ret
  exact ⟨rfl, HL7.out⟩

end Go.Proofs.Ytkfaibdflbdpgaa.bookTwice
