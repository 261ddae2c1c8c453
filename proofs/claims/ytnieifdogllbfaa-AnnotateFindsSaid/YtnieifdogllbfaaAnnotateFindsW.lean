/- The walk of the law AnnotateFinds. -/
import Derived.Test.YtnieifdogllbfaaQAnA
import Derived.BigQuiet
import Derived.Deep.Cut
import Derived.Deep.QuietTactic
namespace Go.Proofs.Ytnieifdogllbfaa.annotateFinds
open Go.ChangeShapes Go.WideShapes Go.ChangeAt Go.RowKit
set_option linter.unusedVariables false

set_option maxRecDepth 100000 in
set_option maxHeartbeats 8000000 in
theorem walk (HS : SortMvSaid) (R : RulesZ) (vp vs ve : Value) (X : RecZ) (vt vn : Value) (nd : Int) (w : World) (hr : RdR w R vp vs ve) (hnm : R.name.size ≤ maxLen) (hx : RdX w X vt vn) :
    Calls Try.prog 3 #[(.agg #[.string R.name, .int .i64 R.width, .int .i64 R.height, vp, vs, .bool R.falls, .bool R.keeps, ve, .int .i64 R.blocked, .int .i64 R.quiet, .int .i64 R.rept]), recV X vt vn, .int .i64 nd] w fun e w' => e = .returned (.bool true) ∧ Below w.heap.size w w' := by
  have HSh := Lib.hid HS
  have HR := Lib.hid hr
  have HN := Lib.hid hnm
  obtain ⟨na, nc, rfl, hn1, hn2⟩ := hx.2.1.form
  obtain ⟨ta, tc, rfl, ht1, ht2⟩ := hx.1.form
  unfold maxLen at hn2 ht2
  have HX := Lib.hid hx
  clear hx HS hr hnm
  unfold recV
  go_enter Try.func3, Try.ntmps3
  go_upto_region 1 with (fail)
  have B0 : Box ((w.alloc (.cells #[.string R.name, .int .i64 R.width, .int .i64 R.height, vp, vs, .bool R.falls, .bool R.keeps, ve, .int .i64 R.blocked, .int .i64 R.quiet, .int .i64 R.rept] 26)).alloc (.cells #[.slice ta X.tags.length tc, .string X.comment, .slice na X.nodes.length nc, .int .i64 X.result] 30)) (w.heap.size) [.string R.name, .int .i64 R.width, .int .i64 R.height, vp, vs, .bool R.falls, .bool R.keeps, ve, .int .i64 R.blocked, .int .i64 R.quiet, .int .i64 R.rept] 26 := ((Box.new' w (w.heap.size) [.string R.name, .int .i64 R.width, .int .i64 R.height, vp, vs, .bool R.falls, .bool R.keeps, ve, .int .i64 R.blocked, .int .i64 R.quiet, .int .i64 R.rept] 26 (by simp <;> omega)).alloc _)
  have B1 : Box ((w.alloc (.cells #[.string R.name, .int .i64 R.width, .int .i64 R.height, vp, vs, .bool R.falls, .bool R.keeps, ve, .int .i64 R.blocked, .int .i64 R.quiet, .int .i64 R.rept] 26)).alloc (.cells #[.slice ta X.tags.length tc, .string X.comment, .slice na X.nodes.length nc, .int .i64 X.result] 30)) (w.heap.size + 1) [.slice ta X.tags.length tc, .string X.comment, .slice na X.nodes.length nc, .int .i64 X.result] 30 := (Box.new' (w.alloc (.cells #[.string R.name, .int .i64 R.width, .int .i64 R.height, vp, vs, .bool R.falls, .bool R.keeps, ve, .int .i64 R.blocked, .int .i64 R.quiet, .int .i64 R.rept] 26)) (w.heap.size + 1) [.slice ta X.tags.length tc, .string X.comment, .slice na X.nodes.length nc, .int .i64 X.result] 30 (by simp <;> omega))
  have HB : Hid (Below w.heap.size w ((w.alloc (.cells #[.string R.name, .int .i64 R.width, .int .i64 R.height, vp, vs, .bool R.falls, .bool R.keeps, ve, .int .i64 R.blocked, .int .i64 R.quiet, .int .i64 R.rept] 26)).alloc (.cells #[.slice ta X.tags.length tc, .string X.comment, .slice na X.nodes.length nc, .int .i64 X.result] 30))) := Lib.hid (((Below.refl w.heap.size w).alloc (Nat.le_refl _) _).alloc (by simp <;> omega) _)
  have hz0 : w.heap.size + 1 < ((w.alloc (.cells #[.string R.name, .int .i64 R.width, .int .i64 R.height, vp, vs, .bool R.falls, .bool R.keeps, ve, .int .i64 R.blocked, .int .i64 R.quiet, .int .i64 R.rept] 26)).alloc (.cells #[.slice ta X.tags.length tc, .string X.comment, .slice na X.nodes.length nc, .int .i64 X.result] 30)).heap.size := by simp
  generalize ((w.alloc (.cells #[.string R.name, .int .i64 R.width, .int .i64 R.height, vp, vs, .bool R.falls, .bool R.keeps, ve, .int .i64 R.blocked, .int .i64 R.quiet, .int .i64 R.rept] 26)).alloc (.cells #[.slice ta X.tags.length tc, .string X.comment, .slice na X.nodes.length nc, .int .i64 X.result] 30)) = w0 at *
  have HR0 := Lib.hid B0
  have HY0 := Lib.hid B1
  clear B0 B1
  go_wp2_with fail
  refine (annotates_any HSh.out w0).mono ?_
  rintro e w1 ⟨rfl, hb1⟩
  have HB1 := Lib.hid (below_trans HB.out hb1 HB.out.size)
  have HR1 := Lib.hid (HR0.out.stays hb1)
  have HY1 := Lib.hid (HY0.out.stays hb1)
  clear hb1 HR0 HY0 HB hz0
  go_upto_region 3 with (fail)
  refine wp_region_lit ?_
  refine wpList_load_box (by rfl) 30 (.tmp 4) (by rfl) (w.heap.size + 1) (by rfl) HY1.out Try.underlying30 (by rfl) (by kernel_rfl) ?_
  go_wp2_with fail
  have HC := Lib.hid (short_any X (.slice ta X.tags.length tc) (.slice na X.nodes.length nc) w1 (HX.out.below HB1.out (Nat.le_refl _)))
  unfold recV at HC
  refine HC.out.mono ?_
  rintro e w2 ⟨hb2, a, n, c, Y, -, rfl, rfl, hY⟩
  have HB2 := Lib.hid (below_trans HB1.out hb2 HB1.out.size)
  have HR2 := Lib.hid (HR1.out.stays hb2)
  have HY2 := Lib.hid (HY1.out.stays hb2)
  have HY : Hid (RdX w Y (.slice ta X.tags.length tc) (.slice a Y.nodes.length c)) := Lib.hid (hY w HX.out)
  have hz2 := HY2.out.lt
  clear hb2 HR1 HY1 HB1 HC hY
  go_upto_region 4 with (refine wpList_store_box (vs := [.slice ta X.tags.length tc, .string Y.comment, .slice a Y.nodes.length c, .int .i64 Y.result]) (by rfl) 30 (.tmp 4) (.tmp 17) (by rfl) (w.heap.size + 1) (by rfl) (by rfl) HY2.out rfl (by kernel_rfl) (by rfl) ?_)
  have HY3 := Lib.hid (HY2.out.store (vs := [.slice ta X.tags.length tc, .string Y.comment, .slice a Y.nodes.length c, .int .i64 Y.result]) rfl)
  have HR3 := Lib.hid (HR2.out.farAll (b' := w.heap.size + 1) (by omega) 0 [.slice ta X.tags.length tc, .string Y.comment, .slice a Y.nodes.length c, .int .i64 Y.result])
  have HB3 := Lib.hid (below_setCells HB2.out (b := w.heap.size + 1) (by omega) 0 [.slice ta X.tags.length tc, .string Y.comment, .slice a Y.nodes.length c, .int .i64 Y.result])
  generalize w2.setCells (w.heap.size + 1) 0 [.slice ta X.tags.length tc, .string Y.comment, .slice a Y.nodes.length c, .int .i64 Y.result] = w3 at *
  clear HY2 HR2 HB2 hz2
  have hY2 : Y.nodes.length ≤ 9223372036854775807 := by obtain ⟨_, _, e, h1, h2⟩ := HY.out.2.1.form; unfold maxLen at h2; cases e; omega
  have q0 := HR3.out.cell 0 rfl; have q1 := HR3.out.cell 1 rfl; have q2 := HR3.out.cell 2 rfl; have q3 := HR3.out.cell 3 rfl; have q4 := HR3.out.cell 4 rfl; have q5 := HR3.out.cell 5 rfl; have q6 := HR3.out.cell 6 rfl; have q7 := HR3.out.cell 7 rfl; have q8 := HR3.out.cell 8 rfl; have q9 := HR3.out.cell 9 rfl; have q10 := HR3.out.cell 10 rfl
  go_wp2_with fail
  refine (great_anyG R vp vs ve w3 (HR.out.2.1.below HB3.out (Nat.le_refl _))).mono ?_
  rintro e w4 ⟨rfl, hb4⟩
  have HB4 := Lib.hid (below_trans HB3.out hb4 HB3.out.size)
  have HR4 := Lib.hid (HR3.out.stays hb4)
  have HY4 := Lib.hid (HY3.out.stays hb4)
  clear hb4 HR3 HY3 HB3 q0 q1 q2 q3 q4 q5 q6 q7 q8 q9 q10
  generalize decide (20 < (R.start.length : Int)) = gr at *
  cases gr
  rotate_left
  · go_wp2_with fail
    go_ret
    exact ⟨rfl, HB4.out⟩
  have q0 := HR4.out.cell 0 rfl; have q1 := HR4.out.cell 1 rfl; have q2 := HR4.out.cell 2 rfl; have q3 := HR4.out.cell 3 rfl; have q4 := HR4.out.cell 4 rfl; have q5 := HR4.out.cell 5 rfl; have q6 := HR4.out.cell 6 rfl; have q7 := HR4.out.cell 7 rfl; have q8 := HR4.out.cell 8 rfl; have q9 := HR4.out.cell 9 rfl; have q10 := HR4.out.cell 10 rfl; have p0 := HY4.out.cell 0 rfl; have p1 := HY4.out.cell 1 rfl; have p2 := HY4.out.cell 2 rfl; have p3 := HY4.out.cell 3 rfl
  have HK := Lib.hid (recCheck_any HSh.out R vp vs ve Y (.slice ta X.tags.length tc) (.slice a Y.nodes.length c) w4 (HR.out.below HB4.out (Nat.le_refl _)) HN.out (HY.out.below HB4.out (Nat.le_refl _)))
  unfold recV at HK
  go_wp2_with fail
  refine HK.out.mono ?_
  clear HK
  rintro e w5 ⟨rfl, hb5⟩
  have HB5 := Lib.hid (below_trans HB4.out hb5 HB4.out.size)
  have HR5 := Lib.hid (HR4.out.stays hb5)
  have HY5 := Lib.hid (HY4.out.stays hb5)
  clear hb5 HR4 HY4 HB4 q0 q1 q2 q3 q4 q5 q6 q7 q8 q9 q10
  by_cases he : recErr R Y = 0
  rotate_left
  · have heb : (recErr R Y != 0) = true := by simpa using he
    clear he
    go_wp2_with fail
    go_ret
    exact ⟨rfl, HB5.out⟩
  have HE := Lib.hid he
  rw [he]
  clear he
  have p2 := HY5.out.cell 2 rfl
  by_cases hn : nd < 0
  · go_wp2_with fail
    go_ret
    exact ⟨rfl, HB5.out⟩
  obtain ⟨k, rfl⟩ : ∃ k : Nat, nd = (k : Int) := ⟨nd.toNat, by omega⟩
  by_cases hk : (Y.nodes.length : Int) ≤ (k : Int)
  · go_wp2_with fail
    go_ret
    exact ⟨rfl, HB5.out⟩
  have hkl : k < Y.nodes.length := by omega
  go_upto_region 6 with (fail)
  refine wp_region_lit ?_
  refine wpList_load_box (by rfl) 26 (.tmp 3) (by rfl) (w.heap.size) (by rfl) HR5.out Try.underlying26 (by rfl) (by kernel_rfl) ?_
  refine wpList_load_box (by rfl) 30 (.tmp 4) (by rfl) (w.heap.size + 1) (by rfl) HY5.out Try.underlying30 (by rfl) (by kernel_rfl) ?_
  go_wp2_with fail
  clear p2
  have HP := Lib.hid (Path_ok HSh.out R vp vs ve Y (.slice ta X.tags.length tc) (.slice a Y.nodes.length c) k w5 (HR.out.below HB5.out (Nat.le_refl _)) HN.out (HY.out.below HB5.out (Nat.le_refl _)) HE.out hkl)
  unfold recV at HP
  refine HP.out.mono ?_
  clear HP
  rintro e w6 ⟨⟨wa, wc, rfl, hw6⟩, hb6⟩
  have HW6 := Lib.hid hw6
  have HB6 := Lib.hid (below_trans HB5.out hb6 HB5.out.size)
  have HR6 := Lib.hid (HR5.out.stays hb6)
  have HY6 := Lib.hid (HY5.out.stays hb6)
  clear hb6 HR5 HY5 HB5 hw6
  go_upto_region 7 with (fail)
  refine wp_region_lit ?_
  refine wpList_load_box (by rfl) 26 (.tmp 3) (by rfl) (w.heap.size) (by rfl) HR6.out Try.underlying26 (by rfl) (by kernel_rfl) ?_
  refine wpList_load_box (by rfl) 30 (.tmp 4) (by rfl) (w.heap.size + 1) (by rfl) HY6.out Try.underlying30 (by rfl) (by kernel_rfl) ?_
  go_wp2_with fail
  have HF := Lib.hid (Find_ok HSh.out R vp vs ve Y (.slice ta X.tags.length tc) (.slice a Y.nodes.length c) (.slice wa (wayI Y.nodes k).length wc) k w6 (HR.out.below HB6.out (Nat.le_refl _)) HN.out (HY.out.below HB6.out (Nat.le_refl _)) HE.out hkl HW6.out)
  unfold recV at HF
  refine HF.out.mono ?_
  clear HF
  rintro e w7 ⟨rfl, hb7⟩
  have HB7 := Lib.hid (below_trans HB6.out hb7 HB6.out.size)
  have HR7 := Lib.hid (HR6.out.stays hb7)
  have HW7 := Lib.hid (HW6.out.below hb7 (Nat.le_refl _))
  clear hb7 HR6 HY6 HB6 HW6
  go_upto_region 8 with (fail)
  refine wp_region_lit ?_
  refine wpList_load_box (by rfl) 26 (.tmp 3) (by rfl) (w.heap.size) (by rfl) HR7.out Try.underlying26 (by rfl) (by kernel_rfl) ?_
  go_wp2_with fail
  have HQ := Lib.hid (Run_code HSh.out R vp vs ve (.slice wa (wayI Y.nodes k).length wc) (wayI Y.nodes k) w7 (HR.out.below HB7.out (Nat.le_refl _)) HN.out HW7.out)
  rw [(rec_nodes HE.out).2.1.run k hkl] at HQ
  refine HQ.out.mono ?_
  clear HQ
  rintro e w8 ⟨hb8, a1, a2, a3, n1, c1, n2, c2, n3, c3, x, y, rv, rfl⟩
  have HB8 := Lib.hid (below_trans HB7.out hb8 HB7.out.size)
  clear hb8 HR7 HB7 HW7 hkl hk hn
  go_wp2_with fail
  go_ret
  have hbl := HB8.out
  have hsz := hbl.size
  exact ⟨rfl, by go_grown⟩

end Go.Proofs.Ytnieifdogllbfaa.annotateFinds
