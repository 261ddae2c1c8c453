/- AnA, AnB, in one text. -/
import Derived.Test.YtnieifdogllbfaaQRecT
import Derived.Test.YtnieifdogllbfaaTic
import Derived.Test.YtnieifdogllbfaaRaw
import Derived.BigQuiet
import Derived.Deep.Cut
import Derived.Deep.QuietTactic
/- annotate.Path and annotate.Find of a sound record and a node of it; what keep3 lays. -/
namespace Go.Proofs.Ytnieifdogllbfaa
open Go.ChangeShapes Go.WideShapes Go.ChangeAt Go.RowKit
set_option linter.unusedVariables false

set_option maxRecDepth 100000 in
set_option maxHeartbeats 8000000 in
theorem checked_ok (HS : SortMvSaid) (R : RulesZ) (vp vs ve : Value) (X : RecZ) (vt vn : Value) (nd : Nat) (w : World) (hr : RdR w R vp vs ve) (hnm : R.name.size ≤ maxLen) (hx : RdX w X vt vn) (he : recErr R X = 0) (hnd : nd < X.nodes.length) :
    Calls Try.prog 17 #[(.agg #[.string R.name, .int .i64 R.width, .int .i64 R.height, vp, vs, .bool R.falls, .bool R.keeps, ve, .int .i64 R.blocked, .int .i64 R.quiet, .int .i64 R.rept]), recV X vt vn, .int .i64 nd] w fun e w' => e = .returned (.int .i64 0) ∧ Below w.heap.size w w' := by
  have HSh := Lib.hid HS
  have HR := Lib.hid hr
  have HN := Lib.hid hnm
  have HX := Lib.hid hx
  have HE := Lib.hid he
  obtain ⟨na, nc, rfl, hn1, hn2⟩ := hx.2.1.form
  obtain ⟨ta, tc, rfl, ht1, ht2⟩ := hx.1.form
  unfold maxLen at hn2 ht2
  have h200 := (rec_nodes he).2.2
  have HNo := Lib.hid (rec_nodes he).2.1
  clear hr hnm hx HS he
  unfold recV
  go_enter Try.func17, Try.ntmps17
  go_upto_region 1 with (fail)
  obtain ⟨bR, hbR⟩ : ∃ bR, bR = w.heap.size := ⟨_, rfl⟩
  obtain ⟨bX, hbX⟩ : ∃ bX, bX = w.heap.size + 1 := ⟨_, rfl⟩
  have HbR : Hid (Box ((w.alloc (.cells #[.string R.name, .int .i64 R.width, .int .i64 R.height, vp, vs, .bool R.falls, .bool R.keeps, ve, .int .i64 R.blocked, .int .i64 R.quiet, .int .i64 R.rept] 26)).alloc (.cells #[.slice ta X.tags.length tc, .string X.comment, .slice na X.nodes.length nc, .int .i64 X.result] 30)) bR [.string R.name, .int .i64 R.width, .int .i64 R.height, vp, vs, .bool R.falls, .bool R.keeps, ve, .int .i64 R.blocked, .int .i64 R.quiet, .int .i64 R.rept] 26) := Lib.hid ((Box.new' w bR [.string R.name, .int .i64 R.width, .int .i64 R.height, vp, vs, .bool R.falls, .bool R.keeps, ve, .int .i64 R.blocked, .int .i64 R.quiet, .int .i64 R.rept] 26 hbR.symm).alloc _)
  have HbX : Hid (Box ((w.alloc (.cells #[.string R.name, .int .i64 R.width, .int .i64 R.height, vp, vs, .bool R.falls, .bool R.keeps, ve, .int .i64 R.blocked, .int .i64 R.quiet, .int .i64 R.rept] 26)).alloc (.cells #[.slice ta X.tags.length tc, .string X.comment, .slice na X.nodes.length nc, .int .i64 X.result] 30)) bX [.slice ta X.tags.length tc, .string X.comment, .slice na X.nodes.length nc, .int .i64 X.result] 30) := Lib.hid (Box.new' (w.alloc (.cells #[.string R.name, .int .i64 R.width, .int .i64 R.height, vp, vs, .bool R.falls, .bool R.keeps, ve, .int .i64 R.blocked, .int .i64 R.quiet, .int .i64 R.rept] 26)) bX [.slice ta X.tags.length tc, .string X.comment, .slice na X.nodes.length nc, .int .i64 X.result] 30 (by rw [World.size_alloc, hbX]))
  have HB : Hid (Below w.heap.size w ((w.alloc (.cells #[.string R.name, .int .i64 R.width, .int .i64 R.height, vp, vs, .bool R.falls, .bool R.keeps, ve, .int .i64 R.blocked, .int .i64 R.quiet, .int .i64 R.rept] 26)).alloc (.cells #[.slice ta X.tags.length tc, .string X.comment, .slice na X.nodes.length nc, .int .i64 X.result] 30))) := Lib.hid (((Below.refl w.heap.size w).alloc (Nat.le_refl _) _).alloc (by rw [World.size_alloc]; omega) _)
  rw [← hbR, show bR + 1 = bX by omega]
  clear hbX hbR
  generalize ((w.alloc (.cells #[.string R.name, .int .i64 R.width, .int .i64 R.height, vp, vs, .bool R.falls, .bool R.keeps, ve, .int .i64 R.blocked, .int .i64 R.quiet, .int .i64 R.rept] 26)).alloc (.cells #[.slice ta X.tags.length tc, .string X.comment, .slice na X.nodes.length nc, .int .i64 X.result] 30)) = w0 at *
  refine wp_region_lit ?_
  refine wpList_load_box (by rfl) 26 (.tmp 3) (by rfl) bR (by rfl) HbR.out Try.underlying26 (by rfl) (by kernel_rfl) ?_
  refine wpList_load_box (by rfl) 30 (.tmp 4) (by rfl) bX (by rfl) HbX.out Try.underlying30 (by rfl) (by kernel_rfl) ?_
  go_wp2_with fail
  have HC := Lib.hid (recCheck_any HSh.out R vp vs ve X (.slice ta X.tags.length tc) (.slice na X.nodes.length nc) w0 (HR.out.below HB.out (Nat.le_refl _)) HN.out (HX.out.below HB.out (Nat.le_refl _)))
  unfold recV at HC
  rw [HE.out] at HC
  refine HC.out.mono ?_
  rintro e w1 ⟨rfl, hb1⟩
  have HB1 := Lib.hid (HB.out.trans (hb1.mono HB.out.size))
  have HbX1 := Lib.hid (HbX.out.stays hb1)
  have x2 := HbX1.out.cell 2 rfl
  have hxl := HbX1.out.lt
  have hnl : (nd : Int) < (X.nodes.length : Int) := by omega
  have hnl2 : ¬ X.nodes.length ≤ nd := by omega
  clear hb1 HC
  go_wp2_with fail
  go_ret
  exact ⟨rfl, HB1.out⟩

set_option maxRecDepth 100000 in
set_option maxHeartbeats 8000000 in
theorem Path_ok (HS : SortMvSaid) (R : RulesZ) (vp vs ve : Value) (X : RecZ) (vt vn : Value) (nd : Nat) (w : World) (hr : RdR w R vp vs ve) (hnm : R.name.size ≤ maxLen) (hx : RdX w X vt vn) (he : recErr R X = 0) (hnd : nd < X.nodes.length) :
    Calls Try.prog 8 #[(.agg #[.string R.name, .int .i64 R.width, .int .i64 R.height, vp, vs, .bool R.falls, .bool R.keeps, ve, .int .i64 R.blocked, .int .i64 R.quiet, .int .i64 R.rept]), recV X vt vn, .int .i64 nd] w fun e w' => (∃ a c, e = .returned (.tuple #[.slice a (wayI X.nodes nd).length c, .int .i64 0]) ∧ RdL moveEl w' (.slice a (wayI X.nodes nd).length c) (wayI X.nodes nd)) ∧ Below w.heap.size w w' := by
  have HSh := Lib.hid HS
  have HR := Lib.hid hr
  have HN := Lib.hid hnm
  have HX := Lib.hid hx
  have HE := Lib.hid he
  obtain ⟨na, nc, rfl, hn1, hn2⟩ := hx.2.1.form
  obtain ⟨ta, tc, rfl, ht1, ht2⟩ := hx.1.form
  unfold maxLen at hn2 ht2
  have h200 := (rec_nodes he).2.2
  have HNo := Lib.hid (rec_nodes he).2.1
  clear hr hnm hx HS he
  unfold recV
  go_enter Try.func8, Try.ntmps8
  go_upto_region 1 with (fail)
  obtain ⟨bR, hbR⟩ : ∃ bR, bR = w.heap.size := ⟨_, rfl⟩
  obtain ⟨bX, hbX⟩ : ∃ bX, bX = w.heap.size + 1 := ⟨_, rfl⟩
  have HbR : Hid (Box ((w.alloc (.cells #[.string R.name, .int .i64 R.width, .int .i64 R.height, vp, vs, .bool R.falls, .bool R.keeps, ve, .int .i64 R.blocked, .int .i64 R.quiet, .int .i64 R.rept] 26)).alloc (.cells #[.slice ta X.tags.length tc, .string X.comment, .slice na X.nodes.length nc, .int .i64 X.result] 30)) bR [.string R.name, .int .i64 R.width, .int .i64 R.height, vp, vs, .bool R.falls, .bool R.keeps, ve, .int .i64 R.blocked, .int .i64 R.quiet, .int .i64 R.rept] 26) := Lib.hid ((Box.new' w bR [.string R.name, .int .i64 R.width, .int .i64 R.height, vp, vs, .bool R.falls, .bool R.keeps, ve, .int .i64 R.blocked, .int .i64 R.quiet, .int .i64 R.rept] 26 hbR.symm).alloc _)
  have HbX : Hid (Box ((w.alloc (.cells #[.string R.name, .int .i64 R.width, .int .i64 R.height, vp, vs, .bool R.falls, .bool R.keeps, ve, .int .i64 R.blocked, .int .i64 R.quiet, .int .i64 R.rept] 26)).alloc (.cells #[.slice ta X.tags.length tc, .string X.comment, .slice na X.nodes.length nc, .int .i64 X.result] 30)) bX [.slice ta X.tags.length tc, .string X.comment, .slice na X.nodes.length nc, .int .i64 X.result] 30) := Lib.hid (Box.new' (w.alloc (.cells #[.string R.name, .int .i64 R.width, .int .i64 R.height, vp, vs, .bool R.falls, .bool R.keeps, ve, .int .i64 R.blocked, .int .i64 R.quiet, .int .i64 R.rept] 26)) bX [.slice ta X.tags.length tc, .string X.comment, .slice na X.nodes.length nc, .int .i64 X.result] 30 (by rw [World.size_alloc, hbX]))
  have HB : Hid (Below w.heap.size w ((w.alloc (.cells #[.string R.name, .int .i64 R.width, .int .i64 R.height, vp, vs, .bool R.falls, .bool R.keeps, ve, .int .i64 R.blocked, .int .i64 R.quiet, .int .i64 R.rept] 26)).alloc (.cells #[.slice ta X.tags.length tc, .string X.comment, .slice na X.nodes.length nc, .int .i64 X.result] 30))) := Lib.hid (((Below.refl w.heap.size w).alloc (Nat.le_refl _) _).alloc (by rw [World.size_alloc]; omega) _)
  rw [← hbR, show bR + 1 = bX by omega]
  clear hbX hbR
  generalize ((w.alloc (.cells #[.string R.name, .int .i64 R.width, .int .i64 R.height, vp, vs, .bool R.falls, .bool R.keeps, ve, .int .i64 R.blocked, .int .i64 R.quiet, .int .i64 R.rept] 26)).alloc (.cells #[.slice ta X.tags.length tc, .string X.comment, .slice na X.nodes.length nc, .int .i64 X.result] 30)) = w0 at *
  refine wp_region_lit ?_
  refine wpList_load_box (by rfl) 26 (.tmp 3) (by rfl) bR (by rfl) HbR.out Try.underlying26 (by rfl) (by kernel_rfl) ?_
  refine wpList_load_box (by rfl) 30 (.tmp 4) (by rfl) bX (by rfl) HbX.out Try.underlying30 (by rfl) (by kernel_rfl) ?_
  go_wp2_with fail
  have HC := Lib.hid (checked_ok HSh.out R vp vs ve X (.slice ta X.tags.length tc) (.slice na X.nodes.length nc) nd w0 (HR.out.below HB.out (Nat.le_refl _)) HN.out (HX.out.below HB.out (Nat.le_refl _)) HE.out hnd)
  unfold recV at HC
  refine HC.out.mono ?_
  rintro e w1 ⟨rfl, hb1⟩
  have HB1 := Lib.hid (HB.out.trans (hb1.mono HB.out.size))
  have HbX1 := Lib.hid (HbX.out.stays hb1)
  have HWy := Lib.hid (Way_any X (.slice ta X.tags.length tc) (.slice na X.nodes.length nc) nd X.nodes.length w1 (HX.out.below HB1.out (Nat.le_refl _)) HNo.out.back (Nat.le_refl _) hnd (by omega))
  unfold recV at HWy
  clear hb1 HC
  go_upto_region 4 with (fail)
  refine wp_region_lit ?_
  refine wpList_load_box (by rfl) 30 (.tmp 4) (by rfl) bX (by rfl) HbX1.out Try.underlying30 (by rfl) (by kernel_rfl) ?_
  go_wp2_with fail
  refine HWy.out.mono ?_
  rintro e w2 ⟨v', rfl, how, hb2⟩
  obtain ⟨wa, wc, rfl⟩ := own_form2 how
  have HB2 := Lib.hid (HB1.out.trans (hb2.mono HB1.out.size))
  have HM := Lib.hid (rdM_of_own how)
  clear how hb2
  go_wp2_with fail
  refine bodyPost_ret (v := .tuple #[.slice wa (wayI X.nodes nd).length wc, .int .i64 0]) (by simp [results, Try.results8, go_sem]) rfl ?_
  exact ⟨⟨_, _, rfl, HM.out⟩, HB2.out⟩

def FindPost (nd : Nat) (w : World) (e : Ending) (w' : World) : Prop := e = .returned (.tuple #[.int .i64 nd, .int .i64 0]) ∧ Below w.heap.size w w'
set_option maxRecDepth 100000 in
set_option maxHeartbeats 8000000 in
theorem Find_ok (HS : SortMvSaid) (R : RulesZ) (vp vs ve : Value) (X : RecZ) (vt vn vl : Value) (nd : Nat) (w : World) (hr : RdR w R vp vs ve) (hnm : R.name.size ≤ maxLen) (hx : RdX w X vt vn) (he : recErr R X = 0) (hnd : nd < X.nodes.length)
    (hl : RdL moveEl w vl (wayI X.nodes nd)) :
    Calls Try.prog 9 #[(.agg #[.string R.name, .int .i64 R.width, .int .i64 R.height, vp, vs, .bool R.falls, .bool R.keeps, ve, .int .i64 R.blocked, .int .i64 R.quiet, .int .i64 R.rept]), recV X vt vn, vl] w (FindPost nd w) := by
  have HLm := Lib.hid hl
  obtain ⟨la, lc, rfl, hl1, hl2⟩ := hl.form
  unfold maxLen at hl2
  clear hl
  have HSh := Lib.hid HS
  have HR := Lib.hid hr
  have HN := Lib.hid hnm
  have HX := Lib.hid hx
  have HE := Lib.hid he
  obtain ⟨na, nc, rfl, hn1, hn2⟩ := hx.2.1.form
  obtain ⟨ta, tc, rfl, ht1, ht2⟩ := hx.1.form
  unfold maxLen at hn2 ht2
  have h200 := (rec_nodes he).2.2
  have HNo := Lib.hid (rec_nodes he).2.1
  clear hr hnm hx HS he
  unfold recV
  go_enter Try.func9, Try.ntmps9
  go_upto_region 1 with (fail)
  obtain ⟨bR, hbR⟩ : ∃ bR, bR = w.heap.size := ⟨_, rfl⟩
  obtain ⟨bX, hbX⟩ : ∃ bX, bX = w.heap.size + 1 := ⟨_, rfl⟩
  have HbR : Hid (Box ((w.alloc (.cells #[.string R.name, .int .i64 R.width, .int .i64 R.height, vp, vs, .bool R.falls, .bool R.keeps, ve, .int .i64 R.blocked, .int .i64 R.quiet, .int .i64 R.rept] 26)).alloc (.cells #[.slice ta X.tags.length tc, .string X.comment, .slice na X.nodes.length nc, .int .i64 X.result] 30)) bR [.string R.name, .int .i64 R.width, .int .i64 R.height, vp, vs, .bool R.falls, .bool R.keeps, ve, .int .i64 R.blocked, .int .i64 R.quiet, .int .i64 R.rept] 26) := Lib.hid ((Box.new' w bR [.string R.name, .int .i64 R.width, .int .i64 R.height, vp, vs, .bool R.falls, .bool R.keeps, ve, .int .i64 R.blocked, .int .i64 R.quiet, .int .i64 R.rept] 26 hbR.symm).alloc _)
  have HbX : Hid (Box ((w.alloc (.cells #[.string R.name, .int .i64 R.width, .int .i64 R.height, vp, vs, .bool R.falls, .bool R.keeps, ve, .int .i64 R.blocked, .int .i64 R.quiet, .int .i64 R.rept] 26)).alloc (.cells #[.slice ta X.tags.length tc, .string X.comment, .slice na X.nodes.length nc, .int .i64 X.result] 30)) bX [.slice ta X.tags.length tc, .string X.comment, .slice na X.nodes.length nc, .int .i64 X.result] 30) := Lib.hid (Box.new' (w.alloc (.cells #[.string R.name, .int .i64 R.width, .int .i64 R.height, vp, vs, .bool R.falls, .bool R.keeps, ve, .int .i64 R.blocked, .int .i64 R.quiet, .int .i64 R.rept] 26)) bX [.slice ta X.tags.length tc, .string X.comment, .slice na X.nodes.length nc, .int .i64 X.result] 30 (by rw [World.size_alloc, hbX]))
  have HB : Hid (Below w.heap.size w ((w.alloc (.cells #[.string R.name, .int .i64 R.width, .int .i64 R.height, vp, vs, .bool R.falls, .bool R.keeps, ve, .int .i64 R.blocked, .int .i64 R.quiet, .int .i64 R.rept] 26)).alloc (.cells #[.slice ta X.tags.length tc, .string X.comment, .slice na X.nodes.length nc, .int .i64 X.result] 30))) := Lib.hid (((Below.refl w.heap.size w).alloc (Nat.le_refl _) _).alloc (by rw [World.size_alloc]; omega) _)
  rw [← hbR, show bR + 1 = bX by omega]
  clear hbX hbR
  generalize ((w.alloc (.cells #[.string R.name, .int .i64 R.width, .int .i64 R.height, vp, vs, .bool R.falls, .bool R.keeps, ve, .int .i64 R.blocked, .int .i64 R.quiet, .int .i64 R.rept] 26)).alloc (.cells #[.slice ta X.tags.length tc, .string X.comment, .slice na X.nodes.length nc, .int .i64 X.result] 30)) = w0 at *
  refine wp_region_lit ?_
  refine wpList_load_box (by rfl) 26 (.tmp 3) (by rfl) bR (by rfl) HbR.out Try.underlying26 (by rfl) (by kernel_rfl) ?_
  refine wpList_load_box (by rfl) 30 (.tmp 4) (by rfl) bX (by rfl) HbX.out Try.underlying30 (by rfl) (by kernel_rfl) ?_
  go_wp2_with fail
  have HC := Lib.hid (recCheck_any HSh.out R vp vs ve X (.slice ta X.tags.length tc) (.slice na X.nodes.length nc) w0 (HR.out.below HB.out (Nat.le_refl _)) HN.out (HX.out.below HB.out (Nat.le_refl _)))
  unfold recV at HC
  rw [HE.out] at HC
  refine HC.out.mono ?_
  rintro e w1 ⟨rfl, hb1⟩
  obtain ⟨bb, hbb⟩ : ∃ bb, bb = w1.heap.size := ⟨_, rfl⟩
  have HB1 := Lib.hid (HB.out.trans (hb1.mono HB.out.size))
  have HbX1 := Lib.hid (HbX.out.stays hb1)
  have hxb : bX < w1.heap.size := HbX1.out.lt
  have x2 := HbX1.out.cell 2 rfl
  clear hb1 HC hbb
  go_wp2_with fail
  go_loopw [19, 9] (fun v19 v9 wr => ∃ (k : Nat) (o9 : Value), o9 = v9 ∧ k ≤ nd ∧ v19 = .int .i64 k ∧ Hid (Below w1.heap.size w1 wr)) (fun v _ _ => nd - (intOf v).toNat)
  case atStart => exact ⟨0, _, rfl, Nat.zero_le _, rfl, Lib.hid (Below.refl _ _)⟩
  case round =>
    obtain ⟨k, o9, rfl, hk, rfl, HBr⟩ := hrel
    have HBf := Lib.hid (HB1.out.trans (HBr.out.mono HB1.out.size))
    have HbXr := Lib.hid (HbX1.out.stays HBr.out)
    have HWy := Lib.hid (Way_any X (.slice ta X.tags.length tc) (.slice na X.nodes.length nc) k X.nodes.length wr (HX.out.below HBf.out (Nat.le_refl _)) HNo.out.back (Nat.le_refl _) (by omega) (by omega))
    unfold recV at HWy
    have hkl : (k : Int) < (X.nodes.length : Int) := by omega
    go_upto_region 7 with (fail)
    refine wp_region_lit ?_
    refine wpList_load_box (by rfl) 30 (.tmp 4) (by rfl) bX (by rfl) HbXr.out Try.underlying30 (by rfl) (by kernel_rfl) ?_
    go_wp2_with fail
    refine HWy.out.mono ?_
    rintro e w2 ⟨v', rfl, how, hb2⟩
    obtain ⟨wa, wc, rfl⟩ := own_form2 how
    have HB2 := Lib.hid (HBf.out.trans (hb2.mono HBf.out.size))
    have HBr2 := Lib.hid (HBr.out.trans (hb2.mono HBr.out.size))
    have HEq := Lib.hid (EqualM_any _ _ _ _ w2 (rdM_of_own how) (HLm.out.below HB2.out (Nat.le_refl _)))
    clear how hb2 HWy
    by_cases hkn : k = nd
    · subst hkn
      rw [(eqM_iff _ _).2 rfl] at HEq
      go_wp2_with fail
      refine HEq.out.mono ?_
      rintro e w3 ⟨rfl, hb3⟩
      have HB3 := Lib.hid (HB2.out.trans (hb3.mono HB2.out.size))
      clear hb3
      go_wp2_with fail
      refine bodyPost_ret (v := .tuple #[.int .i64 k, .int .i64 0]) (by simp [results, Try.results9, go_sem]) rfl ?_
      exact ⟨rfl, HB3.out⟩
    · have hf : eqM (wayI X.nodes k) (wayI X.nodes nd) = false := by
        cases hq : eqM (wayI X.nodes k) (wayI X.nodes nd)
        · rfl
        · exact absurd (way_inj HNo.out (k + 1) k nd (by omega) (by omega) hnd ((eqM_iff _ _).1 hq)) hkn
      rw [hf] at HEq
      clear hf
      go_wp2_with fail
      refine HEq.out.mono ?_
      rintro e w3 ⟨rfl, hb3⟩
      have HB3 := Lib.hid (HBr2.out.trans (hb3.mono HBr2.out.size))
      clear hb3
      go_wp2_with fail
      go_roundw
      case rel => exact ⟨k + 1, _, rfl, by omega, by go_num, HB3⟩
      case measure => simp [intOf]; omega
end Go.Proofs.Ytnieifdogllbfaa
/- keep3: drop, one, short, great, annotates. -/
namespace Go.Proofs.Ytnieifdogllbfaa
open Go.ChangeShapes Go.WideShapes Go.ChangeAt Go.RowKit
set_option linter.unusedVariables false

theorem drop_any' (n : Int) (w : World) : Calls Try.prog 24 #[.int .i64 n] w fun e w' => e = .returned (.agg #[.int .i64 (-1), .int .i64 n, .int .i64 0]) ∧ Below w.heap.size w w' := by
  go_enter Try.func24, Try.ntmps24
  go_wp2
  exact bodyPost_ret (v := .agg #[.int .i64 (-1), .int .i64 n, .int .i64 0]) (by simp [results, Try.results24, go_sem]) rfl ⟨rfl, by go_grown⟩
theorem great_anyG (R : RulesZ) (vp vs ve : Value) (w : World) (h : RdI w vs R.start) : Calls Try.prog 6 #[(.agg #[.string R.name, .int .i64 R.width, .int .i64 R.height, vp, vs, .bool R.falls, .bool R.keeps, ve, .int .i64 R.blocked, .int .i64 R.quiet, .int .i64 R.rept])] w fun e w' => e = .returned (.bool (decide (20 < (R.start.length : Int)))) ∧ Below w.heap.size w w' := by
  obtain ⟨a, c, rfl, h1, h2⟩ := h.form
  unfold maxLen at h2
  clear h
  go_enter Try.func6, Try.ntmps6
  go_wp2
  go_ret
  exact ⟨rfl, (Below.refl _ _).alloc (Nat.le_refl _) _⟩
theorem minR (L : Nat) : ∃ n : Nat, (if (30 : Int) < (L : Int) then (30 : Int) else (L : Int)) = (n : Int) ∧ n ≤ L ∧ n ≤ 30 := by
  by_cases h : (30 : Int) < (L : Int)
  · exact ⟨30, by rw [if_pos h]; rfl, by omega, by omega⟩
  · exact ⟨L, by rw [if_neg h], Nat.le_refl _, by omega⟩
def shortX (X : RecZ) : RecZ := { X with nodes := X.nodes.take 30 }
def ShortPost (X : RecZ) (vt vn : Value) (w : World) (e : Ending) (w' : World) : Prop := Below w.heap.size w w' ∧ ∃ a n c Y, Y = shortX X ∧ e = .returned (.agg #[vt, .string Y.comment, .slice a n c, .int .i64 Y.result]) ∧ n = Y.nodes.length ∧ ∀ W, RdX W X vt vn → RdX W Y vt (.slice a n c)
set_option maxRecDepth 100000 in
set_option maxHeartbeats 4000000 in
theorem short_any (X : RecZ) (vt vn : Value) (w : World) (h : RdX w X vt vn) : Calls Try.prog 5 #[recV X vt vn] w (ShortPost X vt vn w) := by
  obtain ⟨na, nc, rfl, h1, h2⟩ := h.2.1.form
  obtain ⟨ta, tc, rfl, ht1, ht2⟩ := h.1.form
  unfold maxLen at h2 ht2
  obtain ⟨n, hn, hn1, hn2⟩ := minR X.nodes.length
  have e30 : X.nodes.take 30 = X.nodes.take n := by
    by_cases q : (30 : Int) < (X.nodes.length : Int)
    · rw [if_pos q] at hn
      rw [show n = 30 by omega]
    · rw [if_neg q] at hn
      rw [List.take_of_length_le (by omega), List.take_of_length_le (by omega)]
  have HX : Hid (n = (shortX X).nodes.length ∧ ∀ W, RdX W X (.slice ta X.tags.length tc) (.slice na X.nodes.length nc) → RdX W (shortX X) (.slice ta X.tags.length tc) (.slice na n nc)) := Lib.hid (by
    refine ⟨?_, fun W h => ⟨h.1, ?_, h.2.2⟩⟩
    · show n = (X.nodes.take 30).length
      rw [e30, List.length_take]; omega
    · show RdL nodeEl W _ (X.nodes.take 30)
      rw [e30]; exact RdL.take h.2.1 n hn1)
  clear e30
  have hsl := fun w => run_take (P := Try.prog) (s := 5) Try.underlying28 (fun _ => by kernel_rfl) na X.nodes.length nc n (by omega) w
  clear h
  unfold recV
  go_enter Try.func5, Try.ntmps5
  go_upto_region 1 with (fail)
  obtain ⟨bX, hbX⟩ : ∃ bX, bX = w.heap.size := ⟨_, rfl⟩
  obtain ⟨bO, hbO⟩ : ∃ bO, bO = w.heap.size + 1 := ⟨_, rfl⟩
  have HbX : Hid (Box ((w.alloc (.cells #[.slice ta X.tags.length tc, .string X.comment, .slice na X.nodes.length nc, .int .i64 X.result] 30)).alloc (.cells #[.slice none 0 0, .string ⟨#[]⟩, .slice none 0 0, .int .i64 0] 30)) bX [.slice ta X.tags.length tc, .string X.comment, .slice na X.nodes.length nc, .int .i64 X.result] 30) := Lib.hid ((Box.new' w bX [.slice ta X.tags.length tc, .string X.comment, .slice na X.nodes.length nc, .int .i64 X.result] 30 hbX.symm).alloc _)
  have HbO : Hid (Box ((w.alloc (.cells #[.slice ta X.tags.length tc, .string X.comment, .slice na X.nodes.length nc, .int .i64 X.result] 30)).alloc (.cells #[.slice none 0 0, .string ⟨#[]⟩, .slice none 0 0, .int .i64 0] 30)) bO [.slice none 0 0, .string ⟨#[]⟩, .slice none 0 0, .int .i64 0] 30) := Lib.hid (Box.new' (w.alloc (.cells #[.slice ta X.tags.length tc, .string X.comment, .slice na X.nodes.length nc, .int .i64 X.result] 30)) bO [.slice none 0 0, .string ⟨#[]⟩, .slice none 0 0, .int .i64 0] 30 (by rw [World.size_alloc, hbO]))
  have HB : Hid (Below w.heap.size w ((w.alloc (.cells #[.slice ta X.tags.length tc, .string X.comment, .slice na X.nodes.length nc, .int .i64 X.result] 30)).alloc (.cells #[.slice none 0 0, .string ⟨#[]⟩, .slice none 0 0, .int .i64 0] 30))) := Lib.hid (((Below.refl w.heap.size w).alloc (Nat.le_refl _) _).alloc (by rw [World.size_alloc]; omega) _)
  rw [← hbX, show bX + 1 = bO by omega]
  have hbX1 : w.heap.size ≤ bX := by omega
  have hbO1 : w.heap.size ≤ bO := by omega
  have hne : bO ≠ bX := by omega
  clear hbX hbO
  generalize ((w.alloc (.cells #[.slice ta X.tags.length tc, .string X.comment, .slice na X.nodes.length nc, .int .i64 X.result] 30)).alloc (.cells #[.slice none 0 0, .string ⟨#[]⟩, .slice none 0 0, .int .i64 0] 30)) = w0 at *
  have x2 := HbX.out.cell 2 rfl
  have f2 := HbX.out.frozen 2
  have hxl := HbX.out.lt
  go_upto_region 2 with (fail)
  have HbX2 : Hid (Box (w0.setCell ⟨bX, 2, none⟩ (.slice na n nc)) bX [.slice ta X.tags.length tc, .string X.comment, .slice na n nc, .int .i64 X.result] 30) := Lib.hid (HbX.out.set 2 (.slice na n nc))
  have HbO2 := Lib.hid (HbO.out.far ⟨bX, 2, none⟩ (.slice na n nc) hne)
  have HB2 := Lib.hid (HB.out.setCell (p := ⟨bX, 2, none⟩) hbX1 (.slice na n nc))
  clear HbX HbO HB x2 f2 hxl
  generalize w0.setCell ⟨bX, 2, none⟩ (.slice na n nc) = w1 at *
  refine wp_region_lit ?_
  refine wpList_load_box (by rfl) 30 (.tmp 1) (by rfl) bX (by rfl) HbX2.out Try.underlying30 (by rfl) (by kernel_rfl) ?_
  refine wpList_store_box (vs := [.slice ta X.tags.length tc, .string X.comment, .slice na n nc, .int .i64 X.result]) (by rfl) 30 (.tmp 2) (.tmp 11) (by rfl) bO (by rfl) (by rfl) HbO2.out rfl (by kernel_rfl) (by rfl) ?_
  have HbO3 := Lib.hid (HbO2.out.store (vs := [.slice ta X.tags.length tc, .string X.comment, .slice na n nc, .int .i64 X.result]) rfl)
  have HB3 := Lib.hid (below_setCells HB2.out hbO1 0 [.slice ta X.tags.length tc, .string X.comment, .slice na n nc, .int .i64 X.result])
  generalize w1.setCells bO 0 [.slice ta X.tags.length tc, .string X.comment, .slice na n nc, .int .i64 X.result] = w2 at *
  go_wp2_with fail
  exact bodyPost_ret (results_one rfl (by rfl) HbO3.out Try.underlying30 (by rfl) (by kernel_rfl)) rfl ⟨HB3.out, _, _, _, shortX X, rfl, rfl, HX.out.1, HX.out.2⟩

def oneX : RecZ := ⟨[], ⟨#[]⟩, [⟨-1, ⟨-1, 0, 0⟩, ⟨#[]⟩⟩], 0⟩
def OnePost (w : World) (e : Ending) (w' : World) : Prop := Below w.heap.size w w' ∧ ∃ b, e = .returned (recV oneX (.slice none 0 0) (.slice (some ⟨b, 0, none⟩) 1 1)) ∧ RdX w' oneX (.slice none 0 0) (.slice (some ⟨b, 0, none⟩) 1 1)
set_option maxRecDepth 100000 in
set_option maxHeartbeats 4000000 in
theorem one_any (w : World) : Calls Try.prog 12 #[] w (OnePost w) := by
  go_enter Try.func12, Try.ntmps12
  go_upto_region 1 with (fail)
  have HbO := Lib.hid (Box.new w [.slice none 0 0, .string ⟨#[]⟩, .slice none 0 0, .int .i64 0] 30)
  have HB := Lib.hid ((Below.refl w.heap.size w).alloc (Nat.le_refl _) (.cells #[.slice none 0 0, .string ⟨#[]⟩, .slice none 0 0, .int .i64 0] 30))
  generalize w.alloc (.cells #[.slice none 0 0, .string ⟨#[]⟩, .slice none 0 0, .int .i64 0] 30) = w0 at *
  go_wp2_with fail
  refine (drop_any' 0 _).mono ?_
  rintro e w1 ⟨rfl, hb1⟩
  have HB1 := Lib.hid (HB.out.trans (hb1.mono HB.out.size))
  have HbO1 := Lib.hid (HbO.out.stays hb1)
  obtain ⟨bN, hbN⟩ : ∃ bN, bN = w1.heap.size := ⟨_, rfl⟩
  have HbN := Lib.hid (Box.new' w1 bN [.int .i64 (-1), .int .i64 (-1), .int .i64 0, .int .i64 0, .string ⟨#[]⟩] 71 hbN.symm)
  have HbO2 := Lib.hid (HbO1.out.alloc (.cells #[.int .i64 (-1), .int .i64 (-1), .int .i64 0, .int .i64 0, .string ⟨#[]⟩] 71))
  have HB2 := Lib.hid (HB1.out.alloc HB1.out.size (.cells #[.int .i64 (-1), .int .i64 (-1), .int .i64 0, .int .i64 0, .string ⟨#[]⟩] 71))
  have hwb : w.heap.size ≠ bN := by have := HbO1.out.lt; omega
  clear hb1 HB HbO
  go_wp2_with (refine wpList_store_box (vs := [.slice none 0 0, .string ⟨#[]⟩, .slice (some ⟨w1.heap.size, 0, none⟩) 1 1, .int .i64 0]) (by rfl) 30 (.tmp 0) (.tmp 4) (by rfl) w.heap.size (by rfl) (by rfl) HbO2.out rfl (by kernel_rfl) (by rfl) ?_)
  rw [← hbN]
  have HbN2 := Lib.hid (HbN.out.farAll (b' := w.heap.size) (Ne.symm hwb) 0 [.slice none 0 0, .string ⟨#[]⟩, .slice (some ⟨bN, 0, none⟩) 1 1, .int .i64 0])
  have HbO3 := Lib.hid (HbO2.out.store (vs := [.slice none 0 0, .string ⟨#[]⟩, .slice (some ⟨bN, 0, none⟩) 1 1, .int .i64 0]) rfl)
  have HB3 := Lib.hid (below_setCells HB2.out (Nat.le_refl _) 0 [.slice none 0 0, .string ⟨#[]⟩, .slice (some ⟨bN, 0, none⟩) 1 1, .int .i64 0])
  refine bodyPost_ret (results_one rfl (by rfl) HbO3.out Try.underlying30 (by rfl) (by kernel_rfl)) rfl ⟨HB3.out, bN, rfl, RdL.nil _ _, ?_, Nat.zero_le _⟩
  refine .inr ⟨bN, 0, 1, rfl, Nat.le_refl _, by unfold maxLen; decide, HbN2.out.lt, fun i h => ?_⟩
  obtain rfl : i = 0 := by simp [oneX] at h; exact h
  refine ⟨[.int .i64 (-1), .int .i64 (-1), .int .i64 0, .int .i64 0, .string ⟨#[]⟩], ⟨rfl, Nat.zero_le _⟩, fun j hj => ?_⟩
  simp only [nodeEl] at hj
  rcases j with _ | _ | _ | _ | _ | j
  all_goals first | exact HbN2.out.cell _ rfl | omega
theorem one_run : runErr ticZ [⟨-1, 0, 0⟩] = 0 := by
  have h0 : resRaw ticZ (nowZ ticZ []) = 0 := by decide +kernel
  have h1 : gameRes ticZ [] = 0 := by unfold gameRes; rw [res_raw, h0, if_neg (fun h => h.2.1 rfl)]
  have h2 : (⟨-1, 0, 0⟩ : MoveZ) ∈ listZ ticZ (nowZ ticZ []) := by rw [list_mem]; decide +kernel
  have h3 : rulesErr ticZ = 0 := by decide +kernel
  have hp : playErr ticZ [] ⟨-1, 0, 0⟩ = 0 := by unfold playErr; rw [if_neg (by simp [h1]), if_neg (by simpa using h2)]; rfl
  unfold runErr runFrom runFrom
  rw [if_neg (by simp [h3]), if_neg (by simp [hp])]
theorem one_ok : recErr ticZ oneX = 0 := by
  have h1 : rulesErr ticZ = 0 := by decide +kernel
  have h2 : tagsE oneX.tags = 0 := by decide +kernel
  have h3 : cmtErr oneX.comment = 0 := by decide +kernel
  have h4 : cmtErr (ndAt oneX.nodes 0).comment = 0 := by decide +kernel
  have h5 : onB oneX.nodes (-1) (-1) = true := by decide +kernel
  have h6 : twinB oneX.nodes 0 = false := by decide +kernel
  have h7 : wayI oneX.nodes (0 : Nat) = [⟨-1,0,0⟩] := by decide +kernel
  have h8 : depE oneX.nodes [0] 0 = 0 := by decide +kernel
  have hn : nodeE ticZ oneX.nodes [0] 0 = 0 := by
    unfold nodeE
    rw [if_neg (by simp [h4]), h7, one_run, if_neg (by decide), if_neg (by simp [h6]), if_neg (by decide), h8]; rfl
  unfold recErr
  rw [if_neg (by simp [h1]), if_neg (by decide), if_neg (by simp [h2]), if_neg (by decide), if_neg (by simp [h3])]
  show nodesE ticZ oneX.nodes 1 0 [0] = 0
  unfold nodesE
  rw [if_neg (by simp [hn])]; rfl
set_option maxRecDepth 100000 in
set_option maxHeartbeats 4000000 in
theorem annotates_any (HS : SortMvSaid) (w : World) : Calls Try.prog 4 #[] w fun e w' => e = .returned (.bool true) ∧ Below w.heap.size w w' := by
  have HSh := Lib.hid HS
  clear HS
  go_enter Try.func4, Try.ntmps4
  go_wp2_with fail
  refine (tic_any w).mono ?_
  rintro e w1 ⟨vp, vs, ve, rfl, hr1, hb1⟩
  have HB1 := Lib.hid hb1
  have HR1 := Lib.hid hr1
  clear hb1 hr1
  unfold rulesV
  go_wp2_with fail
  refine (one_any w1).mono ?_
  rintro e w2 ⟨hb2, b, rfl, hx2⟩
  have HB2 := Lib.hid (HB1.out.trans (hb2.mono HB1.out.size))
  have HC := Lib.hid (Path_ok HSh.out ticZ vp vs ve oneX (.slice none 0 0) (.slice (some ⟨b, 0, none⟩) 1 1) 0 w2 (HR1.out.below hb2 (Nat.le_refl _)) (by unfold maxLen; decide) hx2 one_ok (by decide))
  unfold recV at HC ⊢
  rw [show (wayI oneX.nodes (0 : Nat)).length = 1 by decide +kernel] at HC
  clear hb2 hx2
  go_wp2_with fail
  refine HC.out.mono ?_
  rintro e w3 ⟨⟨pa, pc, rfl, -⟩, hb3⟩
  have HB3 := Lib.hid (HB2.out.trans (hb3.mono HB2.out.size))
  clear hb3 HC
  go_wp2_with fail
  go_ret
  exact ⟨rfl, HB3.out⟩
end Go.Proofs.Ytnieifdogllbfaa
