/- An12, SmL, AnnotateMainW, Frame, OpenR, OpenM. -/
import Derived.Test.YtnieifdogllbfaaGreatF29
import Derived.BigQuiet
import Derived.Deep.Cut
import Derived.Deep.CutRange
import Derived.Deep.QuietTactic
import Derived.Test.YtnieifdogllbfaaGreatF25
import Derived.Test.YtnieifdogllbfaaGreatF26
import Derived.WalkKit
import Derived.ProofKit
import Derived.OpenShut
import Derived.Carry
import Derived.Deep.Slices
import Derived.Test.YtnieifdogllbfaaGreatF01
import Derived.Deep.Fields
namespace Go.Proofs.YtnieifdogllbfaaGreat
open Go.ChangeShapes Go.WideShapes Go.ChangeAt Go.RowKit
set_option linter.unusedVariables false
theorem infoMvs : (Tryz.prog.info? 43).map (fun i => (i.zero, i.size, i.bytes)) = some (some (.slice none 0 0), 1, 24) := by kernel_rfl
theorem one_slice {a : Option Addr} {n c : Nat} : ∀ u ∈ ([.slice a n c] : List Value), u.oneCell' = true := by
 intro u hu
 rw [List.mem_singleton] at hu
 subst hu; rfl
def LinesPost (w : World) (e : Ending) (w' : World) : Prop := ∃ a c, e = .returned (.tuple #[.slice a 1 c, .int .i64 0]) ∧ Below w.heap.size w w'
set_option maxRecDepth 100000
set_option maxHeartbeats 8000000
theorem Lines_ok (HS : SortMvSaid) (R : RulesZ) (vp vs ve : Value) (X : RecZ) (vtx vnx : Value) (w : World) (hr : RdR w R vp vs ve) (hnm : R.name.size ≤ maxLen) (hx : RdX w X vtx vnx) (he : recErr R X = 0) (hp : 0 < X.nodes.length) (hK : ∀ i : Nat, i < X.nodes.length → kidsZ X.nodes (i : Int) = if i + 1 < X.nodes.length then [i + 1] else []) :
  Calls Tryz.prog 19 #[(.agg #[.string R.name, .int .i64 R.width, .int .i64 R.height, vp, vs, .bool R.falls, .bool R.keeps, ve, .int .i64 R.blocked, .int .i64 R.quiet, .int .i64 R.rept]), recV X vtx vnx] w (LinesPost w) := by
 have HSh := Lib.hid HS
 have HR := Lib.hid hr
 have HN := Lib.hid hnm
 have HX := Lib.hid hx
 have HE := Lib.hid he
 have h200 := (rec_nodes he).2.2
 have HBK := Lib.hid (rec_nodes he).2.1.back
 obtain ⟨na, nc, rfl, hn1, hn2⟩ := hx.2.1.form
 obtain ⟨ta, tc, rfl, ht1, ht2⟩ := hx.1.form
 unfold maxLen at hn2 ht2
 have HK := Lib.hid hK
 clear hr hnm hx HS he hK
 unfold recV
 go_enter Tryz.func19, Tryz.ntmps19
 go_upto_region 1 with (fail)
 refine opn2 ?_
 intro w0 xbR xbX hB0 hS0
 have HB := Lib.hid hB0
 obtain ⟨bX, hbX⟩ : ∃ bX, bX = w.heap.size + 1 := ⟨_, rfl⟩
 rw [← hbX] at xbX ⊢
 obtain ⟨bR, hbR⟩ : ∃ bR, bR = w.heap.size := ⟨_, rfl⟩
 rw [← hbR] at xbR ⊢
 have hbR1 : w.heap.size ≤ bR := by omega
 have HbR := Lib.hid xbR
 have hbX1 : w.heap.size ≤ bX := by omega
 have hbRbX : bR < bX := by omega
 have HbX := Lib.hid xbX
 have hS : bX < w0.heap.size := by omega
 clear hB0 hS0 xbR hbR xbX hbX
 refine wp_region_lit ?_
 refine wpList_load_box (by rfl) 26 (.tmp 2) (by rfl) bR (by rfl) HbR.out Tryz.underlying26 (by rfl) (by kernel_rfl) ?_
 refine wpList_load_box (by rfl) 30 (.tmp 3) (by rfl) bX (by rfl) HbX.out Tryz.underlying30 (by rfl) (by kernel_rfl) ?_
 have HC := Lib.hid (recCheck_any HSh.out R vp vs ve X (.slice ta X.tags.length tc) (.slice na X.nodes.length nc) w0 (HR.out.below HB.out (Nat.le_refl _)) HN.out (HX.out.below HB.out (Nat.le_refl _)))
 rw [HE.out] at HC
 unfold recV at HC
 go_wp2_with fail
 refine HC.out.mono ?_
 rintro e w1 ⟨rfl, hb1⟩
 have HB1 := Lib.hid (HB.out.trans (hb1.mono HB.out.size))
 have HX1 := Lib.hid (HbX.out.stays hb1)
 clear hb1 HC HbX HbR HB hS
 have x2 := HX1.out.cell 2 rfl
 have xl := HX1.out.lt
 go_wp2_with fail
 clear x2 xl
 go_loopw [18, 7] (fun v18 v7 wr => ∃ k : Nat, v18 = .int .i64 k ∧ k ≤ X.nodes.length ∧ ((k < X.nodes.length ∧ v7 = .slice none 0 0) ∨ (k = X.nodes.length ∧ ∃ a c, v7 = .slice a 1 c)) ∧ Hid (Below w.heap.size w wr) ∧ Hid (Box wr bX [.slice ta X.tags.length tc, .string X.comment, .slice na X.nodes.length nc, .int .i64 X.result] 30)) (fun v _ _ => X.nodes.length - (intOf v).toNat)
 case atStart => exact ⟨0, rfl, Nat.zero_le _, .inl ⟨hp, rfl⟩, HB1, HX1⟩
 case round =>
  obtain ⟨k, rfl, hk, h7, HBr, HXr⟩ := hrel
  clear HB1 HX1
  rcases h7 with ⟨hlt, rfl⟩ | ⟨hkk, a, c, rfl⟩
  ·have hki : (k : Int) < (X.nodes.length : Int) := by omega
   have HKi := Lib.hid (Kids_any X (.slice ta X.tags.length tc) (.slice na X.nodes.length nc) (k : Int) wr (HX.out.below HBr.out (Nat.le_refl _)) (by omega))
   rw [HK.out k hlt] at HKi
   unfold recV at HKi
   go_upto_region 8 with (fail)
   refine wp_region_lit ?_
   refine wpList_load_box (by rfl) 30 (.tmp 3) (by rfl) bX (by rfl) HXr.out Tryz.underlying30 (by rfl) (by kernel_rfl) ?_
   by_cases hl : k + 1 < X.nodes.length
   ·rw [if_pos hl] at HKi
    go_wp2_with fail
    refine HKi.out.mono ?_
    rintro e w2 ⟨v2, rfl, ho2, hb2⟩
    obtain ⟨ka, kc, rfl⟩ := own_form2 ho2
    have HB2 := Lib.hid (below_trans HBr.out hb2 HBr.out.size)
    have HX2 := Lib.hid (HXr.out.stays hb2)
    have hl1 : ([k + 1] : List Nat).length = 1 := rfl
    rw [hl1]
    clear ho2 hb2 HKi HBr HXr
    go_wp2_with fail
    go_roundw
    case rel => exact ⟨k + 1, by go_num, by omega, .inl ⟨hl, rfl⟩, HB2, HX2⟩
    case measure => simp [intOf]; omega
   ·rw [if_neg hl] at HKi
    go_wp2_with fail
    refine HKi.out.mono ?_
    rintro e w2 ⟨v2, rfl, ho2, hb2⟩
    obtain ⟨ka, kc, rfl⟩ := own_form2 ho2
    have HB2 := Lib.hid (below_trans HBr.out hb2 HBr.out.size)
    have HX2 := Lib.hid (HXr.out.stays hb2)
    have hl1 : ([] : List Nat).length = 0 := rfl
    rw [hl1]
    clear ho2 hb2 HKi HBr HXr
    have HWy := Lib.hid (Way_any X (.slice ta X.tags.length tc) (.slice na X.nodes.length nc) k X.nodes.length w2 (HX.out.below HB2.out (Nat.le_refl _)) HBK.out (Nat.le_refl _) hlt (by omega))
    unfold recV at HWy
    go_upto_region 9 with (fail)
    have x0 := HX2.out.cell 0 rfl
    have x1 := HX2.out.cell 1 rfl
    have x2 := HX2.out.cell 2 rfl
    have x3 := HX2.out.cell 3 rfl
    have xl := HX2.out.lt
    go_wp2_with fail
    refine HWy.out.mono ?_
    rintro e w3 ⟨v3, rfl, ho3, hb3⟩
    obtain ⟨wa, wc, rfl⟩ := own_form2 ho3
    have HB3 := Lib.hid (below_trans HB2.out hb3 HB2.out.size)
    have HX3 := Lib.hid (HX2.out.stays hb3)
    have hbx : bX + 1 ≤ w3.heap.size := HX3.out.lt
    have HNil : Hid (w3.ownsRow (bX + 1) 43 1 (.slice none 0 0) 0 []) := Lib.hid (World.ownsRow_nil _ _ _ _)
    clear ho3 hb3 HWy HB2 HX2 x0 x1 x2 x3 xl
    generalize (wayI X.nodes (k : Int)).length = wl at *
    go_wp2_with (at_builtin; refine app_new 49 43 (.slice none 0 0) 1 24 infoMvs Tryz.underlying49 rfl (by decide) (by rfl) _ _ (by rfl) (bX + 1) _ 0 [] [.slice wa wl wc] w3 HNil.out hbx rfl one_slice (by omega) (by omega) (by rfl) (by rfl) ?_)
    intro g4 cap4 w4 hown4 hkeep4 hgr4
    have HB4 := Lib.hid (hkeep4.below HB3.out (by omega))
    have HX4 := Lib.hid ((HX3.out.alloc (.cells #[.slice wa wl wc] 43)).grown hgr4 (fun e => by cases e))
    clear hown4 hkeep4 hgr4
    go_wp2_with fail
    go_roundw
    case rel => exact ⟨k + 1, by go_num, by omega, .inr ⟨by omega, _, _, rfl⟩, HB4, HX4⟩
    case measure => simp [intOf]; omega
  ·subst hkk
   go_wp2_with fail
   refine bodyPost_ret (v := .tuple #[.slice a 1 c, .int .i64 0]) (by simp [results, Tryz.results19, go_sem]) rfl ⟨a, c, rfl, HBr.out⟩
end Go.Proofs.YtnieifdogllbfaaGreat
namespace Go.Proofs.YtnieifdogllbfaaGreat
open Go.ChangeShapes Go.WideShapes Go.ChangeAt Go.RowKit
set_option linter.unusedVariables false
set_option maxRecDepth 100000 in
set_option maxHeartbeats 4000000 in
theorem sameLine_any (v u : Value) (xs ys : List MoveZ) (w : World) (h : RdL moveEl w v xs) (h' : RdL moveEl w u ys) (hl : xs.length ≤ 1000000) :
  Calls Tryz.prog 18 #[v, u] w fun e w' => e = .returned (.bool (decide (xs = ys))) ∧ Below w.heap.size w w' := by
 have HR := Lib.hid h
 have HQ := Lib.hid h'
 obtain ⟨a, c, rfl, h1, h2⟩ := h.form
 obtain ⟨a', c', rfl, h1', h2'⟩ := h'.form
 unfold maxLen at h2 h2'
 clear h h'
 have hneq := neqM
 by_cases hle : xs.length = ys.length
 rotate_left
 ·have HE : Hid (decide (xs = ys) = false) := Lib.hid (by simp; intro e; exact hle (by rw [e]))
  have hle' : ((xs.length : Int) != (ys.length : Int)) = true := by simp only [bne_iff_ne, ne_eq]; omega
  clear hle
  go_enter Tryz.func18, Tryz.ntmps18
  go_wp2_with fail
  go_ret
  exact ⟨by rw [HE.out]; rfl, Below.refl _ _⟩
 have hle' : ((xs.length : Int) != (ys.length : Int)) = false := by simp only [bne_eq_false_iff_eq]; omega
 have HLE := Lib.hid hle
 clear hle
 go_enter Tryz.func18, Tryz.ntmps18
 go_wp2_with fail
 go_loopw [5, 13] (fun vj vi wr => ∃ k : Nat, k ≤ xs.length ∧ vi = .int .i64 k ∧ Hid (xs.take k = ys.take k) ∧ Hid (Below w.heap.size w wr)) (fun _ i _ => xs.length - (intOf i).toNat)
 case atStart => exact ⟨0, Nat.zero_le _, rfl, Lib.hid rfl, Lib.hid (Below.refl _ _)⟩
 case round =>
  obtain ⟨k, hk, rfl, HT, HB⟩ := hrel
  by_cases hlt : k < xs.length
  ·have hlt2 : k < ys.length := by have := HLE.out; omega
   obtain ⟨g, o, rfl, hg, hcc⟩ := moves_some (HR.out.below HB.out (Nat.le_refl _)) (by omega)
   obtain ⟨g', o', rfl, hg', hcc'⟩ := moves_some (HQ.out.below HB.out (Nat.le_refl _)) (by omega)
   obtain ⟨c0, c1, c2⟩ := hcc k hlt
   obtain ⟨d0, d1, d2⟩ := hcc' k hlt2
   have HS : Hid (xs.take (k + 1) = xs.take k ++ [xs.getD k default]) := Lib.hid (by rw [List.take_succ_eq_append_getElem hlt, List.getD_eq_getElem?_getD, List.getElem?_eq_getElem hlt]; rfl)
   have HS' : Hid (ys.take (k + 1) = ys.take k ++ [ys.getD k default]) := Lib.hid (by rw [List.take_succ_eq_append_getElem hlt2, List.getD_eq_getElem?_getD, List.getElem?_eq_getElem hlt2]; rfl)
   have HGd : Hid (xs = ys → xs.getD k default = ys.getD k default) := Lib.hid (fun e => by rw [e])
   clear hcc hcc'
   generalize xs.getD k default = x at *
   generalize ys.getD k default = y at *
   by_cases he : x = y
   ·subst he
    go_wp2_with fail
    go_quiet (fail)
    go_wp2_with fail
    go_roundw
    case rel => exact ⟨k + 1, by omega, by go_num, Lib.hid (by rw [HS.out, HS'.out, HT.out]), Lib.hid (below_drewN HB.out _)⟩
    case measure => simp [intOf]; omega
   ·have hd : decide (x = y) = false := by simpa using he
    have HE : Hid (decide (xs = ys) = false) := Lib.hid (by simp; exact fun e => he (HGd.out e))
    clear he
    go_wp2_with fail
    go_quiet (fail)
    go_wp2_with fail
    go_ret
    exact ⟨by rw [HE.out]; rfl, below_drewN HB.out _⟩
  ·obtain rfl : k = xs.length := by omega
   have HE : Hid (decide (xs = ys) = true) := Lib.hid (by
    have := HT.out
    rw [List.take_of_length_le (Nat.le_refl _), List.take_of_length_le (by have := HLE.out; omega)] at this
    simpa using this)
   go_wp2_with fail
   go_ret
   exact ⟨by rw [HE.out]; rfl, HB.out⟩
end Go.Proofs.YtnieifdogllbfaaGreat
namespace Go.Proofs.YtnieifdogllbfaaGreat.annotateMain
open Go.ChangeShapes Go.WideShapes Go.ChangeAt Go.RowKit
set_option linter.unusedVariables false
theorem prom_err {R : RulesZ} {X : RecZ} {nd : Nat} (h : recErr R X = 0) (hnd : nd < X.nodes.length) : recErr R (promX X nd) = 0 ∨ recErr R (promX X nd) = 2 := by
 obtain ⟨-, c1, c2, c3, -⟩ := rec_cmt h
 exact rec_err (X := promX X nd) (prom_ok h nd hnd) (rec_nodes h).1 c1 c2 c3 rfl
/-- what the law says of plain data. -/
structure MainF (R : RulesZ) (C : RecZ) (W M : List MoveZ) : Prop where
 main : firstL (trees C) = M
 way : ∃ t, M = W ++ t
 sound : recErr R (plainX C) = 0
 last : firstL (trees (plainX C)) = M
 len : (plainX C).nodes.length = M.length
 pos : 0 < (plainX C).nodes.length
 kids : ∀ i : Nat, i < (plainX C).nodes.length → kidsZ (plainX C).nodes (i : Int) = if i + 1 < (plainX C).nodes.length then [i + 1] else []
theorem main_facts {R : RulesZ} {X : RecZ} {nd : Nat} (h : recErr R X = 0) (hnd : nd < X.nodes.length) (hC : recErr R (promX X nd) = 0) : MainF R (promX X nd) (wayI X.nodes (nd : Int)) (firstL (trees (promX X nd))) := by
 have htr : trees (promX X nd) = promT X nd := tree_flat (promT X nd)
 obtain ⟨t, ht⟩ := prom_first h nd hnd
 have hlen : (plainX (promX X nd)).nodes.length = (firstL (trees (promX X nd))).length := by
  show (plainN _ _).length = _
  rw [plainN_len, ← firstP_mv, List.length_map]
 have hpl : (plainX (promX X nd)).nodes.length = (firstP (trees (promX X nd))).length := plainN_len _ _
 refine ⟨rfl, ⟨t, by rw [htr]; exact ht⟩, plain_rec (Z := plainX (promX X nd)) hC rfl rfl rfl rfl, ?_, hlen, ?_, fun i hi => ?_⟩
 ·rw [plain_main (Z := plainX (promX X nd)) _ rfl, firstP_mv]
 ·rw [hlen, htr, ht, way_snoc (rec_nodes h).2.1.back nd hnd]; simp; omega
 ·rw [hpl] at hi ⊢
  exact plain_kids _ i hi
set_option maxRecDepth 100000 in
set_option maxHeartbeats 8000000 in
theorem walk (HS : SortMvSaid) (R : RulesZ) (vp vs ve : Value) (X : RecZ) (vt vn : Value) (nd : Int) (w : World) (hr : RdR w R vp vs ve) (hnm : R.name.size ≤ maxLen) (hx : RdX w X vt vn) :
  Calls Tryz.prog 6 #[(.agg #[.string R.name, .int .i64 R.width, .int .i64 R.height, vp, vs, .bool R.falls, .bool R.keeps, ve, .int .i64 R.blocked, .int .i64 R.quiet, .int .i64 R.rept]), recV X vt vn, .int .i64 nd] w fun e w' => e = .returned (.bool true) ∧ Below w.heap.size w w' := by
 have HSh := Lib.hid HS
 have HR := Lib.hid hr
 have HN := Lib.hid hnm
 obtain ⟨na, nc, rfl, hn1, hn2⟩ := hx.2.1.form
 obtain ⟨ta, tc, rfl, ht1, ht2⟩ := hx.1.form
 unfold maxLen at hn2 ht2
 have HX := Lib.hid hx
 clear hx HS hr hnm
 unfold recV
 go_enter Tryz.func6, Tryz.ntmps6
 go_upto_region 1 with (fail)
 refine opn2 ?_
 intro w0 xbR xbX hB0 hS0
 have HB := Lib.hid hB0
 obtain ⟨bX, hbX⟩ : ∃ bX, bX = w.heap.size + 1 := ⟨_, rfl⟩
 rw [← hbX] at xbX ⊢
 obtain ⟨bR, hbR⟩ : ∃ bR, bR = w.heap.size := ⟨_, rfl⟩
 rw [← hbR] at xbR ⊢
 have hbR1 : w.heap.size ≤ bR := by omega
 have HbR := Lib.hid xbR
 have hbX1 : w.heap.size ≤ bX := by omega
 have hbRbX : bR < bX := by omega
 have HbX := Lib.hid xbX
 have hS : bX < w0.heap.size := by omega
 clear hB0 hS0 xbR hbR xbX hbX
 have HR0 := HbR
 have HY0 := HbX
 clear HbR HbX
 go_wp2_with fail
 refine (annotates_any HSh.out w0).mono ?_
 rintro e w1 ⟨rfl, hb1⟩
 have HB1 := Lib.hid (below_trans HB.out hb1 HB.out.size)
 have HR1 := Lib.hid (HR0.out.stays hb1)
 have HY1 := Lib.hid (HY0.out.stays hb1)
 clear hb1 HR0 HY0 HB hS
 go_upto_region 3 with (fail)
 refine wp_region_lit ?_
 refine wpList_load_box (by rfl) 30 (.tmp 4) (by rfl) bX (by rfl) HY1.out Tryz.underlying30 (by rfl) (by kernel_rfl) ?_
 go_wp2_with fail
 have HC := Lib.hid (short_any X (.slice ta X.tags.length tc) (.slice na X.nodes.length nc) w1 (HX.out.below HB1.out (Nat.le_refl _)))
 unfold recV at HC
 refine HC.out.mono ?_
 rintro e w2 ⟨hb2, a, n, c, Y, hYe, rfl, rfl, hY⟩
 have HB2 := Lib.hid (below_trans HB1.out hb2 HB1.out.size)
 have HR2 := Lib.hid (HR1.out.stays hb2)
 have HY2 := Lib.hid (HY1.out.stays hb2)
 have HY : Hid (RdX w Y (.slice ta Y.tags.length tc) (.slice a Y.nodes.length c)) := Lib.hid (by have := hY w HX.out; rw [hYe] at this ⊢; exact this)
 have hyt : X.tags.length = Y.tags.length := by rw [hYe]; rfl
 rw [hyt]
 have HYT := Lib.hid hyt
 have HYe := Lib.hid hYe
 have hz2 := HY2.out.lt
 clear hb2 HR1 HY1 HB1 HC hY hyt hYe
 go_upto_region 4 with (refine wpList_store_box (vs := [.slice ta Y.tags.length tc, .string Y.comment, .slice a Y.nodes.length c, .int .i64 Y.result]) (by rfl) 30 (.tmp 4) (.tmp 22) (by rfl) bX (by rfl) (by rfl) HY2.out rfl (by kernel_rfl) (by rfl) ?_)
 have HY3 := Lib.hid (HY2.out.store (vs := [.slice ta Y.tags.length tc, .string Y.comment, .slice a Y.nodes.length c, .int .i64 Y.result]) rfl)
 have HR3 := Lib.hid (HR2.out.farAll (b' := bX) (by omega) 0 [.slice ta Y.tags.length tc, .string Y.comment, .slice a Y.nodes.length c, .int .i64 Y.result])
 have HB3 := Lib.hid (below_setCells HB2.out (b := bX) hbX1 0 [.slice ta Y.tags.length tc, .string Y.comment, .slice a Y.nodes.length c, .int .i64 Y.result])
 generalize w2.setCells bX 0 [.slice ta Y.tags.length tc, .string Y.comment, .slice a Y.nodes.length c, .int .i64 Y.result] = w3 at *
 clear HY2 HR2 HB2 hz2
 obtain ⟨hy1, hy2⟩ : Y.nodes.length ≤ c ∧ c ≤ 9223372036854775807 := by obtain ⟨_, _, e, h1, h2⟩ := HY.out.2.1.form; unfold maxLen at h2; cases e; omega
 obtain ⟨hy3, hy4⟩ : Y.tags.length ≤ tc ∧ tc ≤ 9223372036854775807 := by obtain ⟨_, _, e, h1, h2⟩ := HY.out.1.form; unfold maxLen at h2; cases e; omega
 have q0 := HR3.out.cell 0 rfl; have q1 := HR3.out.cell 1 rfl; have q2 := HR3.out.cell 2 rfl; have q3 := HR3.out.cell 3 rfl; have q4 := HR3.out.cell 4 rfl; have q5 := HR3.out.cell 5 rfl; have q6 := HR3.out.cell 6 rfl; have q7 := HR3.out.cell 7 rfl; have q8 := HR3.out.cell 8 rfl; have q9 := HR3.out.cell 9 rfl; have q10 := HR3.out.cell 10 rfl
 go_wp2_with fail
 refine (great_anyG R vp vs ve w3 (HR.out.2.1.below HB3.out (Nat.le_refl _))).mono ?_
 rintro e w4 ⟨rfl, hb4⟩
 have HB4 := Lib.hid (below_trans HB3.out hb4 HB3.out.size)
 have HR4 := Lib.hid (HR3.out.stays hb4)
 have HY4 := Lib.hid (HY3.out.stays hb4)
 clear hb4 HR3 HY3 HB3 q0 q1 q2 q3 q4 q5 q6 q7 q8 q9 q10
 generalize decide (20 < (R.start.length : Int)) = gr at *
 cases gr
 rotate_left
 ·go_wp2_with fail
  go_ret
  exact ⟨rfl, HB4.out⟩
 have q0 := HR4.out.cell 0 rfl; have q1 := HR4.out.cell 1 rfl; have q2 := HR4.out.cell 2 rfl; have q3 := HR4.out.cell 3 rfl; have q4 := HR4.out.cell 4 rfl; have q5 := HR4.out.cell 5 rfl; have q6 := HR4.out.cell 6 rfl; have q7 := HR4.out.cell 7 rfl; have q8 := HR4.out.cell 8 rfl; have q9 := HR4.out.cell 9 rfl; have q10 := HR4.out.cell 10 rfl; have p0 := HY4.out.cell 0 rfl; have p1 := HY4.out.cell 1 rfl; have p2 := HY4.out.cell 2 rfl; have p3 := HY4.out.cell 3 rfl
 have HK := Lib.hid (recCheck_any HSh.out R vp vs ve Y (.slice ta Y.tags.length tc) (.slice a Y.nodes.length c) w4 (HR.out.below HB4.out (Nat.le_refl _)) HN.out (HY.out.below HB4.out (Nat.le_refl _)))
 unfold recV at HK
 go_wp2_with fail
 refine HK.out.mono ?_
 clear HK
 rintro e w5 ⟨rfl, hb5⟩
 have HB5 := Lib.hid (below_trans HB4.out hb5 HB4.out.size)
 have HR5 := Lib.hid (HR4.out.stays hb5)
 have HY5 := Lib.hid (HY4.out.stays hb5)
 clear hb5 HR4 HY4 HB4 q0 q1 q2 q3 q4 q5 q6 q7 q8 q9 q10 p0 p1 p2 p3
 by_cases he : recErr R Y = 0
 rotate_left
 ·have heb : (recErr R Y != 0) = true := by simpa using he
  clear he
  go_wp2_with fail
  go_ret
  exact ⟨rfl, HB5.out⟩
 have HE := Lib.hid he
 rw [he]
 clear he
 have p2 := HY5.out.cell 2 rfl
 by_cases hn : nd < 0
 ·go_wp2_with fail
  go_ret
  exact ⟨rfl, HB5.out⟩
 obtain ⟨k, rfl⟩ : ∃ k : Nat, nd = (k : Int) := ⟨nd.toNat, by omega⟩
 by_cases hk : (Y.nodes.length : Int) ≤ (k : Int)
 ·go_wp2_with fail
  go_ret
  exact ⟨rfl, HB5.out⟩
 have hkl : k < Y.nodes.length := by omega
 go_upto_region 6 with (fail)
 refine wp_region_lit ?_
 refine wpList_load_box (by rfl) 26 (.tmp 3) (by rfl) bR (by rfl) HR5.out Tryz.underlying26 (by rfl) (by kernel_rfl) ?_
 refine wpList_load_box (by rfl) 30 (.tmp 4) (by rfl) bX (by rfl) HY5.out Tryz.underlying30 (by rfl) (by kernel_rfl) ?_
 have HPt := Lib.hid (Path_ok HSh.out R vp vs ve Y (.slice ta Y.tags.length tc) (.slice a Y.nodes.length c) k w5 (HR.out.below HB5.out (Nat.le_refl _)) HN.out (HY.out.below HB5.out (Nat.le_refl _)) HE.out hkl)
 unfold recV at HPt
 clear p2
 go_wp2_with fail
 refine HPt.out.mono ?_
 clear HPt
 rintro e w6 ⟨⟨wa, wc, rfl, hw6⟩, hb6⟩
 obtain ⟨W, hW⟩ : ∃ W, W = wayI Y.nodes (k : Int) := ⟨_, rfl⟩
 rw [← hW] at hw6 ⊢
 obtain ⟨hw1, hw2⟩ : W.length ≤ wc ∧ wc ≤ 9223372036854775807 := by obtain ⟨_, _, e, h1, h2⟩ := hw6.form; unfold maxLen at h2; cases e; omega
 have HWE := Lib.hid hW
 have HW6 := Lib.hid hw6
 have HB6 := Lib.hid (below_trans HB5.out hb6 HB5.out.size)
 have HY6 := Lib.hid (HY5.out.stays hb6)
 have HR6 := Lib.hid (HR5.out.stays hb6)
 clear hb6 HR5 HY5 HB5 hw6 hW
 have HPm := Lib.hid (Promote_any HSh.out R vp vs ve Y (.slice ta Y.tags.length tc) (.slice a Y.nodes.length c) k w6 (HR.out.below HB6.out (Nat.le_refl _)) HN.out (HY.out.below HB6.out (Nat.le_refl _)) HE.out hkl)
 unfold recV at HPm
 go_upto_region 7 with (fail)
 refine wp_region_lit ?_
 refine wpList_load_box (by rfl) 26 (.tmp 3) (by rfl) bR (by rfl) HR6.out Tryz.underlying26 (by rfl) (by kernel_rfl) ?_
 refine wpList_load_box (by rfl) 30 (.tmp 4) (by rfl) bX (by rfl) HY6.out Tryz.underlying30 (by rfl) (by kernel_rfl) ?_
 go_wp2_with fail
 refine HPm.out.mono ?_
 clear HPm
 rintro e w7 ⟨hb7, hres⟩
 have HB7 := Lib.hid (below_trans HB6.out hb7 HB6.out.size)
 have HR7 := Lib.hid (HR6.out.stays hb7)
 have HW7 := Lib.hid (HW6.out.below hb7 (Nat.le_refl _))
 clear hb7 HR6 HY6 HB6 HW6
 rcases hres with ⟨E, hE, hE0, rfl⟩ | ⟨hC0, vt7, vn7, rfl, hx7⟩
 ·obtain rfl : E = 2 := by rcases prom_err HE.out hkl with h | h <;> rw [h] at hE; exact absurd hE hE0; exact hE
  clear hE hE0
  have hnn : ((2 : Int) != 0) = true := by decide
  go_wp2_with fail
  go_ret
  exact ⟨rfl, HB7.out.alloc HB7.out.size _⟩
 have hF := main_facts HE.out hkl hC0
 obtain ⟨C, hC⟩ : ∃ C, C = promX Y k := ⟨_, rfl⟩
 rw [← hC, ← HWE.out] at hF
 rw [← hC] at hx7 hC0 ⊢
 clear hC
 obtain ⟨M, hM⟩ : ∃ M, M = firstL (trees C) := ⟨_, rfl⟩
 rw [← hM] at hF
 have HF := Lib.hid hF
 have HC0 := Lib.hid hC0
 obtain ⟨tya, tyc, rfl, hty1, hty2⟩ := hx7.1.form
 obtain ⟨nya, nyc, rfl, hny1, hny2⟩ := hx7.2.1.form
 unfold maxLen at hty2 hny2
 have HX7 := Lib.hid hx7
 have HM := Lib.hid hM
 have hWM : W.length ≤ M.length := by obtain ⟨t, ht⟩ := hF.way; rw [ht]; simp
 have HTk : Hid (M.take W.length = W) := Lib.hid (by obtain ⟨t, ht⟩ := hF.way; rw [ht]; exact List.take_left)
 clear hx7 hC0 hF hM
 rw [show recV C (.slice tya C.tags.length tyc) (.slice nya C.nodes.length nyc) = .agg #[.slice tya C.tags.length tyc, .string C.comment, .slice nya C.nodes.length nyc, .int .i64 C.result] from rfl]
 go_upto_region 10 with (fail)
 have hba : Below w7.heap.size w7 (w7.alloc (.cells #[.slice tya C.tags.length tyc, .string C.comment, .slice nya C.nodes.length nyc, .int .i64 C.result] 30)) := (Below.refl _ _).alloc (Nat.le_refl _) _
 have HC8 := Lib.hid (Box.new w7 [.slice tya C.tags.length tyc, .string C.comment, .slice nya C.nodes.length nyc, .int .i64 C.result] 30)
 obtain ⟨bc, hbc⟩ : ∃ bz, bz = w7.heap.size := ⟨_, rfl⟩
 rw [← hbc] at HC8 ⊢
 have HB8 := Lib.hid (below_trans HB7.out hba HB7.out.size)
 have HR8 := Lib.hid (HR7.out.stays hba)
 have HX8 := Lib.hid (HX7.out.below hba (Nat.le_refl _))
 have HW8 := Lib.hid (HW7.out.below hba (Nat.le_refl _))
 generalize (w7.alloc (.cells #[.slice tya C.tags.length tyc, .string C.comment, .slice nya C.nodes.length nyc, .int .i64 C.result] 30)) = w8 at *
 clear hba hbc HB7 HR7 HX7 HW7
 have HMn := Lib.hid (Main_ok HSh.out R vp vs ve C (.slice tya C.tags.length tyc) (.slice nya C.nodes.length nyc) w8 (HR.out.below HB8.out (Nat.le_refl _)) HN.out HX8.out HC0.out)
 unfold recV MainPost at HMn
 rw [HF.out.main] at HMn
 refine wp_region_lit ?_
 refine wpList_load_box (by rfl) 26 (.tmp 3) (by rfl) bR (by rfl) HR8.out Tryz.underlying26 (by rfl) (by kernel_rfl) ?_
 refine wpList_load_box (by rfl) 30 (.tmp 9) (by rfl) bc (by rfl) HC8.out Tryz.underlying30 (by rfl) (by kernel_rfl) ?_
 go_wp2_with fail
 refine HMn.out.mono ?_
 clear HMn
 rintro e w9 ⟨ma, mc, rfl, hm9, hb9⟩
 obtain ⟨hm1, hm2⟩ : M.length ≤ mc ∧ mc ≤ 9223372036854775807 := by obtain ⟨_, _, e, h1, h2⟩ := hm9.form; unfold maxLen at h2; cases e; omega
 have HM9 := Lib.hid hm9
 have HB9 := Lib.hid (below_trans HB8.out hb9 HB8.out.size)
 have HR9 := Lib.hid (HR8.out.stays hb9)
 have HC9 := Lib.hid (HC8.out.stays hb9)
 have HX9 := Lib.hid (HX8.out.below hb9 (Nat.le_refl _))
 have HW9 := Lib.hid (HW8.out.below hb9 (Nat.le_refl _))
 clear hb9 hm9 HB8 HR8 HC8 HX8 HW8
 have HPl := Lib.hid (Plain_ok HSh.out R vp vs ve C (.slice tya C.tags.length tyc) (.slice nya C.nodes.length nyc) w9 (HR.out.below HB9.out (Nat.le_refl _)) HN.out HX9.out HC0.out)
 unfold recV PlainPost at HPl
 go_upto_region 11 with (fail)
 refine wp_region_lit ?_
 refine wpList_load_box (by rfl) 26 (.tmp 3) (by rfl) bR (by rfl) HR9.out Tryz.underlying26 (by rfl) (by kernel_rfl) ?_
 refine wpList_load_box (by rfl) 30 (.tmp 9) (by rfl) bc (by rfl) HC9.out Tryz.underlying30 (by rfl) (by kernel_rfl) ?_
 go_wp2_with fail
 refine HPl.out.mono ?_
 clear HPl
 rintro e w10 ⟨vtz, vnz, rfl, hxz, hb10⟩
 obtain ⟨tza, tzc, rfl, htz1, htz2⟩ := hxz.1.form
 obtain ⟨nza, nzc, rfl, hnz1, hnz2⟩ := hxz.2.1.form
 unfold maxLen at htz2 hnz2
 have HXZ := Lib.hid hxz
 have HB10 := Lib.hid (below_trans HB9.out hb10 HB9.out.size)
 have HR10 := Lib.hid (HR9.out.stays hb10)
 have HM10 := Lib.hid (HM9.out.below hb10 (Nat.le_refl _))
 have HW10 := Lib.hid (HW9.out.below hb10 (Nat.le_refl _))
 clear hxz hb10 HB9 HR9 HC9 HX9 HW9 HM9
 rw [show recV (plainX C) (.slice tza (plainX C).tags.length tzc) (.slice nza (plainX C).nodes.length nzc) = .agg #[.slice tza (plainX C).tags.length tzc, .string (plainX C).comment, .slice nza (plainX C).nodes.length nzc, .int .i64 (plainX C).result] from rfl]
 go_upto_region 12 with (fail)
 have hba : Below w10.heap.size w10 (w10.alloc (.cells #[.slice tza (plainX C).tags.length tzc, .string (plainX C).comment, .slice nza (plainX C).nodes.length nzc, .int .i64 (plainX C).result] 30)) := (Below.refl _ _).alloc (Nat.le_refl _) _
 have HZ11 := Lib.hid (Box.new w10 [.slice tza (plainX C).tags.length tzc, .string (plainX C).comment, .slice nza (plainX C).nodes.length nzc, .int .i64 (plainX C).result] 30)
 obtain ⟨bz, hbz⟩ : ∃ bz, bz = w10.heap.size := ⟨_, rfl⟩
 rw [← hbz] at HZ11 ⊢
 have HB11 := Lib.hid (below_trans HB10.out hba HB10.out.size)
 have HR11 := Lib.hid (HR10.out.stays hba)
 have HXZ11 := Lib.hid (HXZ.out.below hba (Nat.le_refl _))
 have HM11 := Lib.hid (HM10.out.below hba (Nat.le_refl _))
 have HW11 := Lib.hid (HW10.out.below hba (Nat.le_refl _))
 generalize (w10.alloc (.cells #[.slice tza (plainX C).tags.length tzc, .string (plainX C).comment, .slice nza (plainX C).nodes.length nzc, .int .i64 (plainX C).result] 30)) = w11 at *
 clear hba hbz HB10 HR10 HXZ HM10 HW10
 have hWMi : ¬ ((M.length : Int) < (W.length : Int)) := by omega
 have hsl := fun w => run_take (P := Tryz.prog) (s := 3) Tryz.underlying43 (fun _ => by kernel_rfl) ma M.length mc W.length (by omega) w
 have hml : M.length ≤ 1000000 := by have h1 := HF.out.len; have h2 := (rec_nodes HF.out.sound).2.2; omega
 have HS1 := Lib.hid (sameLine_any (.slice ma W.length mc) (.slice wa W.length wc) (M.take W.length) W w11 (RdL.take HM11.out W.length hWM) HW11.out (by rw [List.length_take]; omega))
 rw [HTk.out] at HS1
 simp only [decide_true] at HS1
 go_wp2_with fail
 refine HS1.out.mono ?_
 clear HS1
 rintro e w12 ⟨rfl, hb12⟩
 have HB12 := Lib.hid (below_trans HB11.out hb12 HB11.out.size)
 have HR12 := Lib.hid (HR11.out.stays hb12)
 have HZ12 := Lib.hid (HZ11.out.stays hb12)
 have HXZ12 := Lib.hid (HXZ11.out.below hb12 (Nat.le_refl _))
 have HM12 := Lib.hid (HM11.out.below hb12 (Nat.le_refl _))
 clear hb12 HB11 HR11 HZ11 HXZ11 HM11 HW11 hsl
 go_upto_region 14 with (fail)
 have HMz := Lib.hid (Main_ok HSh.out R vp vs ve (plainX C) (.slice tza (plainX C).tags.length tzc) (.slice nza (plainX C).nodes.length nzc) w12 (HR.out.below HB12.out (Nat.le_refl _)) HN.out HXZ12.out HF.out.sound)
 unfold recV MainPost at HMz
 rw [HF.out.last] at HMz
 refine wp_region_lit ?_
 refine wpList_load_box (by rfl) 26 (.tmp 3) (by rfl) bR (by rfl) HR12.out Tryz.underlying26 (by rfl) (by kernel_rfl) ?_
 refine wpList_load_box (by rfl) 30 (.tmp 13) (by rfl) bz (by rfl) HZ12.out Tryz.underlying30 (by rfl) (by kernel_rfl) ?_
 go_wp2_with fail
 refine HMz.out.mono ?_
 clear HMz
 rintro e w13 ⟨lla, llc, rfl, hl13, hb13⟩
 obtain ⟨hl1, hl2⟩ : M.length ≤ llc ∧ llc ≤ 9223372036854775807 := by obtain ⟨_, _, e, h1, h2⟩ := hl13.form; unfold maxLen at h2; cases e; omega
 have HL13 := Lib.hid hl13
 have HB13 := Lib.hid (below_trans HB12.out hb13 HB12.out.size)
 have HR13 := Lib.hid (HR12.out.stays hb13)
 have HZ13 := Lib.hid (HZ12.out.stays hb13)
 have HXZ13 := Lib.hid (HXZ12.out.below hb13 (Nat.le_refl _))
 have HM13 := Lib.hid (HM12.out.below hb13 (Nat.le_refl _))
 clear hl13 hb13 HB12 HR12 HZ12 HXZ12 HM12
 have HLi := Lib.hid (Lines_ok HSh.out R vp vs ve (plainX C) (.slice tza (plainX C).tags.length tzc) (.slice nza (plainX C).nodes.length nzc) w13 (HR.out.below HB13.out (Nat.le_refl _)) HN.out HXZ13.out HF.out.sound HF.out.pos HF.out.kids)
 unfold recV at HLi
 go_upto_region 15 with (fail)
 refine wp_region_lit ?_
 refine wpList_load_box (by rfl) 26 (.tmp 3) (by rfl) bR (by rfl) HR13.out Tryz.underlying26 (by rfl) (by kernel_rfl) ?_
 refine wpList_load_box (by rfl) 30 (.tmp 13) (by rfl) bz (by rfl) HZ13.out Tryz.underlying30 (by rfl) (by kernel_rfl) ?_
 go_wp2_with fail
 refine HLi.out.mono ?_
 clear HLi
 rintro e w14 ⟨lia, lic, rfl, hb14⟩
 have HB14 := Lib.hid (below_trans HB13.out hb14 HB13.out.size)
 have HZ14 := Lib.hid (HZ13.out.stays hb14)
 have HM14 := Lib.hid (HM13.out.below hb14 (Nat.le_refl _))
 have HL14 := Lib.hid (HL13.out.below hb14 (Nat.le_refl _))
 clear hb14 HB13 HR13 HZ13 HXZ13 HM13 HL13
 have HS2 := Lib.hid (sameLine_any (.slice lla M.length llc) (.slice ma M.length mc) M M w14 HL14.out HM14.out hml)
 simp only [decide_true] at HS2
 go_wp2_with fail
 refine HS2.out.mono ?_
 clear HS2
 rintro e w15 ⟨rfl, hb15⟩
 have HB15 := Lib.hid (below_trans HB14.out hb15 HB14.out.size)
 have HZ15 := Lib.hid (HZ14.out.stays hb15)
 clear hb15 HB14 HZ14 HM14 HL14
 rw [HF.out.len] at HZ15
 have z2 := HZ15.out.cell 2 rfl
 have zl := HZ15.out.lt
 go_wp2_with fail
 go_ret
 exact ⟨rfl, HB15.out⟩
end Go.Proofs.YtnieifdogllbfaaGreat.annotateMain
namespace Go.Proofs.YtnieifdogllbfaaGreat
open Go.ChangeShapes Go.WideShapes Go.ChangeAt Go.RowKit
section
variable {H : Type} {enc : TypeId × Value → H} {P : Program} {W W' : World}
theorem trodAll_stays (hl : laidOutB P = true) (hb : Below W.heap.size W W') : ∀ {ts : List TypeId} {vs : List Value} {ds : List (DataW H)} {ps : List MemPlace},
  (ts.all fun t => P.readableRec t && decide (t < P.types.size)) = true → DataW.TrodAll enc P W 0 (fun _ => true) true ts vs ds ps →
  DataW.TrodAll enc P W' 0 (fun b => decide (b < W.heap.size)) true ts vs ds ps
 | [], [], [], _, _, h => h
 | t :: ts, v :: vs, d :: ds, ps, ht, ⟨p, q, h1, h2, e⟩ => by
  simp only [List.all_cons, Bool.and_eq_true, decide_eq_true_eq] at ht
  exact ⟨p, q, Below.trod hl ht.1.1 ht.1.2 h1 hb (by obtain ⟨m, hm⟩ := h1; exact DataW.trod_lt m _ _ _ hm), trodAll_stays hl hb ht.2 h2, e⟩
variable {r : Reach} {base : Nat} {t u : TypeId} {v : Value} {w : World}
theorem cell_slice {e : TypeId} (hu : P.underlying u = some (.slice e)) (h : Cell.okWide P w r base u v) : ∃ a len cap, v = .slice a len cap := by
 cases v <;> simp_all [Cell.okWide, Cell.ok]
/-- a struct by value: its cells, each of its own type. -/
theorem okWide_cells {fs : Array Field} {ts : List TypeId} (hs : P.underlying t = some (.struct fs)) (hts : P.cellTypes P.depth t = some ts) (hn : P.cellsOf t = ts.length)
  (h : Value.okWide P w r base t v) : ∃ cs : List Value, v = .agg cs.toArray ∧ cs.length = ts.length ∧ ∀ (i : Nat) (x : Value), cs[i]? = some x → ∃ u, ts[i]? = some u ∧ Cell.okWide P w r base u x := by
 simp only [Value.okWide, hs] at h
 obtain ⟨cs, rfl, hsz, ts', hts', _, hc⟩ := h
 rw [hts] at hts'
 cases hts'
 refine ⟨cs.toList, by simp, by simpa [hn] using hsz, fun i x hi => ?_⟩
 have hi' : cs[i]? = some x := by simpa using hi
 obtain ⟨u, hu, hx⟩ := hc i x hi'
 have hlt : i < ts.length := by
  have := (Array.getElem?_eq_some_iff.1 hi').1
  omega
 rw [Nat.mod_eq_of_lt hlt] at hu
 exact ⟨u, hu, hx⟩
end
end Go.Proofs.YtnieifdogllbfaaGreat
namespace Go.Proofs.YtnieifdogllbfaaGreat
open Go.ChangeShapes Go.WideShapes Go.ChangeAt Go.RowKit Go.Deep
set_option linter.unusedVariables false
set_option maxRecDepth 100000
section
variable {H : Type} {enc : TypeId × Value → H} {P : Program} {w : World}
theorem block_lt' {w : World} {p : Addr} {v : Value} (h : w.cell? p = some v) : p.block < w.heap.size := by
 rcases Nat.lt_or_ge p.block w.heap.size with hlt | hge
 ·exact hlt
 ·simp [World.cell?, Array.getElem?_eq_none hge] at h
theorem add_none' (b off n : Nat) : (⟨b, off, none⟩ : Addr).add n = ⟨b, off + n, none⟩ := by
 unfold Addr.add; split
 ·rename_i h; subst h; rfl
 ·rfl
/-- a slice whose elements are opened by hel. -/
theorem open_list {α : Type} (el : El α) {t e : TypeId} (hu : P.underlying t = some (.slice e)) (hC : P.cellsOf e = el.k) (hk : 0 < el.k)
  (hel : ∀ fuel cs y, DataW.trod enc P w 0 (fun _ => true) true fuel e cs = some y → ∃ x, el.E w x cs)
  {fuel : Nat} {cs : List Value} {y : DataW H × List MemPlace} (h : DataW.trod enc P w 0 (fun _ => true) true fuel t cs = some y) : ∃ v xs, cs = [v] ∧ RdL el w v xs := by
 rcases open_slice hu h with ⟨rfl, _⟩ | ⟨a, len, cap, m, n, D, Pl, rfl, hb, hl, hm, hmm, hx, hi⟩
 ·exact ⟨_, [], rfl, RdL.nil el w⟩
 ·simp only [if_true] at hmm
  obtain rfl : cap = m := hmm.symm
  by_cases h0 : len = 0
  ·subst h0
   exact ⟨_, [], rfl, .inl ⟨_, _, rfl, hm, rfl⟩⟩
  ·have hall : ∀ i : Fin len, ∃ x : α, ∃ cs', w.cells? 0 (a.add (i.1 * el.k)) el.k = some cs' ∧ el.E w x cs' := fun i => by
    obtain ⟨cs', h1, h2⟩ := hi i.1 (by omega)
    rw [hC] at h1
    obtain ⟨x, hx⟩ := hel _ _ _ h2
    exact ⟨x, cs', h1, hx⟩
   have hspot : a.spot = none ∧ a.block < w.heap.size := by
    obtain ⟨x, cs', h1, h2⟩ := hall ⟨0, by omega⟩
    have h3 := (World.cells?_some h1).2.2 0 hk
    have hl' := el.len h2
    rw [List.getElem?_eq_getElem (by omega)] at h3
    have h4 : w.cell? a = some cs'[0] := by simpa [Addr.add] using h3
    exact ⟨World.cell?_spot h4, block_lt' h4⟩
   obtain ⟨g, o, s⟩ := a
   obtain ⟨rfl, hg⟩ := hspot
   simp only at hg
   refine ⟨_, List.ofFn fun i => Classical.choose (hall i), rfl, .inr ⟨g, o, cap, by simp, by simpa using hl, hm, hg, fun i hi' => ?_⟩⟩
   have hi2 : i < len := by simpa using hi'
   obtain ⟨cs', h1, h2⟩ := Classical.choose_spec (hall ⟨i, hi2⟩)
   refine ⟨cs', by simpa using h2, fun j hj => ?_⟩
   have := (World.cells?_some h1).2.2 j hj
   rw [add_none', add_none'] at this
   exact this
theorem trod_flat {base : Nat} {spare : Nat → Bool} {held : Bool} {t : TypeId} {fs : Array Field} {fuel : Nat} {cs : List Value} {x : DataW H × List MemPlace} (ht : P.underlying t = some (.struct fs)) (h1 : oneCellFields P fs = true)
  (h : DataW.trod enc P w base spare held fuel t cs = some x) : ∃ (xs : List (DataW H × List MemPlace)) (n : Nat), cs.length = P.cellsOf t ∧ xs.length = fs.size ∧ ∀ (i : Nat) (f : Field), fs[i]? = some f → DataW.trod enc P w base spare held n f.type ((cs.drop i).take 1) = xs[i]? := by
 obtain ⟨xs, n, _, _, hl, hx, hf⟩ := DataW.trod_struct ht h
 refine ⟨xs, n, hl, hx, fun i f hi => ?_⟩
 obtain ⟨o, q⟩ := hone_of h1 i f hi
 have := hf i f hi
 rw [o, q] at this
 exact this
theorem four_cells {cs : List Value} (h : cs.length = 4) : ∃ a b c d, cs = [a, b, c, d] := by
 match cs, h with
 | [a, b, c, d], _ => exact ⟨a, b, c, d, rfl⟩
theorem three_cells {cs : List Value} (h : cs.length = 3) : ∃ a b c, cs = [a, b, c] := by
 match cs, h with
 | [a, b, c], _ => exact ⟨a, b, c, rfl⟩
theorem open_way (fuel : Nat) (cs : List Value) (y : DataW H × List MemPlace) (h : DataW.trod enc Tryz.prog w 0 (fun _ => true) true fuel 113 cs = some y) : ∃ x, wayEl.E w x cs := by
 obtain ⟨xs, n, hlen, hxl, hf⟩ := trod_flat Tryz.underlying113 (by kernel_rfl) h
 obtain ⟨a, b, c, d, rfl⟩ := four_cells (hlen.trans (by kernel_rfl))
 have hx : xs.length = 4 := hxl
 obtain ⟨y0, y1, y2, y3, rfl⟩ : ∃ a b c d, xs = [a, b, c, d] := by
  match xs, hx with
  | [a, b, c, d], _ => exact ⟨a, b, c, d, rfl⟩
 have f0 := hf 0 _ rfl
 have f1 := hf 1 _ rfl
 have f2 := hf 2 _ rfl
 have f3 := hf 3 _ rfl
 obtain ⟨n0, e0, -, -⟩ := DataW.trod_int Tryz.underlying3 f0
 obtain ⟨n1, e1, -, -⟩ := DataW.trod_int Tryz.underlying3 f1
 obtain ⟨n2, e2, -, -⟩ := DataW.trod_int Tryz.underlying3 f2
 obtain ⟨n3, e3, -, -⟩ := DataW.trod_int Tryz.underlying3 f3
 simp at e0 e1 e2 e3
 subst e0 e1 e2 e3
 exact ⟨⟨n0, n1, n2, n3⟩, rfl⟩
theorem open_piece (fuel : Nat) (cs : List Value) (y : DataW H × List MemPlace) (h : DataW.trod enc Tryz.prog w 0 (fun _ => true) true fuel 84 cs = some y) : ∃ x, pieceEl.E w x cs := by
 obtain ⟨xs, n, hlen, hxl, hf⟩ := trod_flat Tryz.underlying84 (by kernel_rfl) h
 obtain ⟨a, b, c, d, rfl⟩ := four_cells (hlen.trans (by kernel_rfl))
 have hx : xs.length = 4 := hxl
 obtain ⟨y0, y1, y2, y3, rfl⟩ : ∃ a b c d, xs = [a, b, c, d] := by
  match xs, hx with
  | [a, b, c, d], _ => exact ⟨a, b, c, d, rfl⟩
 have f0 := hf 0 _ rfl
 have f1 := hf 1 _ rfl
 have f2 := hf 2 _ rfl
 have f3 := hf 3 _ rfl
 obtain ⟨n0, e0, -, -⟩ := DataW.trod_int Tryz.underlying5 f0
 obtain ⟨n1, e1, -, -⟩ := DataW.trod_int Tryz.underlying3 f1
 obtain ⟨n2, e2, -, -⟩ := DataW.trod_int Tryz.underlying3 f2
 obtain ⟨v, ws, e3, hr⟩ := open_list wayEl Tryz.underlying82 (by kernel_rfl) (by decide) (open_way (enc := enc) (w := w)) f3
 simp at e0 e1 e2 e3
 subst e0 e1 e2 e3
 exact ⟨⟨n0, n1, n2, ws⟩, d, rfl, hr⟩
theorem open_end (fuel : Nat) (cs : List Value) (y : DataW H × List MemPlace) (h : DataW.trod enc Tryz.prog w 0 (fun _ => true) true fuel 86 cs = some y) : ∃ x, endEl.E w x cs := by
 obtain ⟨xs, n, hlen, hxl, hf⟩ := trod_flat Tryz.underlying86 (by kernel_rfl) h
 obtain ⟨a, b, c, d, rfl⟩ := four_cells (hlen.trans (by kernel_rfl))
 have hx : xs.length = 4 := hxl
 obtain ⟨y0, y1, y2, y3, rfl⟩ : ∃ a b c d, xs = [a, b, c, d] := by
  match xs, hx with
  | [a, b, c, d], _ => exact ⟨a, b, c, d, rfl⟩
 have f0 := hf 0 _ rfl
 have f1 := hf 1 _ rfl
 have f2 := hf 2 _ rfl
 have f3 := hf 3 _ rfl
 obtain ⟨n0, e0, -, -⟩ := DataW.trod_int Tryz.underlying3 f0
 obtain ⟨n1, e1, -, -⟩ := DataW.trod_int Tryz.underlying3 f1
 obtain ⟨n2, e2, -, -⟩ := DataW.trod_int Tryz.underlying3 f2
 obtain ⟨n3, e3, -⟩ := DataW.trod_bool Tryz.underlying4 f3
 simp at e0 e1 e2 e3
 subst e0 e1 e2 e3
 exact ⟨⟨n0, n1, n2, n3⟩, rfl⟩
theorem cellOk_spot {r : Reach} {base : Nat} {t e : TypeId} {v : Value} (hu : P.underlying t = some (.slice e)) (hv : Cell.okWide P w r base t v) : (∃ len cap, v = .slice none len cap) ∨ ∃ g o len cap, v = .slice (some ⟨g, o, none⟩) len cap := by
 obtain ⟨a, len, cap, rfl⟩ := cell_slice hu hv
 cases a with
 | none => exact .inl ⟨_, _, rfl⟩
 | some a =>
  obtain ⟨g, o, s⟩ := a
  simp [Cell.okWide, Cell.ok, hu] at hv
  have := hv.2.2.2.1
  subst this
  exact .inr ⟨g, o, _, _, rfl⟩
/-- a slice of integers in a cell. -/
theorem open_ints_cell {r : Reach} {base : Nat} {t e : TypeId} {v : Value} {fuel : Nat} {y : DataW H × List MemPlace} (hu : P.underlying t = some (.slice e)) (he : P.underlying e = some (.int .i64)) (hc : P.cellsOf e = 1)
  (hv : Cell.okWide P w r base t v) (h : DataW.trod enc P w 0 (fun _ => true) true fuel t [v] = some y) : ∃ zs, RdI w v zs := by
 rcases cellOk_spot hu hv with ⟨len, cap, rfl⟩ | ⟨g, o, len, cap, rfl⟩
 ·rcases open_ints hu he hc h with ⟨hcs, _⟩ | ⟨a, len', cap', zs, hcs, _⟩
  ·simp at hcs
   obtain ⟨rfl, rfl⟩ := hcs
   exact ⟨[], Rd.nil _ _⟩
  ·simp at hcs
 ·rcases open_ints hu he hc h with ⟨hcs, _⟩ | ⟨a, len', cap', zs, hcs, _, hl, hm, hz, _, hcell, hwz⟩
  ·simp at hcs
  ·simp at hcs
   obtain ⟨rfl, rfl, rfl⟩ := hcs
   simp only [if_true] at hz
   refine ⟨zs.take len, by simp [ints], .inr ⟨g, o, cap, by simp [hz, hl], by simp [hz, hl], hm, fun i hi => ?_⟩⟩
   have hi' : i < len := by simp at hi; omega
   have := hcell i (by omega)
   rw [add_none'] at this
   rw [this, ints_get _ i (by simp; omega)]
   congr 2
   simp [List.getD, hi']
theorem open_R {r : Reach} {base : Nat} {v : Value} {d : DataW H} {p : List MemPlace} (hv : Value.okWide Tryz.prog w r base 26 v) (h : DataW.Trod enc Tryz.prog w 0 (fun _ => true) true 26 v d p) :
  ∃ (R : RulesZ) (vp vs ve : Value), v = rulesV R vp vs ve ∧ RdR w R vp vs ve ∧ R.name.size ≤ maxLen := by
 obtain ⟨cs, rfl, hl, hcell⟩ := okWide_cells (ts := [9, 3, 3, 22, 23, 4, 4, 24, 3, 3, 3]) Tryz.underlying26 (by kernel_rfl) (by kernel_rfl) hv
 obtain ⟨fuel, hf⟩ := h
 simp only [Value.cells] at hf
 obtain ⟨xs, n, _, hxl, hf⟩ := trod_flat Tryz.underlying26 (by kernel_rfl) hf
 obtain ⟨k0, k1, k2, k3, k4, k5, k6, k7, k8, k9, k10, rfl⟩ : ∃ k0 k1 k2 k3 k4 k5 k6 k7 k8 k9 k10, cs = [k0, k1, k2, k3, k4, k5, k6, k7, k8, k9, k10] := by
  match cs, hl with
  | [k0, k1, k2, k3, k4, k5, k6, k7, k8, k9, k10], _ => exact ⟨k0, k1, k2, k3, k4, k5, k6, k7, k8, k9, k10, rfl⟩
 have hx : xs.length = 11 := hxl
 obtain ⟨y0, y1, y2, y3, y4, y5, y6, y7, y8, y9, y10, rfl⟩ : ∃ k0 k1 k2 k3 k4 k5 k6 k7 k8 k9 k10, xs = [k0, k1, k2, k3, k4, k5, k6, k7, k8, k9, k10] := by
  match xs, hx with
  | [k0, k1, k2, k3, k4, k5, k6, k7, k8, k9, k10], _ => exact ⟨k0, k1, k2, k3, k4, k5, k6, k7, k8, k9, k10, rfl⟩
 have ci : Tryz.prog.cellsOf 3 = 1 := by kernel_rfl
 have f0 := hf 0 _ rfl
 have f1 := hf 1 _ rfl
 have f2 := hf 2 _ rfl
 have f3 := hf 3 _ rfl
 have f4 := hf 4 _ rfl
 have f5 := hf 5 _ rfl
 have f6 := hf 6 _ rfl
 have f7 := hf 7 _ rfl
 have f8 := hf 8 _ rfl
 have f9 := hf 9 _ rfl
 have f10 := hf 10 _ rfl
 obtain ⟨s, e0, -, hs⟩ := DataW.trod_string Tryz.underlying9 f0
 obtain ⟨n1, e1, -, -⟩ := DataW.trod_int Tryz.underlying3 f1
 obtain ⟨n2, e2, -, -⟩ := DataW.trod_int Tryz.underlying3 f2
 obtain ⟨v3, ps, e3, hp⟩ := open_list pieceEl Tryz.underlying22 (by kernel_rfl) (by decide) (open_piece (enc := enc) (w := w)) f3
 obtain ⟨b5, e5, -⟩ := DataW.trod_bool Tryz.underlying4 f5
 obtain ⟨b6, e6, -⟩ := DataW.trod_bool Tryz.underlying4 f6
 obtain ⟨v7, es, e7, he⟩ := open_list endEl Tryz.underlying24 (by kernel_rfl) (by decide) (open_end (enc := enc) (w := w)) f7
 obtain ⟨n8, e8, -, -⟩ := DataW.trod_int Tryz.underlying3 f8
 obtain ⟨n9, e9, -, -⟩ := DataW.trod_int Tryz.underlying3 f9
 obtain ⟨n10, e10, -, -⟩ := DataW.trod_int Tryz.underlying3 f10
 simp at e0 e1 e2 e3 e5 e6 e7 e8 e9 e10
 subst e0 e1 e2 e3 e5 e6 e7 e8 e9 e10
 obtain ⟨u, hu, hc4⟩ := hcell 4 k4 rfl
 simp at hu
 subst hu
 obtain ⟨zs, hz⟩ := open_ints_cell Tryz.underlying23 Tryz.underlying3 ci hc4 (by simpa using f4)
 exact ⟨⟨s, n1, n2, ps, zs, b5, b6, es, n8, n9, n10⟩, k3, k4, k7, rfl, ⟨hp, hz, he⟩, hs⟩
end
end Go.Proofs.YtnieifdogllbfaaGreat
namespace Go.Proofs.YtnieifdogllbfaaGreat
open Go.ChangeShapes Go.WideShapes Go.ChangeAt Go.RowKit Go.Deep
set_option linter.unusedVariables false
section
variable {H : Type} {enc : TypeId × Value → H} {w : World}
set_option maxRecDepth 100000 in
theorem open_move (fuel : Nat) (cs : List Value) (y : DataW H × List MemPlace) (h : DataW.trod enc Tryz.prog w 0 (fun _ => true) true fuel 68 cs = some y) : ∃ x, moveEl.E w x cs := by
 obtain ⟨xs, n, hlen, hxl, hf⟩ := trod_flat Tryz.underlying68 (by kernel_rfl) h
 obtain ⟨a, b, c, rfl⟩ := three_cells (hlen.trans (by kernel_rfl))
 have hx : xs.length = 3 := hxl
 obtain ⟨y0, y1, y2, rfl⟩ : ∃ a b c, xs = [a, b, c] := by
  match xs, hx with
  | [a, b, c], _ => exact ⟨a, b, c, rfl⟩
 have f0 := hf 0 _ rfl
 have f1 := hf 1 _ rfl
 have f2 := hf 2 _ rfl
 obtain ⟨n0, e0, -, -⟩ := DataW.trod_int Tryz.underlying3 f0
 obtain ⟨n1, e1, -, -⟩ := DataW.trod_int Tryz.underlying3 f1
 obtain ⟨n2, e2, -, -⟩ := DataW.trod_int Tryz.underlying3 f2
 simp at e0 e1 e2
 subst e0 e1 e2
 exact ⟨⟨n0, n1, n2⟩, rfl⟩
end
end Go.Proofs.YtnieifdogllbfaaGreat
