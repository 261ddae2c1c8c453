/- AnX, AnY, AnZ, An1, An2, AnEq, RwF, RwX. -/
import Derived.Test.YthklhndcdijneaaGreatDoorC35
import Derived.Test.YthklhndcdijneaaGreatDoorC04
import Derived.BigQuiet
import Derived.Deep.Cut
import Derived.Deep.CutRange
import Derived.Deep.QuietTactic
import Derived.Test.YthklhndcdijneaaGreatDoorC32
import Derived.Test.YthklhndcdijneaaGreatDoorC09
import Derived.Test.YthklhndcdijneaaGreatDoorC30
import Derived.Laws.IdiomStrings
namespace Go.Proofs.YthklhndcdijneaaGreatDoor
open Go.ChangeShapes Go.WideShapes Go.ChangeAt Go.RowKit
set_option linter.unusedVariables false
end Go.Proofs.YthklhndcdijneaaGreatDoor
namespace Go.Proofs.YthklhndcdijneaaGreatDoor
open Go.ChangeShapes Go.WideShapes Go.ChangeAt Go.RowKit
set_option linter.unusedVariables false
end Go.Proofs.YthklhndcdijneaaGreatDoor
namespace Go.Proofs.YthklhndcdijneaaGreatDoor
open Go.ChangeShapes Go.WideShapes Go.ChangeAt Go.RowKit
set_option linter.unusedVariables false
set_option maxHeartbeats 2000000
/-- a record of its own. -/
structure OwnX (base : Nat) (w : World) (X : RecZ) (vt vn : Value) : Prop where
 tags : ∃ ts, w.ownsRow base 58 2 vt X.tags.length ts ∧ ∀ i (h : i < X.tags.length), tagEl.E w X.tags[i] ((ts.drop (i * 2)).take 2)
 nodes : w.ownsRow base 46 5 vn X.nodes.length (flatN X.nodes)
 sz : ∀ x ∈ X.nodes, x.comment.size ≤ maxLen
 cs : X.comment.size ≤ maxLen
theorem OwnX.rd {base : Nat} {w : World} {X : RecZ} {vt vn : Value} (h : OwnX base w X vt vn) : RdX w X vt vn := by
 obtain ⟨ts, h1, h2⟩ := h.tags
 exact ⟨ClonedPost.rd (el := tagEl) h1 h2, rdN_of_own h.nodes h.sz, h.cs⟩
theorem OwnX.lt {base : Nat} {w : World} {X : RecZ} {vt vn : Value} (h : OwnX base w X vt vn) (g : Nat) (hg : vt.ownBlock = some g ∨ vn.ownBlock = some g) : base ≤ g ∧ g < w.heap.size := by
 obtain ⟨ts, h1, -⟩ := h.tags
 rcases hg with hg | hg
 ·exact h1.lt g hg
 ·exact h.nodes.lt g hg
theorem OwnX.move {base : Nat} {w w' : World} {X : RecZ} {vt vn : Value} (h : OwnX base w X vt vn) (hm : ∀ g, g < w.heap.size → (vt.ownBlock = some g ∨ vn.ownBlock = some g) → w'.heap[g]? = w.heap[g]?) : OwnX base w' X vt vn := by
 obtain ⟨ts, h1, h2⟩ := h.tags
 exact ⟨⟨ts, own_of_block h1 (fun g hg => hm g (h1.lt g hg).2 (.inl hg)), h2⟩, own_of_block h.nodes (fun g hg => hm g (h.nodes.lt g hg).2 (.inr hg)), h.sz, h.cs⟩
set_option maxRecDepth 100000
end Go.Proofs.YthklhndcdijneaaGreatDoor
namespace Go.Proofs.YthklhndcdijneaaGreatDoor
open Go.ChangeShapes Go.WideShapes Go.ChangeAt Go.RowKit
set_option linter.unusedVariables false
set_option maxRecDepth 100000
set_option maxHeartbeats 8000000
end Go.Proofs.YthklhndcdijneaaGreatDoor
namespace Go.Proofs.YthklhndcdijneaaGreatDoor
open Go.ChangeShapes Go.WideShapes Go.ChangeAt Go.RowKit
set_option linter.unusedVariables false
theorem OwnX.mono {b b' : Nat} {w : World} {X : RecZ} {vt vn : Value} (h : OwnX b w X vt vn) (hb : b' ≤ b) : OwnX b' w X vt vn := by
 obtain ⟨ts, h1, h2⟩ := h.tags
 exact ⟨⟨ts, own_base h1 hb, h2⟩, own_base h.nodes hb, h.sz, h.cs⟩
/-- the state behind with: the parameters' boxes and the record that is made. -/
structure MSt (cR cX cY : List Value) (bR bX bY bO bo : Nat) (w wx : World) (Z : RecZ) (vt vn : Value) : Prop where
 old : Below w.heap.size w wx
 hR : Box wx bR cR 26
 hX : Box wx bX cX 30
 hY : Box wx bY cY 30
 hO : Box wx bO [.slice none 0 0, .string ⟨#[]⟩, .slice none 0 0, .int .i64 0] 30
 ho : Box wx bo [vt, .string Z.comment, vn, .int .i64 Z.result] 30
 own : OwnX w.heap.size wx Z vt vn
 lo : w.heap.size ≤ bo ∧ bR ≠ bo ∧ bX ≠ bo ∧ bY ≠ bo ∧ bO ≠ bo
 ne : ∀ g, (vt.ownBlock = some g ∨ vn.ownBlock = some g) → g ≠ bo ∧ bO < g
section
variable {cR cX cY : List Value} {bR bX bY bO bo : Nat} {w wx wy : World} {Z : RecZ} {vt vn : Value}
theorem MSt.stays (h : MSt cR cX cY bR bX bY bO bo w wx Z vt vn) (hb : Below wx.heap.size wx wy) : MSt cR cX cY bR bX bY bO bo w wy Z vt vn :=
 ⟨below_trans h.old hb h.old.size, h.hR.stays hb, h.hX.stays hb, h.hY.stays hb, h.hO.stays hb, h.ho.stays hb, h.own.move (fun g hg _ => hb.block g hg), h.lo, h.ne⟩
theorem MSt.cmt (h : MSt cR cX cY bR bX bY bO bo w wx Z vt vn) (c : ByteArray) (hc : c.size ≤ maxLen) : MSt cR cX cY bR bX bY bO bo w (wx.setCell ⟨bo, 1, none⟩ (.string c)) { Z with comment := c } vt vn :=
 ⟨h.old.setCell h.lo.1 _, h.hR.far _ _ h.lo.2.1, h.hX.far _ _ h.lo.2.2.1, h.hY.far _ _ h.lo.2.2.2.1, h.hO.far _ _ h.lo.2.2.2.2, h.ho.set 1 _,
  { (h.own.move (w' := wx.setCell ⟨bo, 1, none⟩ (.string c)) (fun g _ hg => Below.heap_setCell wx ⟨bo, 1, none⟩ _ g (h.ne g hg).1)) with cs := hc }, h.lo, h.ne⟩
end
set_option maxRecDepth 100000
set_option maxHeartbeats 16000000
end Go.Proofs.YthklhndcdijneaaGreatDoor
namespace Go.Proofs.YthklhndcdijneaaGreatDoor
open Go.ChangeShapes Go.WideShapes Go.ChangeAt Go.RowKit
set_option linter.unusedVariables false
theorem eqTg (k v : ByteArray) (w : World) : (binOp .eql 58 (.agg #[.string k, .string v]) (.agg #[.string k, .string v])).run Tryz.prog w = .ok (.bool true) w := by
 have u3 := Tryz.underlying9
 have a3 := Tryz.isAgg9
 have z3 := Tryz.sizeOf9
 have hS : Tryz.prog.underlying 58 = some (.struct (Tryz.prog.fieldsOf 58)) := by kernel_rfl
 have hp : Tryz.prog.stoodInHeld 58 = false := by kernel_rfl
 rw [run_eql_struct, show (10000 : Nat) = 9999 + 1 from rfl, run_equalIn_agg w 9999 58 _ _ hS hp]
 simp only [Program.fieldsOf, Tryz.underlying58]
 go_simp
theorem eqMv (d : Nat) (x : MoveZ) (w : World) : (Op.equalIn (d + 1 + 1) 44 (.agg #[.int .i64 x.src, .int .i64 x.dst, .int .i64 x.piece]) (.agg #[.int .i64 x.src, .int .i64 x.dst, .int .i64 x.piece])).run Tryz.prog w = .ok true w := by
 have u3 := Tryz.underlying3
 have a3 := Tryz.isAgg3
 have z3 := Tryz.sizeOf3
 have hS : Tryz.prog.underlying 44 = some (.struct (Tryz.prog.fieldsOf 44)) := by kernel_rfl
 have hp : Tryz.prog.stoodInHeld 44 = false := by kernel_rfl
 rw [run_equalIn_agg w (d + 1) 44 _ _ hS hp]
 simp only [Program.fieldsOf, Tryz.underlying44]
 go_simp
theorem eqNd (x : NodeZ) (w : World) : (binOp .eql 46 (.agg #[.int .i64 x.parent, .int .i64 x.m.src, .int .i64 x.m.dst, .int .i64 x.m.piece, .string x.comment]) (.agg #[.int .i64 x.parent, .int .i64 x.m.src, .int .i64 x.m.dst, .int .i64 x.m.piece, .string x.comment])).run Tryz.prog w = .ok (.bool true) w := by
 have u3 := Tryz.underlying3
 have a3 := Tryz.isAgg3
 have z3 := Tryz.sizeOf3
 have u4 := Tryz.underlying9
 have a4 := Tryz.isAgg9
 have z4 := Tryz.sizeOf9
 have a5 := Tryz.isAgg44
 have z5 := Tryz.sizeOf44
 have e1 := fun w => eqMv 9997 x.m w
 have hS : Tryz.prog.underlying 46 = some (.struct (Tryz.prog.fieldsOf 46)) := by kernel_rfl
 have hp : Tryz.prog.stoodInHeld 46 = false := by kernel_rfl
 rw [run_eql_struct, show (10000 : Nat) = 9999 + 1 from rfl, run_equalIn_agg w 9999 46 _ _ hS hp]
 simp only [Program.fieldsOf, Tryz.underlying46]
 go_simp
theorem neq_of {t : TypeId} {a b : Array Value} {w : World} (h : (binOp .eql t (.agg a) (.agg b)).run Tryz.prog w = .ok (.bool true) w) : (binOp .neq t (.agg a) (.agg b)).run Tryz.prog w = .ok (.bool false) w := by
 rw [run_eql_struct] at h
 rw [run_neq_struct]
 cases hh : (Op.equalIn 10000 t (.agg a) (.agg b)).run Tryz.prog w with
 | ok b w' => rw [hh] at h; simp only [Result.andThen_ok, Result.ok.injEq, Value.bool.injEq] at h ⊢; exact ⟨by rw [h.1]; rfl, h.2⟩
 | _ => rw [hh] at h; simp [Result.andThen] at h
set_option maxRecDepth 100000 in
set_option maxHeartbeats 8000000 in
theorem sameRec_any (X : RecZ) (vt vn vt' vn' : Value) (w : World) (hx : RdX w X vt vn) (hy : RdX w X vt' vn') :
  Calls Tryz.prog 12 #[recV X vt vn, recV X vt' vn'] w fun e w' => e = .returned (.bool true) ∧ Below w.heap.size w w' := by
 have HX := Lib.hid hx
 have HY := Lib.hid hy
 obtain ⟨na, nc, rfl, hn1, hn2⟩ := hx.2.1.form
 obtain ⟨ta, tc, rfl, ht1, ht2⟩ := hx.1.form
 obtain ⟨ma, mc, rfl, hm1, hm2⟩ := hy.2.1.form
 obtain ⟨ua, uc, rfl, hu1, hu2⟩ := hy.1.form
 unfold maxLen at hn2 ht2 hm2 hu2
 clear hx hy
 unfold recV
 go_enter Tryz.func12, Tryz.ntmps12
 go_upto_region 1 with (fail)
 refine opn2 ?_
 intro w0 xbX xbY hB0 hS0
 have HB := Lib.hid hB0
 obtain ⟨bY, hbY⟩ : ∃ bY, bY = w.heap.size + 1 := ⟨_, rfl⟩
 rw [← hbY] at xbY ⊢
 obtain ⟨bX, hbX⟩ : ∃ bX, bX = w.heap.size := ⟨_, rfl⟩
 rw [← hbX] at xbX ⊢
 have hbX1 : w.heap.size ≤ bX := by omega
 have HbX := Lib.hid xbX
 have hbY1 : w.heap.size ≤ bY := by omega
 have hbXbY : bX < bY := by omega
 have HbY := Lib.hid xbY
 have hS : bY < w0.heap.size := by omega
 clear hB0 hS0 xbX hbX xbY hbY
 have x0 := HbX.out.cell 0 rfl
 have x1 := HbX.out.cell 1 rfl
 have x2 := HbX.out.cell 2 rfl
 have x3 := HbX.out.cell 3 rfl
 have y0 := HbY.out.cell 0 rfl
 have y1 := HbY.out.cell 1 rfl
 have y2 := HbY.out.cell 2 rfl
 have y3 := HbY.out.cell 3 rfl
 have xl := HbX.out.lt
 have yl := HbY.out.lt
 go_wp2_with fail
 clear x0 x1 x2 x3 y0 y1 y2 y3 xl yl
 go_loopw [40] (fun v40 wr => ∃ k : Nat, v40 = .int .i64 k ∧ k ≤ X.tags.length ∧ Hid (Below w.heap.size w wr) ∧ Hid (Box wr bX [.slice ta X.tags.length tc, .string X.comment, .slice na X.nodes.length nc, .int .i64 X.result] 30) ∧ Hid (Box wr bY [.slice ua X.tags.length uc, .string X.comment, .slice ma X.nodes.length mc, .int .i64 X.result] 30)) (fun v _ => X.tags.length - (intOf v).toNat)
 case atStart => exact ⟨0, rfl, Nat.zero_le _, HB, HbX, HbY⟩
 case round =>
  obtain ⟨k, rfl, hk, HBr, HXr, HYr⟩ := hrel
  clear HB HbX HbY hS w0
  have xl := HXr.out.lt
  have yl := HYr.out.lt
  by_cases hlt : (k : Int) < (X.tags.length : Int)
  ·have x0 := HXr.out.cell 0 rfl
   have y0 := HYr.out.cell 0 rfl
   obtain ⟨g, o, rfl, hg, hc⟩ := tags_some HX.out.1 (by omega)
   obtain ⟨e0, e1, -, -⟩ := hc k (by omega)
   obtain ⟨g', o', rfl, hg', hc'⟩ := tags_some HY.out.1 (by omega)
   obtain ⟨e0', e1', -, -⟩ := hc' k (by omega)
   have c0 := (HBr.out.cell (p := ⟨g, o + k * 2, none⟩) hg).trans e0
   have c1 := (HBr.out.cell (p := ⟨g, o + k * 2 + 1, none⟩) hg).trans e1
   have c0' := (HBr.out.cell (p := ⟨g', o' + k * 2, none⟩) hg').trans e0'
   have c1' := (HBr.out.cell (p := ⟨g', o' + k * 2 + 1, none⟩) hg').trans e1'
   have hgr : g < wr.heap.size := by have := HBr.out.size; omega
   have hgr' : g' < wr.heap.size := by have := HBr.out.size; omega
   clear hc e0 e1 hc' e0' e1'
   generalize (X.tags.getD k default).key = ky at *
   generalize (X.tags.getD k default).value = kvv at *
   have hne := fun w => neq_of (eqTg ky kvv w)
   go_wp2_with fail
   go_quiet (fail)
   have HBq := Lib.hid (below_drewN HBr.out nq)
   have HXq := Lib.hid (HXr.out.drewN nq)
   have HYq := Lib.hid (HYr.out.drewN nq)
   generalize wr.drewN nq = W at *
   go_wp2_with fail
   go_roundw
   case rel => exact ⟨k + 1, by go_num, by omega, HBq, HXq, HYq⟩
   case measure => simp [intOf]; omega
  ·have hkk : k = X.tags.length := by omega
   clear hkk hk
   have x2 := HXr.out.cell 2 rfl
   go_wp2_with fail
   clear hlt
   obtain ⟨wA, rfl⟩ : ∃ wA : World, wA = wr := ⟨_, rfl⟩
   go_loopw [58] (fun v58 wr => ∃ k : Nat, v58 = .int .i64 k ∧ k ≤ X.nodes.length ∧ Hid (Below w.heap.size w wr) ∧ Hid (Box wr bX [.slice ta X.tags.length tc, .string X.comment, .slice na X.nodes.length nc, .int .i64 X.result] 30) ∧ Hid (Box wr bY [.slice ua X.tags.length uc, .string X.comment, .slice ma X.nodes.length mc, .int .i64 X.result] 30)) (fun v _ => X.nodes.length - (intOf v).toNat)
   case atStart => exact ⟨0, rfl, Nat.zero_le _, HBr, HXr, HYr⟩
   case round =>
    obtain ⟨k, rfl, hk, HBr, HXr, HYr⟩ := hrel
    clear x2
    have xl := HXr.out.lt
    have yl := HYr.out.lt
    by_cases hlt : (k : Int) < (X.nodes.length : Int)
    ·have x2 := HXr.out.cell 2 rfl
     have y2 := HYr.out.cell 2 rfl
     obtain ⟨g, o, rfl, hg, hc⟩ := nodes_some HX.out.2.1 (by omega)
     obtain ⟨e0, e1, e2, e3, e4, -⟩ := hc k (by omega)
     obtain ⟨g', o', rfl, hg', hc'⟩ := nodes_some HY.out.2.1 (by omega)
     obtain ⟨e0', e1', e2', e3', e4', -⟩ := hc' k (by omega)
     have c0 := (HBr.out.cell (p := ⟨g, o + k * 5, none⟩) hg).trans e0
     have c0' := (HBr.out.cell (p := ⟨g', o' + k * 5, none⟩) hg').trans e0'
     have c1 := (HBr.out.cell (p := ⟨g, o + k * 5 + 1, none⟩) hg).trans e1
     have c1' := (HBr.out.cell (p := ⟨g', o' + k * 5 + 1, none⟩) hg').trans e1'
     have c2 := (HBr.out.cell (p := ⟨g, o + k * 5 + 2, none⟩) hg).trans e2
     have c2' := (HBr.out.cell (p := ⟨g', o' + k * 5 + 2, none⟩) hg').trans e2'
     have c3 := (HBr.out.cell (p := ⟨g, o + k * 5 + 3, none⟩) hg).trans e3
     have c3' := (HBr.out.cell (p := ⟨g', o' + k * 5 + 3, none⟩) hg').trans e3'
     have c4 := (HBr.out.cell (p := ⟨g, o + k * 5 + 4, none⟩) hg).trans e4
     have c4' := (HBr.out.cell (p := ⟨g', o' + k * 5 + 4, none⟩) hg').trans e4'
     have hgr : g < wr.heap.size := by have := HBr.out.size; omega
     have hgr' : g' < wr.heap.size := by have := HBr.out.size; omega
     clear hc e0 e1 e2 e3 e4 hc' e0' e1' e2' e3' e4'
     have hne := fun w => neq_of (eqNd (ndAt X.nodes k) w)
     generalize (ndAt X.nodes k) = nd at *
     go_wp2_with fail
     go_quiet (fail)
     have HBq := Lib.hid (below_drewN HBr.out nq)
     have HXq := Lib.hid (HXr.out.drewN nq)
     have HYq := Lib.hid (HYr.out.drewN nq)
     generalize wr.drewN nq = W at *
     go_wp2_with fail
     go_roundw
     case rel => exact ⟨k + 1, by go_num, by omega, HBq, HXq, HYq⟩
     case measure => simp [intOf]; omega
    ·go_wp2_with fail
     go_ret
     exact ⟨rfl, HBr.out⟩
end Go.Proofs.YthklhndcdijneaaGreatDoor
namespace Go.Proofs.YthklhndcdijneaaGreatDoor
open Go.ChangeShapes Go.WideShapes Go.ChangeAt Go.RowKit
set_option linter.unusedVariables false
/-- a sound record in own rows may be read. -/
theorem rdX_own {R : RulesZ} {X : RecZ} {w : World} {B : Nat} {vt vn : Value} (h : recErr R X = 0) (h1 : w.ownsRow B 58 2 vt X.tags.length (flatTg X.tags)) (h2 : w.ownsRow B tNd 5 vn X.nodes.length (flatN X.nodes)) : RdX w X vt vn := by
 obtain ⟨c1, c2, c3, c4, c5⟩ := rec_cmt h
 refine ⟨rdTg_of_own h1 (fun t ht => ?_), rdN_of_own h2 (fun t ht => ?_), by have := cmt_sz c4; unfold maxLen; omega⟩
 ·obtain ⟨i, hi, e⟩ := List.mem_iff_getElem.1 ht
  have := tags_sz c2 i hi
  rw [List.getD_eq_getElem?_getD, List.getElem?_eq_getElem hi, Option.getD_some, e] at this
  unfold maxLen; omega
 ·obtain ⟨i, hi, e⟩ := List.mem_iff_getElem.1 ht
  have := cmt_sz (c1 i hi)
  have e2 : ndAt X.nodes i = t := by unfold ndAt; rw [List.getD_eq_getElem?_getD, List.getElem?_eq_getElem hi]; exact e
  rw [e2] at this
  unfold maxLen; omega
/-- what Read hands back of a text that is read to a sound record. -/
def RdOk (R : RulesZ) (X : RecZ) (w : World) (e : Ending) (w' : World) : Prop := Below w.heap.size w w' ∧ ∃ ga gc fa fc, e = .returned (.tuple #[.agg #[.slice ga X.tags.length gc, .string X.comment, .slice fa X.nodes.length fc, .int .i64 X.result], .int .i64 0]) ∧ RdX w' X (.slice ga X.tags.length gc) (.slice fa X.nodes.length fc)
theorem rdPost_ok {R : RulesZ} {X : RecZ} {w : World} {o : Except Int RecZ} {e : Ending} {w' : World} (hE : recErr R X = 0) (ho : o = .ok X) (h : rdPost R w o e w') : RdOk R X w e w' := by
 subst ho
 obtain ⟨hb, vt, vn, he, h1, h2⟩ := h
 obtain ⟨ga, gc, rfl⟩ := own_form2 h1
 obtain ⟨fa, fc, rfl⟩ := own_form2 h2
 exact ⟨hb, ga, gc, fa, fc, he, rdX_own hE h1 h2⟩
/-- the text of a record is read to the record. -/
theorem readR_text {R : RulesZ} {X : RecZ} (hE : recErr R X = 0) (hz : (textB R X).length ≤ 8192) : readR R (bs (textB R X)) = .ok X := by
 unfold readR
 rw [if_neg (by simp [(rec_nodes hE).1]), if_neg (by rw [bs_size]; omega), bt_bs, text_read hE]
 dsimp only
 rw [if_neg (by simp [hE])]
theorem rtext_err {R : RulesZ} {X : RecZ} (hE : recErr R X = 0) : (rtextErr R X = 2 ∧ rtextZ R X = ⟨#[]⟩) ∨ (rtextErr R X = 0 ∧ rtextZ R X = bs (textB R X) ∧ (textB R X).length ≤ 8192) := by
 have e : rtextErr R X = if 8192 < (textB R X).length then 2 else 0 := by unfold rtextErr; rw [if_neg (by simp [hE])]
 by_cases h : 8192 < (textB R X).length
 ·rw [if_pos h] at e
  exact .inl ⟨e, by unfold rtextZ; rw [e, if_neg (by decide)]⟩
 ·rw [if_neg h] at e
  exact .inr ⟨e, by unfold rtextZ; rw [e, if_pos rfl], by omega⟩
end Go.Proofs.YthklhndcdijneaaGreatDoor
namespace Go.Proofs.YthklhndcdijneaaGreatDoor
open Go.ChangeShapes Go.WideShapes Go.ChangeAt Go.RowKit
set_option linter.unusedVariables false
theorem spaces_read {R : RulesZ} {X : RecZ} (h : recErr R X = 0) (ht : X.tags = []) (hc : X.comment.size = 0) (hn : ∀ x ∈ X.nodes, x.comment.size = 0) : rRead R (expL (textB R X)) = .ok X := by
 have hr := ren_text h
 have e0 : textB R X = joinB (partsX R X) ++ [10] := by unfold textB; rw [ht]; rfl
 rw [← e0] at hr
 have h2 := exp_ren hr (lexX_cmts h hc hn)
 obtain ⟨s, e, hs⟩ := tags_none h h2 (expL (textB R X)).length
 unfold rRead
 rw [e]
 dsimp only
 rw [body_read h hs]
 dsimp only
 have hf : flatL (trees X) (-1) [] = X.nodes := flat_rec h
 rw [hf]
 obtain ⟨t, c, n, r⟩ := X
 obtain rfl : t = [] := ht
 rfl
theorem spaces_readR {R : RulesZ} {X : RecZ} (h : recErr R X = 0) (ht : X.tags = []) (hc : X.comment.size = 0) (hn : ∀ x ∈ X.nodes, x.comment.size = 0) (hz : (expL (textB R X)).length ≤ 8192) : readR R (bs (expL (textB R X))) = .ok X := by
 unfold readR
 rw [if_neg (by simp [(rec_nodes h).1]), if_neg (by rw [bs_size]; omega), bt_bs, spaces_read h ht hc hn]
 dsimp only
 rw [if_neg (by simp [h])]
theorem expL_app (a b : Byt) : expL (a ++ b) = expL a ++ expL b := by unfold expL; rw [List.flatMap_append]
theorem expL_one (c : UInt8) : expL [c] = expB c := by unfold expL; simp
theorem expL_len : ∀ l : Byt, (expL l).length ≤ 3 * l.length
 | [] => Nat.le_refl _
 | c :: l => by
  have h1 := expL_len l
  have h2 : (expB c).length ≤ 3 := by unfold expB; split <;> simp
  have e : expL (c :: l) = expB c ++ expL l := by unfold expL; rw [List.flatMap_cons]
  rw [e, List.length_append, List.length_cons]; omega
theorem infoU8 : (Tryz.prog.info? 5).map (fun i => (i.zero, i.size, i.bytes)) = some (some (.int .u8 0), 1, 1) := by kernel_rfl
theorem byteCells_one' (l : Byt) : ∀ u ∈ Lib.byteCells l, u.oneCell' = true := by
 intro u hu
 obtain ⟨x, -, rfl⟩ := List.mem_map.1 hu
 rfl
theorem app_bytes {W : World} {ops : Array Oper} {rest : List Oper} {o : Oper} {a : Act} {Q : Exit → Act → World → Prop} (hgd : o.guard = none) (s x : Operand)
  (ho : o.op = .call { callee := .builtin .append, args := #[s, x], argTypes := #[47, 47] })
  (base : Nat) (v : Value) (xs : Byt) (hs : a.eval s = v) (hown : W.ownsRow base 5 1 v xs.length (Lib.byteCells xs)) (ys : Byt) (news : List Value) (hnw : Lib.byteCells ys = news) (m : Nat) (hm : ys.length = m)
  (hx : a.eval x = .slice (some ⟨W.heap.size, 0, none⟩) m m) (hlen : xs.length + ys.length ≤ 1000000) (hbase : base ≤ W.heap.size)
  (h : ∀ v' w', w'.ownsRow base 5 1 v' (xs ++ ys).length (Lib.byteCells (xs ++ ys)) → (W.alloc (.cells news.toArray 5)).grownBy w' v.ownBlock → wpList Tryz.prog ops Q rest (a.put o.dst v') w') : wpList Tryz.prog ops Q (o :: rest) a (W.alloc (.cells news.toArray 5)) := by
 obtain ⟨i0, hi, hz0, hz1, hz2⟩ : ∃ i, Tryz.prog.info? 5 = some i ∧ i.zero = some (.int .u8 0) ∧ i.size = 1 ∧ i.bytes = 1 := by
  have := infoU8
  cases hi : Tryz.prog.info? 5 with
  | none => rw [hi] at this; cases this
  | some i =>
   rw [hi] at this
   simp only [Option.map_some, Option.some.injEq, Prod.mk.injEq] at this
   exact ⟨i, rfl, this.1, this.2.1, this.2.2⟩
 subst hnw
 subst hm
 have hb := Box.new W (Lib.byteCells ys) 5
 refine wpList_append_own _ hgd s x 47 ho base 5 i0 (.int .u8 0) 1 1 Tryz.underlying47 hi hz0 hz1 hz2 rfl (by decide) v xs.length (Lib.byteCells xs) hs (own_stays hown (strB_alloc W _)) ⟨W.heap.size, 0, none⟩ ys.length ys.length (Lib.byteCells ys) hx (by rw [Lib.byteCells_length]; omega) (fun j u hu => ?_) (byteCells_one' ys) (by unfold maxLen; omega) (by omega) (by simp; omega) ?_
 ·have e1 : (⟨W.heap.size, 0, none⟩ : Addr).add j = ⟨W.heap.size, j, none⟩ := by unfold Addr.add; split <;> simp_all
  rw [e1]
  exact hb.cell j hu
 ·intro v' w2 ho2 hg2 _
  refine h v' w2 ?_ hg2
  rw [Lib.byteCells_append, List.length_append]
  exact ho2
/-- a slice of bytes as a string. -/
theorem bytes_string {w : World} {base : Nat} {a : Option Addr} {n c : Nat} {l : Byt} (h : w.ownsRow base 5 1 (.slice a n c) l.length (Lib.byteCells l)) : (convert 47 9 (.slice a n c)).run Tryz.prog w = .ok (.string (bs l)) w := by
 have hn : n = l.length := by
  rcases h.2 with ⟨h0, h1⟩ | ⟨g, cap, cur, hv, -⟩
  ·simp only [Value.slice.injEq] at h0; omega
  ·simp only [Value.slice.injEq] at hv; exact hv.2.1
 subst hn
 cases a with
 | none =>
  have hz : l = [] := by
   rcases h.2 with ⟨-, h1⟩ | ⟨g, cap, cur, hv, -⟩
   ·exact List.length_eq_zero_iff.1 h1
   ·cases hv
  subst hz
  rw [run_convert_bytes_string w 47 9 5 none _ _ Tryz.underlying47 Tryz.underlying5 Tryz.underlying9]
  rfl
 | some ad =>
  exact run_convert_bytes_back w 47 9 5 ad c l Tryz.underlying47 Tryz.underlying5 Tryz.underlying9 (fun j hj => by
   refine src_cells h j _ ?_
   unfold Lib.byteCells
   rw [List.getElem?_map, List.getElem?_eq_getElem hj]; rfl)
end Go.Proofs.YthklhndcdijneaaGreatDoor
