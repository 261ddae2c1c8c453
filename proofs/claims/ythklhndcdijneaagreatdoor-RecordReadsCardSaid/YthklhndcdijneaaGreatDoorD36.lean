/- AnEq, RwF, RecordReadsW, Frame, OpenR, OpenM, OpenP, OpenV, OpenRec. -/
import Derived.Test.YthklhndcdijneaaGreatDoorD35
import Derived.BigQuiet
import Derived.Deep.Cut
import Derived.Deep.QuietTactic
import Derived.Deep.CutRange
import Derived.WalkKit
import Derived.ProofKit
import Derived.OpenShut
import Derived.Carry
import Derived.Deep.Slices
import Derived.Test.YthklhndcdijneaaGreatDoorC01
import Derived.Deep.Fields
import Derived.Test.YthklhndcdijneaaGreatDoorC19
namespace Go.Proofs.YthklhndcdijneaaGreatDoor
open Go.ChangeShapes Go.WideShapes Go.ChangeAt Go.RowKit
set_option linter.unusedVariables false
theorem eqTg (k v : ByteArray) (w : World) : (binOp .eql 58 (.agg #[.string k, .string v]) (.agg #[.string k, .string v])).run Tryz.prog w = .ok (.bool true) w := by
 have u3 := Tryz.underlying9
 have a3 := Tryz.isAgg9
 have z3 := Tryz.sizeOf9
 have hS : Tryz.prog.underlying 58 = some (.struct (Tryz.prog.fieldsOf 58)) := by kernel_rfl
 have hp : Tryz.prog.stoodInHeld 58 = false := by kernel_rfl
 rw [run_eql_struct, show (10000 : Nat) = 9999 + 1 from rfl, run_equalIn_agg w 9999 58 _ _ hS hp]
 simp only [Program.fieldsOf, Tryz.underlying58]
 go_simp
theorem eqMv (d : Nat) (x : MoveZ) (w : World) : (Op.equalIn (d + 1 + 1) 44 (.agg #[.int .i64 x.src, .int .i64 x.dst, .int .i64 x.piece]) (.agg #[.int .i64 x.src, .int .i64 x.dst, .int .i64 x.piece])).run Tryz.prog w = .ok true w := by
 have u3 := Tryz.underlying3
 have a3 := Tryz.isAgg3
 have z3 := Tryz.sizeOf3
 have hS : Tryz.prog.underlying 44 = some (.struct (Tryz.prog.fieldsOf 44)) := by kernel_rfl
 have hp : Tryz.prog.stoodInHeld 44 = false := by kernel_rfl
 rw [run_equalIn_agg w (d + 1) 44 _ _ hS hp]
 simp only [Program.fieldsOf, Tryz.underlying44]
 go_simp
theorem eqNd (x : NodeZ) (w : World) : (binOp .eql 46 (.agg #[.int .i64 x.parent, .int .i64 x.m.src, .int .i64 x.m.dst, .int .i64 x.m.piece, .string x.comment]) (.agg #[.int .i64 x.parent, .int .i64 x.m.src, .int .i64 x.m.dst, .int .i64 x.m.piece, .string x.comment])).run Tryz.prog w = .ok (.bool true) w := by
 have u3 := Tryz.underlying3
 have a3 := Tryz.isAgg3
 have z3 := Tryz.sizeOf3
 have u4 := Tryz.underlying9
 have a4 := Tryz.isAgg9
 have z4 := Tryz.sizeOf9
 have a5 := Tryz.isAgg44
 have z5 := Tryz.sizeOf44
 have e1 := fun w => eqMv 9997 x.m w
 have hS : Tryz.prog.underlying 46 = some (.struct (Tryz.prog.fieldsOf 46)) := by kernel_rfl
 have hp : Tryz.prog.stoodInHeld 46 = false := by kernel_rfl
 rw [run_eql_struct, show (10000 : Nat) = 9999 + 1 from rfl, run_equalIn_agg w 9999 46 _ _ hS hp]
 simp only [Program.fieldsOf, Tryz.underlying46]
 go_simp
theorem neq_of {t : TypeId} {a b : Array Value} {w : World} (h : (binOp .eql t (.agg a) (.agg b)).run Tryz.prog w = .ok (.bool true) w) : (binOp .neq t (.agg a) (.agg b)).run Tryz.prog w = .ok (.bool false) w := by
 rw [run_eql_struct] at h
 rw [run_neq_struct]
 cases hh : (Op.equalIn 10000 t (.agg a) (.agg b)).run Tryz.prog w with
 | ok b w' => rw [hh] at h; simp only [Result.andThen_ok, Result.ok.injEq, Value.bool.injEq] at h ⊢; exact ⟨by rw [h.1]; rfl, h.2⟩
 | _ => rw [hh] at h; simp [Result.andThen] at h
set_option maxRecDepth 100000 in
set_option maxHeartbeats 8000000 in
theorem sameRec_any (X : RecZ) (vt vn vt' vn' : Value) (w : World) (hx : RdX w X vt vn) (hy : RdX w X vt' vn') :
  Calls Tryz.prog 12 #[recV X vt vn, recV X vt' vn'] w fun e w' => e = .returned (.bool true) ∧ Below w.heap.size w w' := by
 have HX := Lib.hid hx
 have HY := Lib.hid hy
 obtain ⟨na, nc, rfl, hn1, hn2⟩ := hx.2.1.form
 obtain ⟨ta, tc, rfl, ht1, ht2⟩ := hx.1.form
 obtain ⟨ma, mc, rfl, hm1, hm2⟩ := hy.2.1.form
 obtain ⟨ua, uc, rfl, hu1, hu2⟩ := hy.1.form
 unfold maxLen at hn2 ht2 hm2 hu2
 clear hx hy
 unfold recV
 go_enter Tryz.func12, Tryz.ntmps12
 go_upto_region 1 with (fail)
 refine opn2 ?_
 intro w0 xbX xbY hB0 hS0
 have HB := Lib.hid hB0
 obtain ⟨bY, hbY⟩ : ∃ bY, bY = w.heap.size + 1 := ⟨_, rfl⟩
 rw [← hbY] at xbY ⊢
 obtain ⟨bX, hbX⟩ : ∃ bX, bX = w.heap.size := ⟨_, rfl⟩
 rw [← hbX] at xbX ⊢
 have hbX1 : w.heap.size ≤ bX := by omega
 have HbX := Lib.hid xbX
 have hbY1 : w.heap.size ≤ bY := by omega
 have hbXbY : bX < bY := by omega
 have HbY := Lib.hid xbY
 have hS : bY < w0.heap.size := by omega
 clear hB0 hS0 xbX hbX xbY hbY
 have x0 := HbX.out.cell 0 rfl
 have x1 := HbX.out.cell 1 rfl
 have x2 := HbX.out.cell 2 rfl
 have x3 := HbX.out.cell 3 rfl
 have y0 := HbY.out.cell 0 rfl
 have y1 := HbY.out.cell 1 rfl
 have y2 := HbY.out.cell 2 rfl
 have y3 := HbY.out.cell 3 rfl
 have xl := HbX.out.lt
 have yl := HbY.out.lt
 go_wp2_with fail
 clear x0 x1 x2 x3 y0 y1 y2 y3 xl yl
 go_loopw [40] (fun v40 wr => ∃ k : Nat, v40 = .int .i64 k ∧ k ≤ X.tags.length ∧ Hid (Below w.heap.size w wr) ∧ Hid (Box wr bX [.slice ta X.tags.length tc, .string X.comment, .slice na X.nodes.length nc, .int .i64 X.result] 30) ∧ Hid (Box wr bY [.slice ua X.tags.length uc, .string X.comment, .slice ma X.nodes.length mc, .int .i64 X.result] 30)) (fun v _ => X.tags.length - (intOf v).toNat)
 case atStart => exact ⟨0, rfl, Nat.zero_le _, HB, HbX, HbY⟩
 case round =>
  obtain ⟨k, rfl, hk, HBr, HXr, HYr⟩ := hrel
  clear HB HbX HbY hS w0
  have xl := HXr.out.lt
  have yl := HYr.out.lt
  by_cases hlt : (k : Int) < (X.tags.length : Int)
  ·have x0 := HXr.out.cell 0 rfl
   have y0 := HYr.out.cell 0 rfl
   obtain ⟨g, o, rfl, hg, hc⟩ := tags_some HX.out.1 (by omega)
   obtain ⟨e0, e1, -, -⟩ := hc k (by omega)
   obtain ⟨g', o', rfl, hg', hc'⟩ := tags_some HY.out.1 (by omega)
   obtain ⟨e0', e1', -, -⟩ := hc' k (by omega)
   have c0 := (HBr.out.cell (p := ⟨g, o + k * 2, none⟩) hg).trans e0
   have c1 := (HBr.out.cell (p := ⟨g, o + k * 2 + 1, none⟩) hg).trans e1
   have c0' := (HBr.out.cell (p := ⟨g', o' + k * 2, none⟩) hg').trans e0'
   have c1' := (HBr.out.cell (p := ⟨g', o' + k * 2 + 1, none⟩) hg').trans e1'
   have hgr : g < wr.heap.size := by have := HBr.out.size; omega
   have hgr' : g' < wr.heap.size := by have := HBr.out.size; omega
   clear hc e0 e1 hc' e0' e1'
   generalize (X.tags.getD k default).key = ky at *
   generalize (X.tags.getD k default).value = kvv at *
   have hne := fun w => neq_of (eqTg ky kvv w)
   go_wp2_with fail
   go_quiet (fail)
   have HBq := Lib.hid (below_drewN HBr.out nq)
   have HXq := Lib.hid (HXr.out.drewN nq)
   have HYq := Lib.hid (HYr.out.drewN nq)
   generalize wr.drewN nq = W at *
   go_wp2_with fail
   go_roundw
   case rel => exact ⟨k + 1, by go_num, by omega, HBq, HXq, HYq⟩
   case measure => simp [intOf]; omega
  ·have hkk : k = X.tags.length := by omega
   clear hkk hk
   have x2 := HXr.out.cell 2 rfl
   go_wp2_with fail
   clear hlt
   obtain ⟨wA, rfl⟩ : ∃ wA : World, wA = wr := ⟨_, rfl⟩
   go_loopw [58] (fun v58 wr => ∃ k : Nat, v58 = .int .i64 k ∧ k ≤ X.nodes.length ∧ Hid (Below w.heap.size w wr) ∧ Hid (Box wr bX [.slice ta X.tags.length tc, .string X.comment, .slice na X.nodes.length nc, .int .i64 X.result] 30) ∧ Hid (Box wr bY [.slice ua X.tags.length uc, .string X.comment, .slice ma X.nodes.length mc, .int .i64 X.result] 30)) (fun v _ => X.nodes.length - (intOf v).toNat)
   case atStart => exact ⟨0, rfl, Nat.zero_le _, HBr, HXr, HYr⟩
   case round =>
    obtain ⟨k, rfl, hk, HBr, HXr, HYr⟩ := hrel
    clear x2
    have xl := HXr.out.lt
    have yl := HYr.out.lt
    by_cases hlt : (k : Int) < (X.nodes.length : Int)
    ·have x2 := HXr.out.cell 2 rfl
     have y2 := HYr.out.cell 2 rfl
     obtain ⟨g, o, rfl, hg, hc⟩ := nodes_some HX.out.2.1 (by omega)
     obtain ⟨e0, e1, e2, e3, e4, -⟩ := hc k (by omega)
     obtain ⟨g', o', rfl, hg', hc'⟩ := nodes_some HY.out.2.1 (by omega)
     obtain ⟨e0', e1', e2', e3', e4', -⟩ := hc' k (by omega)
     have c0 := (HBr.out.cell (p := ⟨g, o + k * 5, none⟩) hg).trans e0
     have c0' := (HBr.out.cell (p := ⟨g', o' + k * 5, none⟩) hg').trans e0'
     have c1 := (HBr.out.cell (p := ⟨g, o + k * 5 + 1, none⟩) hg).trans e1
     have c1' := (HBr.out.cell (p := ⟨g', o' + k * 5 + 1, none⟩) hg').trans e1'
     have c2 := (HBr.out.cell (p := ⟨g, o + k * 5 + 2, none⟩) hg).trans e2
     have c2' := (HBr.out.cell (p := ⟨g', o' + k * 5 + 2, none⟩) hg').trans e2'
     have c3 := (HBr.out.cell (p := ⟨g, o + k * 5 + 3, none⟩) hg).trans e3
     have c3' := (HBr.out.cell (p := ⟨g', o' + k * 5 + 3, none⟩) hg').trans e3'
     have c4 := (HBr.out.cell (p := ⟨g, o + k * 5 + 4, none⟩) hg).trans e4
     have c4' := (HBr.out.cell (p := ⟨g', o' + k * 5 + 4, none⟩) hg').trans e4'
     have hgr : g < wr.heap.size := by have := HBr.out.size; omega
     have hgr' : g' < wr.heap.size := by have := HBr.out.size; omega
     clear hc e0 e1 e2 e3 e4 hc' e0' e1' e2' e3' e4'
     have hne := fun w => neq_of (eqNd (ndAt X.nodes k) w)
     generalize (ndAt X.nodes k) = nd at *
     go_wp2_with fail
     go_quiet (fail)
     have HBq := Lib.hid (below_drewN HBr.out nq)
     have HXq := Lib.hid (HXr.out.drewN nq)
     have HYq := Lib.hid (HYr.out.drewN nq)
     generalize wr.drewN nq = W at *
     go_wp2_with fail
     go_roundw
     case rel => exact ⟨k + 1, by go_num, by omega, HBq, HXq, HYq⟩
     case measure => simp [intOf]; omega
    ·go_wp2_with fail
     go_ret
     exact ⟨rfl, HBr.out⟩
end Go.Proofs.YthklhndcdijneaaGreatDoor
namespace Go.Proofs.YthklhndcdijneaaGreatDoor
open Go.ChangeShapes Go.WideShapes Go.ChangeAt Go.RowKit
set_option linter.unusedVariables false
/-- a sound record in own rows may be read. -/
theorem rdX_own {R : RulesZ} {X : RecZ} {w : World} {B : Nat} {vt vn : Value} (h : recErr R X = 0) (h1 : w.ownsRow B 58 2 vt X.tags.length (flatTg X.tags)) (h2 : w.ownsRow B tNd 5 vn X.nodes.length (flatN X.nodes)) : RdX w X vt vn := by
 obtain ⟨c1, c2, c3, c4, c5⟩ := rec_cmt h
 refine ⟨rdTg_of_own h1 (fun t ht => ?_), rdN_of_own h2 (fun t ht => ?_), by have := cmt_sz c4; unfold maxLen; omega⟩
 ·obtain ⟨i, hi, e⟩ := List.mem_iff_getElem.1 ht
  have := tags_sz c2 i hi
  rw [List.getD_eq_getElem?_getD, List.getElem?_eq_getElem hi, Option.getD_some, e] at this
  unfold maxLen; omega
 ·obtain ⟨i, hi, e⟩ := List.mem_iff_getElem.1 ht
  have := cmt_sz (c1 i hi)
  have e2 : ndAt X.nodes i = t := by unfold ndAt; rw [List.getD_eq_getElem?_getD, List.getElem?_eq_getElem hi]; exact e
  rw [e2] at this
  unfold maxLen; omega
/-- what Read hands back of a text that is read to a sound record. -/
def RdOk (R : RulesZ) (X : RecZ) (w : World) (e : Ending) (w' : World) : Prop := Below w.heap.size w w' ∧ ∃ ga gc fa fc, e = .returned (.tuple #[.agg #[.slice ga X.tags.length gc, .string X.comment, .slice fa X.nodes.length fc, .int .i64 X.result], .int .i64 0]) ∧ RdX w' X (.slice ga X.tags.length gc) (.slice fa X.nodes.length fc)
theorem rdPost_ok {R : RulesZ} {X : RecZ} {w : World} {o : Except Int RecZ} {e : Ending} {w' : World} (hE : recErr R X = 0) (ho : o = .ok X) (h : rdPost R w o e w') : RdOk R X w e w' := by
 subst ho
 obtain ⟨hb, vt, vn, he, h1, h2⟩ := h
 obtain ⟨ga, gc, rfl⟩ := own_form2 h1
 obtain ⟨fa, fc, rfl⟩ := own_form2 h2
 exact ⟨hb, ga, gc, fa, fc, he, rdX_own hE h1 h2⟩
/-- the text of a record is read to the record. -/
theorem readR_text {R : RulesZ} {X : RecZ} (hE : recErr R X = 0) (hz : (textB R X).length ≤ 8192) : readR R (bs (textB R X)) = .ok X := by
 unfold readR
 rw [if_neg (by simp [(rec_nodes hE).1]), if_neg (by rw [bs_size]; omega), bt_bs, text_read hE]
 dsimp only
 rw [if_neg (by simp [hE])]
theorem rtext_err {R : RulesZ} {X : RecZ} (hE : recErr R X = 0) : (rtextErr R X = 2 ∧ rtextZ R X = ⟨#[]⟩) ∨ (rtextErr R X = 0 ∧ rtextZ R X = bs (textB R X) ∧ (textB R X).length ≤ 8192) := by
 have e : rtextErr R X = if 8192 < (textB R X).length then 2 else 0 := by unfold rtextErr; rw [if_neg (by simp [hE])]
 by_cases h : 8192 < (textB R X).length
 ·rw [if_pos h] at e
  exact .inl ⟨e, by unfold rtextZ; rw [e, if_neg (by decide)]⟩
 ·rw [if_neg h] at e
  exact .inr ⟨e, by unfold rtextZ; rw [e, if_pos rfl], by omega⟩
end Go.Proofs.YthklhndcdijneaaGreatDoor
namespace Go.Proofs.YthklhndcdijneaaGreatDoor.recordReads
open Go.ChangeShapes Go.WideShapes Go.ChangeAt Go.RowKit
set_option linter.unusedVariables false
theorem readR_ne {R : RulesZ} {s : ByteArray} {n : Int} (h : readR R s = .error n) : n ≠ 0 := by
 unfold readR at h
 by_cases h1 : rulesErr R ≠ 0
 ·rw [if_pos h1] at h; cases h; exact h1
 rw [if_neg h1] at h
 by_cases h2 : 8192 < s.size
 ·rw [if_pos h2] at h; cases h; decide
 rw [if_neg h2] at h
 cases hr : rRead R (bt s) with
 | error e => rw [hr] at h; cases h; exact rRead_ne hr
 | ok X =>
  rw [hr] at h
  dsimp only at h
  by_cases h3 : recErr R X ≠ 0
  ·rw [if_pos h3] at h; cases h; exact h3
  ·rw [if_neg h3] at h; cases h
theorem readR_ok {R : RulesZ} {s : ByteArray} {X : RecZ} (h : readR R s = .ok X) : recErr R X = 0 ∧ (textB R X).length ≤ 2 * s.size + 10 := by
 unfold readR at h
 by_cases h1 : rulesErr R ≠ 0
 ·rw [if_pos h1] at h; cases h
 rw [if_neg h1] at h
 by_cases h2 : 8192 < s.size
 ·rw [if_pos h2] at h; cases h
 rw [if_neg h2] at h
 cases hr : rRead R (bt s) with
 | error e => rw [hr] at h; cases h
 | ok Y =>
  rw [hr] at h
  dsimp only at h
  by_cases h3 : recErr R Y ≠ 0
  ·rw [if_pos h3] at h; cases h
  ·rw [if_neg h3] at h
   cases h
   have h4 : recErr R X = 0 := Decidable.byContradiction h3
   have := read_tot hr h4
   rw [bt_len] at this
   exact ⟨h4, this⟩
set_option maxRecDepth 100000 in
set_option maxHeartbeats 8000000 in
theorem walk (HS : SortMvSaid) (HW : WrSaid) (HD : RdSaid) (R : RulesZ) (vp vs ve : Value) (s : ByteArray) (w : World) (hr : RdR w R vp vs ve) (hnm : R.name.size ≤ maxLen) (hmx : Mx w.heap.size w) :
  Calls Tryz.prog 4 #[(.agg #[.string R.name, .int .i64 R.width, .int .i64 R.height, vp, vs, .bool R.falls, .bool R.keeps, ve, .int .i64 R.blocked, .int .i64 R.quiet, .int .i64 R.rept]), .string s] w fun e w' => e = .returned (.bool true) ∧ Below w.heap.size w w' := by
 have HSh := Lib.hid HS
 have HWh := Lib.hid HW
 have HDh := Lib.hid HD
 have HMx := Lib.hid hmx
 have HR := Lib.hid hr
 have HN := Lib.hid hnm
 clear HS HW HD hr hnm hmx
 go_enter Tryz.func4, Tryz.ntmps4
 go_upto_region 1 with (fail)
 refine opn1 ?_
 intro w0 xbR hB0 hS0
 have HB := Lib.hid hB0
 obtain ⟨bR, hbR⟩ : ∃ bR, bR = w.heap.size := ⟨_, rfl⟩
 rw [← hbR] at xbR ⊢
 have hbR1 : w.heap.size ≤ bR := by omega
 have HbR := Lib.hid xbR
 have hS : bR < w0.heap.size := by omega
 clear hB0 hS0 xbR hbR
 have HR0 := HbR
 clear HbR
 go_wp2_with fail
 refine (records_any HSh.out HWh.out w0).mono ?_
 rintro e w1 ⟨rfl, hb1⟩
 have HB1 := Lib.hid (below_trans HB.out hb1 HB.out.size)
 have HR1 := Lib.hid (HR0.out.stays hb1)
 clear hb1 HR0 HB hS
 have q0 := HR1.out.cell 0 rfl; have q1 := HR1.out.cell 1 rfl; have q2 := HR1.out.cell 2 rfl; have q3 := HR1.out.cell 3 rfl; have q4 := HR1.out.cell 4 rfl; have q5 := HR1.out.cell 5 rfl; have q6 := HR1.out.cell 6 rfl; have q7 := HR1.out.cell 7 rfl; have q8 := HR1.out.cell 8 rfl; have q9 := HR1.out.cell 9 rfl; have q10 := HR1.out.cell 10 rfl
 go_wp2_with fail
 refine (great_anyG R vp vs ve w1 (HR.out.2.1.below HB1.out (Nat.le_refl _))).mono ?_
 rintro e w2 ⟨rfl, hb2⟩
 have HB2 := Lib.hid (below_trans HB1.out hb2 HB1.out.size)
 have HR2 := Lib.hid (HR1.out.stays hb2)
 clear hb2 HR1 HB1 q0 q1 q2 q3 q4 q5 q6 q7 q8 q9 q10
 generalize decide (20 < (R.start.length : Int)) = gr at *
 cases gr
 rotate_left
 ·go_wp2_with fail
  go_ret
  exact ⟨rfl, HB2.out⟩
 by_cases hs6 : 600 < s.size
 ·have hsI : (600 : Int) < (s.size : Int) := by omega
  clear hs6
  go_wp2_with fail
  go_ret
  exact ⟨rfl, HB2.out⟩
 have hsI : ¬ (600 : Int) < (s.size : Int) := by omega
 have HZ := Lib.hid hs6
 clear hs6
 have q0 := HR2.out.cell 0 rfl; have q1 := HR2.out.cell 1 rfl; have q2 := HR2.out.cell 2 rfl; have q3 := HR2.out.cell 3 rfl; have q4 := HR2.out.cell 4 rfl; have q5 := HR2.out.cell 5 rfl; have q6 := HR2.out.cell 6 rfl; have q7 := HR2.out.cell 7 rfl; have q8 := HR2.out.cell 8 rfl; have q9 := HR2.out.cell 9 rfl; have q10 := HR2.out.cell 10 rfl
 have HRe := Lib.hid (recRead_any HSh.out HDh.out.1 HDh.out.2.1 HDh.out.2.2.1 HDh.out.2.2.2 s w2 (HR.out.below HB2.out (Nat.le_refl _)) HN.out ((HMx.out.below HB2.out).mono HB2.out.size))
 go_wp2_with fail
 refine HRe.out.mono ?_
 clear HRe q0 q1 q2 q3 q4 q5 q6 q7 q8 q9 q10
 cases hrd : readR R s with
 | error n =>
  rintro e w3 ⟨hb3, rfl⟩
  have hn0 : (n != 0) = true := by simpa using readR_ne hrd
  have HB3 := Lib.hid (below_trans HB2.out hb3 HB2.out.size)
  clear hb3 hrd HR2 HB2
  go_wp2_with fail
  go_ret
  exact ⟨rfl, HB3.out.alloc HB3.out.size _⟩
 | ok X =>
  intro e w3 hpost
  obtain ⟨hE, hz⟩ := readR_ok hrd
  obtain ⟨hb3, ga, gc, fa, fc, rfl, hx3⟩ := rdPost_ok hE rfl hpost
  have HE := Lib.hid hE
  have hz' : (textB R X).length ≤ 8192 := by have := HZ.out; omega
  clear hpost hrd hz hE
  have HB3 := Lib.hid (below_trans HB2.out hb3 HB2.out.size)
  have HR3 := Lib.hid (HR2.out.stays hb3)
  have HX3 := Lib.hid hx3
  have HN0 := Lib.hid (Box.new w3 [.slice none 0 0, .string ⟨#[]⟩, .slice none 0 0, .int .i64 0] 30)
  obtain ⟨hg1, hg2⟩ : X.tags.length ≤ gc ∧ gc ≤ 9223372036854775807 := by obtain ⟨_, _, e, h1, h2⟩ := HX3.out.1.form; unfold maxLen at h2; cases e; omega
  obtain ⟨hf1, hf2⟩ : X.nodes.length ≤ fc ∧ fc ≤ 9223372036854775807 := by obtain ⟨_, _, e, h1, h2⟩ := HX3.out.2.1.form; unfold maxLen at h2; cases e; omega
  clear hb3 HR2 HB2 hx3
  go_upto_region 6 with (refine wpList_store_box (vs := [.slice ga X.tags.length gc, .string X.comment, .slice fa X.nodes.length fc, .int .i64 X.result]) (by rfl) 30 (.tmp 5) (.tmp 24) w3.heap.size (by rfl) [.slice ga X.tags.length gc, .string X.comment, .slice fa X.nodes.length fc, .int .i64 X.result] (by rfl) (by rfl) HN0.out rfl (by kernel_rfl) (by rfl) ?_)
  have hba : Below w3.heap.size w3 (w3.alloc (.cells #[.slice ga X.tags.length gc, .string X.comment, .slice fa X.nodes.length fc, .int .i64 X.result] 30)) := (Below.refl _ _).alloc (Nat.le_refl _) _
  have HY4 := Lib.hid (Box.new w3 [.slice ga X.tags.length gc, .string X.comment, .slice fa X.nodes.length fc, .int .i64 X.result] 30)
  obtain ⟨bX, hbX⟩ : ∃ bX, bX = w3.heap.size := ⟨_, rfl⟩
  rw [← hbX] at HY4 ⊢
  have HB4 := Lib.hid (below_trans HB3.out hba HB3.out.size)
  have HR4 := Lib.hid (HR3.out.stays hba)
  have HX4 := Lib.hid (HX3.out.below hba (Nat.le_refl _))
  generalize (w3.alloc (.cells #[.slice ga X.tags.length gc, .string X.comment, .slice fa X.nodes.length fc, .int .i64 X.result] 30)) = w4 at *
  clear hba hbX HR3 HX3 HN0 HB3
  have q0 := HR4.out.cell 0 rfl; have q1 := HR4.out.cell 1 rfl; have q2 := HR4.out.cell 2 rfl; have q3 := HR4.out.cell 3 rfl; have q4 := HR4.out.cell 4 rfl; have q5 := HR4.out.cell 5 rfl; have q6 := HR4.out.cell 6 rfl; have q7 := HR4.out.cell 7 rfl; have q8 := HR4.out.cell 8 rfl; have q9 := HR4.out.cell 9 rfl; have q10 := HR4.out.cell 10 rfl; have p0 := HY4.out.cell 0 rfl; have p1 := HY4.out.cell 1 rfl; have p2 := HY4.out.cell 2 rfl; have p3 := HY4.out.cell 3 rfl
  have HTx := Lib.hid (wText_any HSh.out HWh.out.1 HWh.out.2.1 HWh.out.2.2.1 HWh.out.2.2.2 R vp vs ve X ga fa gc fc w4 (HR.out.below HB4.out (Nat.le_refl _)) HN.out HX4.out)
  go_wp2_with fail
  refine HTx.out.mono ?_
  clear HTx q0 q1 q2 q3 q4 q5 q6 q7 q8 q9 q10 p0 p1 p2 p3
  rintro e w5 ⟨rfl, hb5⟩
  have HB5 := Lib.hid (below_trans HB4.out hb5 HB4.out.size)
  have HR5 := Lib.hid (HR4.out.stays hb5)
  have HY5 := Lib.hid (HY4.out.stays hb5)
  have HX5 := Lib.hid (HX4.out.below hb5 (Nat.le_refl _))
  clear hb5 HR4 HY4 HX4 HB4
  have hte : rtextErr R X = 0 ∧ rtextZ R X = bs (textB R X) := by
   rcases rtext_err HE.out with ⟨e1, -⟩ | ⟨e1, e2, -⟩
   ·unfold rtextErr at e1; rw [if_neg (by simp [HE.out]), if_neg (by omega)] at e1; cases e1
   ·exact ⟨e1, e2⟩
  rw [hte.1, hte.2]
  have HRd := Lib.hid (readR_text HE.out hz')
  obtain ⟨t, ht⟩ : ∃ t, t = bs (textB R X) := ⟨_, rfl⟩
  rw [← ht] at HRd ⊢
  clear hte hz' ht
  have q0 := HR5.out.cell 0 rfl; have q1 := HR5.out.cell 1 rfl; have q2 := HR5.out.cell 2 rfl; have q3 := HR5.out.cell 3 rfl; have q4 := HR5.out.cell 4 rfl; have q5 := HR5.out.cell 5 rfl; have q6 := HR5.out.cell 6 rfl; have q7 := HR5.out.cell 7 rfl; have q8 := HR5.out.cell 8 rfl; have q9 := HR5.out.cell 9 rfl; have q10 := HR5.out.cell 10 rfl
  have HRe := Lib.hid (recRead_any HSh.out HDh.out.1 HDh.out.2.1 HDh.out.2.2.1 HDh.out.2.2.2 t w5 (HR.out.below HB5.out (Nat.le_refl _)) HN.out ((HMx.out.below HB5.out).mono HB5.out.size))
  go_wp2_with fail
  refine HRe.out.mono ?_
  clear HRe q0 q1 q2 q3 q4 q5 q6 q7 q8 q9 q10
  intro e w6 hpost
  obtain ⟨hb6, ga6, gc6, fa6, fc6, rfl, hx6⟩ := rdPost_ok HE.out HRd.out hpost
  clear hpost
  have HB6 := Lib.hid (below_trans HB5.out hb6 HB5.out.size)
  have HR6 := Lib.hid (HR5.out.stays hb6)
  have HY6 := Lib.hid (HY5.out.stays hb6)
  have HX6 := Lib.hid (HX5.out.below hb6 (Nat.le_refl _))
  have HZ6 := Lib.hid hx6
  have HN0 := Lib.hid (Box.new w6 [.slice none 0 0, .string ⟨#[]⟩, .slice none 0 0, .int .i64 0] 30)
  obtain ⟨hg61, hg62⟩ : X.tags.length ≤ gc6 ∧ gc6 ≤ 9223372036854775807 := by obtain ⟨_, _, e, h1, h2⟩ := HZ6.out.1.form; unfold maxLen at h2; cases e; omega
  obtain ⟨hf61, hf62⟩ : X.nodes.length ≤ fc6 ∧ fc6 ≤ 9223372036854775807 := by obtain ⟨_, _, e, h1, h2⟩ := HZ6.out.2.1.form; unfold maxLen at h2; cases e; omega
  clear hb6 HR5 HY5 HX5 HB5 hx6
  go_upto_region 10 with (refine wpList_store_box (vs := [.slice ga6 X.tags.length gc6, .string X.comment, .slice fa6 X.nodes.length fc6, .int .i64 X.result]) (by rfl) 30 (.tmp 9) (.tmp 46) w6.heap.size (by rfl) [.slice ga6 X.tags.length gc6, .string X.comment, .slice fa6 X.nodes.length fc6, .int .i64 X.result] (by rfl) (by rfl) HN0.out rfl (by kernel_rfl) (by rfl) ?_)
  have hba : Below w6.heap.size w6 (w6.alloc (.cells #[.slice ga6 X.tags.length gc6, .string X.comment, .slice fa6 X.nodes.length fc6, .int .i64 X.result] 30)) := (Below.refl _ _).alloc (Nat.le_refl _) _
  have HZ7 := Lib.hid (Box.new w6 [.slice ga6 X.tags.length gc6, .string X.comment, .slice fa6 X.nodes.length fc6, .int .i64 X.result] 30)
  obtain ⟨bz, hbz⟩ : ∃ bz, bz = w6.heap.size := ⟨_, rfl⟩
  rw [← hbz] at HZ7 ⊢
  have HB7 := Lib.hid (below_trans HB6.out hba HB6.out.size)
  have HR7 := Lib.hid (HR6.out.stays hba)
  have HY7 := Lib.hid (HY6.out.stays hba)
  have HX7 := Lib.hid (HX6.out.below hba (Nat.le_refl _))
  have HW7 := Lib.hid (HZ6.out.below hba (Nat.le_refl _))
  generalize (w6.alloc (.cells #[.slice ga6 X.tags.length gc6, .string X.comment, .slice fa6 X.nodes.length fc6, .int .i64 X.result] 30)) = w7 at *
  clear hba hbz HR6 HY6 HX6 HZ6 HN0 HB6
  have q0 := HR7.out.cell 0 rfl; have q1 := HR7.out.cell 1 rfl; have q2 := HR7.out.cell 2 rfl; have q3 := HR7.out.cell 3 rfl; have q4 := HR7.out.cell 4 rfl; have q5 := HR7.out.cell 5 rfl; have q6 := HR7.out.cell 6 rfl; have q7 := HR7.out.cell 7 rfl; have q8 := HR7.out.cell 8 rfl; have q9 := HR7.out.cell 9 rfl; have q10 := HR7.out.cell 10 rfl; have p0 := HY7.out.cell 0 rfl; have p1 := HY7.out.cell 1 rfl; have p2 := HY7.out.cell 2 rfl; have p3 := HY7.out.cell 3 rfl
  have HK := Lib.hid (recCheck_any HSh.out R vp vs ve X (.slice ga X.tags.length gc) (.slice fa X.nodes.length fc) w7 (HR.out.below HB7.out (Nat.le_refl _)) HN.out HX7.out)
  unfold recV at HK
  rw [HE.out] at HK
  go_wp2_with fail
  refine HK.out.mono ?_
  clear HK q0 q1 q2 q3 q4 q5 q6 q7 q8 q9 q10 p0 p1 p2 p3
  rintro e w8 ⟨rfl, hb8⟩
  have HB8 := Lib.hid (below_trans HB7.out hb8 HB7.out.size)
  have HY8 := Lib.hid (HY7.out.stays hb8)
  have HZ8 := Lib.hid (HZ7.out.stays hb8)
  have HX8 := Lib.hid (HX7.out.below hb8 (Nat.le_refl _))
  have HW8 := Lib.hid (HW7.out.below hb8 (Nat.le_refl _))
  clear hb8 HR7 HY7 HX7 HW7 HZ7 HB7
  have p0 := HY8.out.cell 0 rfl; have p1 := HY8.out.cell 1 rfl; have p2 := HY8.out.cell 2 rfl; have p3 := HY8.out.cell 3 rfl; have z0 := HZ8.out.cell 0 rfl; have z1 := HZ8.out.cell 1 rfl; have z2 := HZ8.out.cell 2 rfl; have z3 := HZ8.out.cell 3 rfl
  have HSm := Lib.hid (sameRec_any X _ _ _ _ w8 HX8.out HW8.out)
  unfold recV at HSm
  go_wp2_with fail
  refine HSm.out.mono ?_
  clear HSm
  rintro e w9 ⟨rfl, hb9⟩
  have HB9 := Lib.hid (below_trans HB8.out hb9 HB8.out.size)
  clear hb9 p0 p1 p2 p3 z0 z1 z2 z3
  go_wp2_with fail
  go_ret
  exact ⟨rfl, HB9.out⟩
end Go.Proofs.YthklhndcdijneaaGreatDoor.recordReads
namespace Go.Proofs.YthklhndcdijneaaGreatDoor
open Go.ChangeShapes Go.WideShapes Go.ChangeAt Go.RowKit
section
variable {H : Type} {enc : TypeId × Value → H} {P : Program} {W W' : World}
theorem trodAll_stays (hl : laidOutB P = true) (hb : Below W.heap.size W W') : ∀ {ts : List TypeId} {vs : List Value} {ds : List (DataW H)} {ps : List MemPlace},
  (ts.all fun t => P.readableRec t && decide (t < P.types.size)) = true → DataW.TrodAll enc P W 0 (fun _ => true) true ts vs ds ps →
  DataW.TrodAll enc P W' 0 (fun b => decide (b < W.heap.size)) true ts vs ds ps
 | [], [], [], _, _, h => h
 | t :: ts, v :: vs, d :: ds, ps, ht, ⟨p, q, h1, h2, e⟩ => by
  simp only [List.all_cons, Bool.and_eq_true, decide_eq_true_eq] at ht
  exact ⟨p, q, Below.trod hl ht.1.1 ht.1.2 h1 hb (by obtain ⟨m, hm⟩ := h1; exact DataW.trod_lt m _ _ _ hm), trodAll_stays hl hb ht.2 h2, e⟩
variable {r : Reach} {base : Nat} {t u : TypeId} {v : Value} {w : World}
theorem cell_slice {e : TypeId} (hu : P.underlying u = some (.slice e)) (h : Cell.okWide P w r base u v) : ∃ a len cap, v = .slice a len cap := by
 cases v <;> simp_all [Cell.okWide, Cell.ok]
/-- a struct by value: its cells, each of its own type. -/
theorem okWide_cells {fs : Array Field} {ts : List TypeId} (hs : P.underlying t = some (.struct fs)) (hts : P.cellTypes P.depth t = some ts) (hn : P.cellsOf t = ts.length)
  (h : Value.okWide P w r base t v) : ∃ cs : List Value, v = .agg cs.toArray ∧ cs.length = ts.length ∧ ∀ (i : Nat) (x : Value), cs[i]? = some x → ∃ u, ts[i]? = some u ∧ Cell.okWide P w r base u x := by
 simp only [Value.okWide, hs] at h
 obtain ⟨cs, rfl, hsz, ts', hts', _, hc⟩ := h
 rw [hts] at hts'
 cases hts'
 refine ⟨cs.toList, by simp, by simpa [hn] using hsz, fun i x hi => ?_⟩
 have hi' : cs[i]? = some x := by simpa using hi
 obtain ⟨u, hu, hx⟩ := hc i x hi'
 have hlt : i < ts.length := by
  have := (Array.getElem?_eq_some_iff.1 hi').1
  omega
 rw [Nat.mod_eq_of_lt hlt] at hu
 exact ⟨u, hu, hx⟩
end
end Go.Proofs.YthklhndcdijneaaGreatDoor
namespace Go.Proofs.YthklhndcdijneaaGreatDoor
open Go.ChangeShapes Go.WideShapes Go.ChangeAt Go.RowKit Go.Deep
set_option linter.unusedVariables false
set_option maxRecDepth 100000
section
variable {H : Type} {enc : TypeId × Value → H} {P : Program} {w : World}
theorem block_lt' {w : World} {p : Addr} {v : Value} (h : w.cell? p = some v) : p.block < w.heap.size := by
 rcases Nat.lt_or_ge p.block w.heap.size with hlt | hge
 ·exact hlt
 ·simp [World.cell?, Array.getElem?_eq_none hge] at h
theorem add_none' (b off n : Nat) : (⟨b, off, none⟩ : Addr).add n = ⟨b, off + n, none⟩ := by
 unfold Addr.add; split
 ·rename_i h; subst h; rfl
 ·rfl
/-- a slice whose elements are opened by hel. -/
theorem open_list {α : Type} (el : El α) {t e : TypeId} (hu : P.underlying t = some (.slice e)) (hC : P.cellsOf e = el.k) (hk : 0 < el.k)
  (hel : ∀ fuel cs y, DataW.trod enc P w 0 (fun _ => true) true fuel e cs = some y → ∃ x, el.E w x cs)
  {fuel : Nat} {cs : List Value} {y : DataW H × List MemPlace} (h : DataW.trod enc P w 0 (fun _ => true) true fuel t cs = some y) : ∃ v xs, cs = [v] ∧ RdL el w v xs := by
 rcases open_slice hu h with ⟨rfl, _⟩ | ⟨a, len, cap, m, n, D, Pl, rfl, hb, hl, hm, hmm, hx, hi⟩
 ·exact ⟨_, [], rfl, RdL.nil el w⟩
 ·simp only [if_true] at hmm
  obtain rfl : cap = m := hmm.symm
  by_cases h0 : len = 0
  ·subst h0
   exact ⟨_, [], rfl, .inl ⟨_, _, rfl, hm, rfl⟩⟩
  ·have hall : ∀ i : Fin len, ∃ x : α, ∃ cs', w.cells? 0 (a.add (i.1 * el.k)) el.k = some cs' ∧ el.E w x cs' := fun i => by
    obtain ⟨cs', h1, h2⟩ := hi i.1 (by omega)
    rw [hC] at h1
    obtain ⟨x, hx⟩ := hel _ _ _ h2
    exact ⟨x, cs', h1, hx⟩
   have hspot : a.spot = none ∧ a.block < w.heap.size := by
    obtain ⟨x, cs', h1, h2⟩ := hall ⟨0, by omega⟩
    have h3 := (World.cells?_some h1).2.2 0 hk
    have hl' := el.len h2
    rw [List.getElem?_eq_getElem (by omega)] at h3
    have h4 : w.cell? a = some cs'[0] := by simpa [Addr.add] using h3
    exact ⟨World.cell?_spot h4, block_lt' h4⟩
   obtain ⟨g, o, s⟩ := a
   obtain ⟨rfl, hg⟩ := hspot
   simp only at hg
   refine ⟨_, List.ofFn fun i => Classical.choose (hall i), rfl, .inr ⟨g, o, cap, by simp, by simpa using hl, hm, hg, fun i hi' => ?_⟩⟩
   have hi2 : i < len := by simpa using hi'
   obtain ⟨cs', h1, h2⟩ := Classical.choose_spec (hall ⟨i, hi2⟩)
   refine ⟨cs', by simpa using h2, fun j hj => ?_⟩
   have := (World.cells?_some h1).2.2 j hj
   rw [add_none', add_none'] at this
   exact this
theorem trod_flat {base : Nat} {spare : Nat → Bool} {held : Bool} {t : TypeId} {fs : Array Field} {fuel : Nat} {cs : List Value} {x : DataW H × List MemPlace} (ht : P.underlying t = some (.struct fs)) (h1 : oneCellFields P fs = true)
  (h : DataW.trod enc P w base spare held fuel t cs = some x) : ∃ (xs : List (DataW H × List MemPlace)) (n : Nat), cs.length = P.cellsOf t ∧ xs.length = fs.size ∧ ∀ (i : Nat) (f : Field), fs[i]? = some f → DataW.trod enc P w base spare held n f.type ((cs.drop i).take 1) = xs[i]? := by
 obtain ⟨xs, n, _, _, hl, hx, hf⟩ := DataW.trod_struct ht h
 refine ⟨xs, n, hl, hx, fun i f hi => ?_⟩
 obtain ⟨o, q⟩ := hone_of h1 i f hi
 have := hf i f hi
 rw [o, q] at this
 exact this
theorem four_cells {cs : List Value} (h : cs.length = 4) : ∃ a b c d, cs = [a, b, c, d] := by
 match cs, h with
 | [a, b, c, d], _ => exact ⟨a, b, c, d, rfl⟩
theorem open_way (fuel : Nat) (cs : List Value) (y : DataW H × List MemPlace) (h : DataW.trod enc Tryz.prog w 0 (fun _ => true) true fuel 120 cs = some y) : ∃ x, wayEl.E w x cs := by
 obtain ⟨xs, n, hlen, hxl, hf⟩ := trod_flat Tryz.underlying120 (by kernel_rfl) h
 obtain ⟨a, b, c, d, rfl⟩ := four_cells (hlen.trans (by kernel_rfl))
 have hx : xs.length = 4 := hxl
 obtain ⟨y0, y1, y2, y3, rfl⟩ : ∃ a b c d, xs = [a, b, c, d] := by
  match xs, hx with
  | [a, b, c, d], _ => exact ⟨a, b, c, d, rfl⟩
 have f0 := hf 0 _ rfl
 have f1 := hf 1 _ rfl
 have f2 := hf 2 _ rfl
 have f3 := hf 3 _ rfl
 obtain ⟨n0, e0, -, -⟩ := DataW.trod_int Tryz.underlying3 f0
 obtain ⟨n1, e1, -, -⟩ := DataW.trod_int Tryz.underlying3 f1
 obtain ⟨n2, e2, -, -⟩ := DataW.trod_int Tryz.underlying3 f2
 obtain ⟨n3, e3, -, -⟩ := DataW.trod_int Tryz.underlying3 f3
 simp at e0 e1 e2 e3
 subst e0 e1 e2 e3
 exact ⟨⟨n0, n1, n2, n3⟩, rfl⟩
theorem open_piece (fuel : Nat) (cs : List Value) (y : DataW H × List MemPlace) (h : DataW.trod enc Tryz.prog w 0 (fun _ => true) true fuel 84 cs = some y) : ∃ x, pieceEl.E w x cs := by
 obtain ⟨xs, n, hlen, hxl, hf⟩ := trod_flat Tryz.underlying84 (by kernel_rfl) h
 obtain ⟨a, b, c, d, rfl⟩ := four_cells (hlen.trans (by kernel_rfl))
 have hx : xs.length = 4 := hxl
 obtain ⟨y0, y1, y2, y3, rfl⟩ : ∃ a b c d, xs = [a, b, c, d] := by
  match xs, hx with
  | [a, b, c, d], _ => exact ⟨a, b, c, d, rfl⟩
 have f0 := hf 0 _ rfl
 have f1 := hf 1 _ rfl
 have f2 := hf 2 _ rfl
 have f3 := hf 3 _ rfl
 obtain ⟨n0, e0, -, -⟩ := DataW.trod_int Tryz.underlying5 f0
 obtain ⟨n1, e1, -, -⟩ := DataW.trod_int Tryz.underlying3 f1
 obtain ⟨n2, e2, -, -⟩ := DataW.trod_int Tryz.underlying3 f2
 obtain ⟨v, ws, e3, hr⟩ := open_list wayEl Tryz.underlying82 (by kernel_rfl) (by decide) (open_way (enc := enc) (w := w)) f3
 simp at e0 e1 e2 e3
 subst e0 e1 e2 e3
 exact ⟨⟨n0, n1, n2, ws⟩, d, rfl, hr⟩
theorem open_end (fuel : Nat) (cs : List Value) (y : DataW H × List MemPlace) (h : DataW.trod enc Tryz.prog w 0 (fun _ => true) true fuel 86 cs = some y) : ∃ x, endEl.E w x cs := by
 obtain ⟨xs, n, hlen, hxl, hf⟩ := trod_flat Tryz.underlying86 (by kernel_rfl) h
 obtain ⟨a, b, c, d, rfl⟩ := four_cells (hlen.trans (by kernel_rfl))
 have hx : xs.length = 4 := hxl
 obtain ⟨y0, y1, y2, y3, rfl⟩ : ∃ a b c d, xs = [a, b, c, d] := by
  match xs, hx with
  | [a, b, c, d], _ => exact ⟨a, b, c, d, rfl⟩
 have f0 := hf 0 _ rfl
 have f1 := hf 1 _ rfl
 have f2 := hf 2 _ rfl
 have f3 := hf 3 _ rfl
 obtain ⟨n0, e0, -, -⟩ := DataW.trod_int Tryz.underlying3 f0
 obtain ⟨n1, e1, -, -⟩ := DataW.trod_int Tryz.underlying3 f1
 obtain ⟨n2, e2, -, -⟩ := DataW.trod_int Tryz.underlying3 f2
 obtain ⟨n3, e3, -⟩ := DataW.trod_bool Tryz.underlying4 f3
 simp at e0 e1 e2 e3
 subst e0 e1 e2 e3
 exact ⟨⟨n0, n1, n2, n3⟩, rfl⟩
theorem cellOk_spot {r : Reach} {base : Nat} {t e : TypeId} {v : Value} (hu : P.underlying t = some (.slice e)) (hv : Cell.okWide P w r base t v) : (∃ len cap, v = .slice none len cap) ∨ ∃ g o len cap, v = .slice (some ⟨g, o, none⟩) len cap := by
 obtain ⟨a, len, cap, rfl⟩ := cell_slice hu hv
 cases a with
 | none => exact .inl ⟨_, _, rfl⟩
 | some a =>
  obtain ⟨g, o, s⟩ := a
  simp [Cell.okWide, Cell.ok, hu] at hv
  have := hv.2.2.2.1
  subst this
  exact .inr ⟨g, o, _, _, rfl⟩
/-- a slice of integers in a cell. -/
theorem open_ints_cell {r : Reach} {base : Nat} {t e : TypeId} {v : Value} {fuel : Nat} {y : DataW H × List MemPlace} (hu : P.underlying t = some (.slice e)) (he : P.underlying e = some (.int .i64)) (hc : P.cellsOf e = 1)
  (hv : Cell.okWide P w r base t v) (h : DataW.trod enc P w 0 (fun _ => true) true fuel t [v] = some y) : ∃ zs, RdI w v zs := by
 rcases cellOk_spot hu hv with ⟨len, cap, rfl⟩ | ⟨g, o, len, cap, rfl⟩
 ·rcases open_ints hu he hc h with ⟨hcs, _⟩ | ⟨a, len', cap', zs, hcs, _⟩
  ·simp at hcs
   obtain ⟨rfl, rfl⟩ := hcs
   exact ⟨[], Rd.nil _ _⟩
  ·simp at hcs
 ·rcases open_ints hu he hc h with ⟨hcs, _⟩ | ⟨a, len', cap', zs, hcs, _, hl, hm, hz, _, hcell, hwz⟩
  ·simp at hcs
  ·simp at hcs
   obtain ⟨rfl, rfl, rfl⟩ := hcs
   simp only [if_true] at hz
   refine ⟨zs.take len, by simp [ints], .inr ⟨g, o, cap, by simp [hz, hl], by simp [hz, hl], hm, fun i hi => ?_⟩⟩
   have hi' : i < len := by simp at hi; omega
   have := hcell i (by omega)
   rw [add_none'] at this
   rw [this, ints_get _ i (by simp; omega)]
   congr 2
   simp [List.getD, hi']
theorem open_R {r : Reach} {base : Nat} {v : Value} {d : DataW H} {p : List MemPlace} (hv : Value.okWide Tryz.prog w r base 26 v) (h : DataW.Trod enc Tryz.prog w 0 (fun _ => true) true 26 v d p) :
  ∃ (R : RulesZ) (vp vs ve : Value), v = rulesV R vp vs ve ∧ RdR w R vp vs ve ∧ R.name.size ≤ maxLen := by
 obtain ⟨cs, rfl, hl, hcell⟩ := okWide_cells (ts := [9, 3, 3, 22, 23, 4, 4, 24, 3, 3, 3]) Tryz.underlying26 (by kernel_rfl) (by kernel_rfl) hv
 obtain ⟨fuel, hf⟩ := h
 simp only [Value.cells] at hf
 obtain ⟨xs, n, _, hxl, hf⟩ := trod_flat Tryz.underlying26 (by kernel_rfl) hf
 obtain ⟨k0, k1, k2, k3, k4, k5, k6, k7, k8, k9, k10, rfl⟩ : ∃ k0 k1 k2 k3 k4 k5 k6 k7 k8 k9 k10, cs = [k0, k1, k2, k3, k4, k5, k6, k7, k8, k9, k10] := by
  match cs, hl with
  | [k0, k1, k2, k3, k4, k5, k6, k7, k8, k9, k10], _ => exact ⟨k0, k1, k2, k3, k4, k5, k6, k7, k8, k9, k10, rfl⟩
 have hx : xs.length = 11 := hxl
 obtain ⟨y0, y1, y2, y3, y4, y5, y6, y7, y8, y9, y10, rfl⟩ : ∃ k0 k1 k2 k3 k4 k5 k6 k7 k8 k9 k10, xs = [k0, k1, k2, k3, k4, k5, k6, k7, k8, k9, k10] := by
  match xs, hx with
  | [k0, k1, k2, k3, k4, k5, k6, k7, k8, k9, k10], _ => exact ⟨k0, k1, k2, k3, k4, k5, k6, k7, k8, k9, k10, rfl⟩
 have ci : Tryz.prog.cellsOf 3 = 1 := by kernel_rfl
 have f0 := hf 0 _ rfl
 have f1 := hf 1 _ rfl
 have f2 := hf 2 _ rfl
 have f3 := hf 3 _ rfl
 have f4 := hf 4 _ rfl
 have f5 := hf 5 _ rfl
 have f6 := hf 6 _ rfl
 have f7 := hf 7 _ rfl
 have f8 := hf 8 _ rfl
 have f9 := hf 9 _ rfl
 have f10 := hf 10 _ rfl
 obtain ⟨s, e0, -, hs⟩ := DataW.trod_string Tryz.underlying9 f0
 obtain ⟨n1, e1, -, -⟩ := DataW.trod_int Tryz.underlying3 f1
 obtain ⟨n2, e2, -, -⟩ := DataW.trod_int Tryz.underlying3 f2
 obtain ⟨v3, ps, e3, hp⟩ := open_list pieceEl Tryz.underlying22 (by kernel_rfl) (by decide) (open_piece (enc := enc) (w := w)) f3
 obtain ⟨b5, e5, -⟩ := DataW.trod_bool Tryz.underlying4 f5
 obtain ⟨b6, e6, -⟩ := DataW.trod_bool Tryz.underlying4 f6
 obtain ⟨v7, es, e7, he⟩ := open_list endEl Tryz.underlying24 (by kernel_rfl) (by decide) (open_end (enc := enc) (w := w)) f7
 obtain ⟨n8, e8, -, -⟩ := DataW.trod_int Tryz.underlying3 f8
 obtain ⟨n9, e9, -, -⟩ := DataW.trod_int Tryz.underlying3 f9
 obtain ⟨n10, e10, -, -⟩ := DataW.trod_int Tryz.underlying3 f10
 simp at e0 e1 e2 e3 e5 e6 e7 e8 e9 e10
 subst e0 e1 e2 e3 e5 e6 e7 e8 e9 e10
 obtain ⟨u, hu, hc4⟩ := hcell 4 k4 rfl
 simp at hu
 subst hu
 obtain ⟨zs, hz⟩ := open_ints_cell Tryz.underlying23 Tryz.underlying3 ci hc4 (by simpa using f4)
 exact ⟨⟨s, n1, n2, ps, zs, b5, b6, es, n8, n9, n10⟩, k3, k4, k7, rfl, ⟨hp, hz, he⟩, hs⟩
end
end Go.Proofs.YthklhndcdijneaaGreatDoor
namespace Go.Proofs.YthklhndcdijneaaGreatDoor
open Go.ChangeShapes Go.WideShapes Go.ChangeAt Go.RowKit Go.Deep
set_option linter.unusedVariables false
section
variable {H : Type} {enc : TypeId × Value → H} {w : World}
end
end Go.Proofs.YthklhndcdijneaaGreatDoor
namespace Go.Proofs.YthklhndcdijneaaGreatDoor
open Go.ChangeShapes Go.WideShapes Go.ChangeAt Go.RowKit Go.Deep
set_option linter.unusedVariables false
section
variable {H : Type} {enc : TypeId × Value → H} {w : World}
end
end Go.Proofs.YthklhndcdijneaaGreatDoor
namespace Go.Proofs.YthklhndcdijneaaGreatDoor
open Go.ChangeShapes Go.WideShapes Go.ChangeAt Go.RowKit Go.Deep
set_option linter.unusedVariables false
section
variable {H : Type} {enc : TypeId × Value → H} {w : World}
end
end Go.Proofs.YthklhndcdijneaaGreatDoor
namespace Go.Proofs.YthklhndcdijneaaGreatDoor
open Go.ChangeShapes Go.WideShapes Go.ChangeAt Go.RowKit Go.Deep
set_option linter.unusedVariables false
set_option maxRecDepth 100000
section
variable {H : Type} {enc : TypeId × Value → H} {w : World}
end
end Go.Proofs.YthklhndcdijneaaGreatDoor
