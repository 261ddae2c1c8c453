/- record.node. -/
import Derived.Test.YthklhndcdijneaaGreatDoorC30
import Derived.Test.YthklhndcdijneaaGreatDoorC05
import Derived.Test.YthklhndcdijneaaGreatDoorC19
import Derived.Test.YthklhndcdijneaaGreatDoorC04
import Derived.BigQuiet
import Derived.Deep.Cut
import Derived.Deep.CutRange
import Derived.Deep.QuietTactic
namespace Go.Proofs.YthklhndcdijneaaGreatDoor
open Go.ChangeShapes Go.WideShapes Go.ChangeAt Go.RowKit
set_option linter.unusedVariables false
/-- what record.node works on: the rules' and the record's variables, and deep. -/
structure NdSt (B : Nat) (W0 w : World) (R : RulesZ) (vp vs ve : Value) (X : RecZ) (vt vn : Value) (bR bX db dc : Nat) (ds : List Int) : Prop where
 low : Below B W0 w
 boxR : Box w bR [.string R.name, .int .i64 R.width, .int .i64 R.height, vp, vs, .bool R.falls, .bool R.keeps, ve, .int .i64 R.blocked, .int .i64 R.quiet, .int .i64 R.rept] 26
 boxX : Box w bX [vt, .string X.comment, vn, .int .i64 X.result] 30
 dp : w.ownsRow B 3 1 (.slice (some ⟨db, 0, none⟩) X.nodes.length dc) X.nodes.length (ints ds)
 neR : bR ≠ db
 neX : bX ≠ db
theorem NdSt.size {B : Nat} {W0 w : World} {R : RulesZ} {vp vs ve : Value} {X : RecZ} {vt vn : Value} {bR bX db dc : Nat} {ds : List Int} (h : NdSt B W0 w R vp vs ve X vt vn bR bX db dc ds) : B ≤ db ∧ db < w.heap.size := h.dp.lt db rfl
theorem NdSt.len {B : Nat} {W0 w : World} {R : RulesZ} {vp vs ve : Value} {X : RecZ} {vt vn : Value} {bR bX db dc : Nat} {ds : List Int} (h : NdSt B W0 w R vp vs ve X vt vn bR bX db dc ds) : ds.length = X.nodes.length := by
 have := h.dp.1; rw [ints_len] at this; omega
theorem NdSt.stays {B : Nat} {W0 w w' : World} {R : RulesZ} {vp vs ve : Value} {X : RecZ} {vt vn : Value} {bR bX db dc : Nat} {ds : List Int} (h : NdSt B W0 w R vp vs ve X vt vn bR bX db dc ds) (hb : Below w.heap.size w w') : NdSt B W0 w' R vp vs ve X vt vn bR bX db dc ds :=
 ⟨h.low.trans (hb.mono (by have := h.size; omega)), h.boxR.stays hb, h.boxX.stays hb, own_stays h.dp hb, h.neR, h.neX⟩
theorem NdSt.set {B : Nat} {W0 w : World} {R : RulesZ} {vp vs ve : Value} {X : RecZ} {vt vn : Value} {bR bX db dc : Nat} {ds : List Int} (h : NdSt B W0 w R vp vs ve X vt vn bR bX db dc ds) (i : Nat) (v : Int) : NdSt B W0 (w.setCell ⟨db, i, none⟩ (.int .i64 v)) R vp vs ve X vt vn bR bX db dc (ds.set i v) := by
 have := h.size
 refine ⟨h.low.setCell (p := ⟨db, i, none⟩) this.1 _, h.boxR.far ⟨db, i, none⟩ _ h.neR, h.boxX.far ⟨db, i, none⟩ _ h.neX, ?_, h.neR, h.neX⟩
 rw [← ints_set]
 exact (h.dp.stored i (.int .i64 v)).1
theorem NdSt.far {B : Nat} {W0 w : World} {R : RulesZ} {vp vs ve : Value} {X : RecZ} {vt vn : Value} {bR bX db dc : Nat} {ds : List Int} (h : NdSt B W0 w R vp vs ve X vt vn bR bX db dc ds) (b k : Nat) (v : Value) (hB : B ≤ b) (h1 : b ≠ bR) (h2 : b ≠ bX) (h3 : b ≠ db) : NdSt B W0 (w.setCell ⟨b, k, none⟩ v) R vp vs ve X vt vn bR bX db dc ds :=
 ⟨h.low.setCell (p := ⟨b, k, none⟩) hB _, h.boxR.far ⟨b, k, none⟩ _ (fun e => h1 e.symm), h.boxX.far ⟨b, k, none⟩ _ (fun e => h2 e.symm), ownsRow_setCell_other h.dp (by simp [Value.ownBlock]; exact fun e => h3 e.symm) _, h.neR, h.neX⟩
theorem set_same (l : List Int) (i : Nat) : l.set i (l.getD i 0) = l := by
 apply List.ext_getElem?
 intro k
 rw [List.getElem?_set]
 by_cases e : i = k
 ·subst e
  by_cases h : i < l.length
  ·simp [h]
  ·simp [h]
 ·rw [if_neg e]
theorem any_step {α : Type} (p : α → Bool) (l : List α) (k : Nat) (h : k < l.length) : (l.drop k).any p = (p l[k] || (l.drop (k + 1)).any p) := by
 rw [List.drop_eq_getElem_cons h, List.any_cons]
/-- plain.Run's answer, with its position's cells told. -/
theorem Run_code (HS : SortMvSaid) (R : RulesZ) (vp vs ve : Value) (v : Value) (l : List MoveZ) (w : World) (hr : RdR w R vp vs ve) (hnm : R.name.size ≤ maxLen) (hl : RdL moveEl w v l) :
  Calls Tryz.prog 40 #[(.agg #[.string R.name, .int .i64 R.width, .int .i64 R.height, vp, vs, .bool R.falls, .bool R.keeps, ve, .int .i64 R.blocked, .int .i64 R.quiet, .int .i64 R.rept]), v] w fun e w' => Below w.heap.size w w' ∧ ∃ (a1 a2 a3 : Option Addr) (n1 c1 n2 c2 n3 c3 : Nat) (x y rv : Int), e = .returned (.tuple #[.agg #[.slice a1 n1 c1, .slice a2 n2 c2, .slice a3 n3 c3, .int .i64 x, .int .i64 y], .int .i64 rv, .int .i64 (runErr R l)]) := by
 refine (PRun_any HS R vp vs ve v l w hr hnm hl).mono fun e w' hp => ?_
 rcases hp with ⟨-, rfl, hb⟩ | ⟨h0, -, -, -, vc, v0, v1, rfl, ho, hb⟩
 ·exact ⟨hb, none, none, none, 0, 0, 0, 0, 0, 0, 0, 0, 0, rfl⟩
 ·obtain ⟨h1, h2, h3, -⟩ := ho
  obtain ⟨a1, c1, rfl⟩ := own_form2 h1
  obtain ⟨a2, c2, rfl⟩ := own_form2 h2
  obtain ⟨a3, c3, rfl⟩ := own_form2 h3
  exact ⟨hb, a1, a2, a3, _, c1, _, c2, _, c3, _, _, _, by rw [h0]; rfl⟩
def NodePost (R : RulesZ) (X : RecZ) (ds : List Int) (i B db dc : Nat) (W0 : World) (e : Ending) (w' : World) : Prop :=
 e = .returned (.int .i64 (nodeE R X.nodes ds i)) ∧ Below B W0 w' ∧ (nodeE R X.nodes ds i = 0 → w'.ownsRow B 3 1 (.slice (some ⟨db, 0, none⟩) X.nodes.length dc) X.nodes.length (ints (ds.set i (depE X.nodes ds i))))
set_option maxRecDepth 100000 in
set_option maxHeartbeats 16000000 in
theorem node_any (HS : SortMvSaid) (R : RulesZ) (vp vs ve : Value) (X : RecZ) (vt vn : Value) (ds : List Int) (B db dc i : Nat) (W0 w : World) (hr : RdR W0 R vp vs ve) (hnm : R.name.size ≤ maxLen) (hx : RdX W0 X vt vn)
  (hB : W0.heap.size ≤ B) (hl : Below B W0 w) (ho : w.ownsRow B 3 1 (.slice (some ⟨db, 0, none⟩) X.nodes.length dc) X.nodes.length (ints ds)) (hi : i < X.nodes.length) (h2 : X.nodes.length ≤ 200) (hb : Back X.nodes i)
  (hd : ∀ k, 0 ≤ ds.getD k 0 ∧ ds.getD k 0 ≤ 20) :
  Calls Tryz.prog 18 #[(.agg #[.string R.name, .int .i64 R.width, .int .i64 R.height, vp, vs, .bool R.falls, .bool R.keeps, ve, .int .i64 R.blocked, .int .i64 R.quiet, .int .i64 R.rept]), recV X vt vn, .int .i64 i, .slice (some ⟨db, 0, none⟩) X.nodes.length dc] w (NodePost R X ds i B db dc W0) := by
 have HSh := Lib.hid HS
 have HR := Lib.hid hr
 have HN := Lib.hid hnm
 have HX := Lib.hid hx
 have HK := Lib.hid hb
 have HD := Lib.hid hd
 obtain ⟨na, nc, rfl, hn1, hn2⟩ := hx.2.1.form
 unfold maxLen at hn2
 obtain ⟨g, o, rfl, hg, hc⟩ := nodes_some HX.out.2.1 (by omega)
 have HC := Lib.hid hc
 have HE : Hid (nodeE R X.nodes ds i = if cmtErr (ndAt X.nodes i).comment ≠ 0 then cmtErr (ndAt X.nodes i).comment else if (i : Int) ≤ (ndAt X.nodes i).parent ∨ onB X.nodes (ndAt X.nodes i).parent ((i : Int) - 1) = false then 3 else
  if twinB X.nodes i = true then 7 else if runErr R (wayI X.nodes i) ≠ 0 then runErr R (wayI X.nodes i) else if 20 < depE X.nodes ds i then 2 else 0) := Lib.hid rfl
 have HDp : Hid (depE X.nodes ds i = (if 0 ≤ (ndAt X.nodes i).parent then ds.getD (ndAt X.nodes i).parent.toNat 0 else ds.getD i 0) + (if sibB X.nodes i = true then 1 else 0)) := Lib.hid rfl
 have HTw : Hid (twinB X.nodes i = (X.nodes.take i).any fun y => y.parent == (ndAt X.nodes i).parent && y.m == (ndAt X.nodes i).m) := Lib.hid rfl
 have HSb : Hid (sibB X.nodes i = (X.nodes.take i).any fun y => y.parent == (ndAt X.nodes i).parent) := Lib.hid rfl
 obtain ⟨e0, e1, e2, e3, e4, hcs⟩ := hc i hi
 have HC2 : Hid (∀ w', Below B W0 w' → w'.cell? ⟨g, o + i * 5, none⟩ = some (.int .i64 (ndAt X.nodes i).parent) ∧ w'.cell? ⟨g, o + i * 5 + 1, none⟩ = some (.int .i64 (ndAt X.nodes i).m.src) ∧ w'.cell? ⟨g, o + i * 5 + 2, none⟩ = some (.int .i64 (ndAt X.nodes i).m.dst) ∧ w'.cell? ⟨g, o + i * 5 + 3, none⟩ = some (.int .i64 (ndAt X.nodes i).m.piece) ∧ w'.cell? ⟨g, o + i * 5 + 4, none⟩ = some (.string (ndAt X.nodes i).comment)) := Lib.hid (fun w' hb => by
  have hgB : g < B := by omega
  exact ⟨(hb.cell (p := ⟨g, _, none⟩) hgB).trans e0, (hb.cell (p := ⟨g, _, none⟩) hgB).trans e1, (hb.cell (p := ⟨g, _, none⟩) hgB).trans e2, (hb.cell (p := ⟨g, _, none⟩) hgB).trans e3, (hb.cell (p := ⟨g, _, none⟩) hgB).trans e4⟩)
 have hdb := ho.lt db rfl
 have HO := Lib.hid ho
 have HLw := Lib.hid hl
 clear hr hnm hx hb hd hc e0 e1 e2 e3 e4 hl ho HS
 unfold recV
 go_enter Tryz.func18, Tryz.ntmps18
 go_upto_region 1 with (fail)
 have hbB : B ≤ w.heap.size := by omega
 obtain ⟨bR, hbR⟩ : ∃ bR, bR = w.heap.size := ⟨_, rfl⟩
 obtain ⟨bX, hbX⟩ : ∃ bX, bX = w.heap.size + 1 := ⟨_, rfl⟩
 have HSt : Hid (NdSt B W0 ((w.alloc (.cells #[.string R.name, .int .i64 R.width, .int .i64 R.height, vp, vs, .bool R.falls, .bool R.keeps, ve, .int .i64 R.blocked, .int .i64 R.quiet, .int .i64 R.rept] 26)).alloc (.cells #[vt, .string X.comment, .slice (some ⟨g, o, none⟩) X.nodes.length nc, .int .i64 X.result] 30)) R vp vs ve X vt (.slice (some ⟨g, o, none⟩) X.nodes.length nc) bR bX db dc ds) := Lib.hid
  ⟨(HLw.out.alloc hbB _).alloc (by rw [World.size_alloc]; omega) _, (Box.new' w bR [.string R.name, .int .i64 R.width, .int .i64 R.height, vp, vs, .bool R.falls, .bool R.keeps, ve, .int .i64 R.blocked, .int .i64 R.quiet, .int .i64 R.rept] 26 hbR.symm).alloc _, Box.new' (w.alloc (.cells #[.string R.name, .int .i64 R.width, .int .i64 R.height, vp, vs, .bool R.falls, .bool R.keeps, ve, .int .i64 R.blocked, .int .i64 R.quiet, .int .i64 R.rept] 26)) bX [vt, .string X.comment, .slice (some ⟨g, o, none⟩) X.nodes.length nc, .int .i64 X.result] 30 (by rw [World.size_alloc, hbX]), (HO.out.alloc _).alloc _, by omega, by omega⟩
 rw [← hbR, show bR + 1 = bX by omega]
 clear hbX hbR HLw HO
 generalize ((w.alloc (.cells #[.string R.name, .int .i64 R.width, .int .i64 R.height, vp, vs, .bool R.falls, .bool R.keeps, ve, .int .i64 R.blocked, .int .i64 R.quiet, .int .i64 R.rept] 26)).alloc (.cells #[vt, .string X.comment, .slice (some ⟨g, o, none⟩) X.nodes.length nc, .int .i64 X.result] 30)) = w0 at *
 have hdl := HSt.out.size
 have hxl := HSt.out.boxX.lt
 have q2 := HSt.out.boxX.cell 2 rfl
 have hgB : g < B := by omega
 obtain ⟨c0, c1, c2, c3, c4⟩ := HC2.out _ HSt.out.low
 have hgw : g < w0.heap.size := by omega
 have hil : (i : Int) < (X.nodes.length : Int) := by omega
 generalize (ndAt X.nodes i).comment = cm at *
 generalize (ndAt X.nodes i).m = mv at *
 generalize hpa : (ndAt X.nodes i).parent = pa at *
 have hpaE := Lib.hid hpa
 clear hpa
 go_upto_region 2 with (fail)
 obtain ⟨bN, hbN⟩ : ∃ bN, bN = w0.heap.size := ⟨_, rfl⟩
 rw [← hbN]
 have HNb := Lib.hid (Box.new' w0 bN [.int .i64 pa, .int .i64 mv.src, .int .i64 mv.dst, .int .i64 mv.piece, .string cm] 46 hbN.symm)
 have HS1 := Lib.hid (HSt.out.stays ((Below.refl w0.heap.size w0).alloc (Nat.le_refl _) (.cells #[.int .i64 pa, .int .i64 mv.src, .int .i64 mv.dst, .int .i64 mv.piece, .string cm] 46)))
 have hNd : bN ≠ db := by omega
 clear hbN HSt c0 c1 c2 c3 c4 q2
 generalize w0.alloc (.cells #[.int .i64 pa, .int .i64 mv.src, .int .i64 mv.dst, .int .i64 mv.piece, .string cm] 46) = w1 at *
 have n4 := HNb.out.cell 4 rfl
 have n0 := HNb.out.cell 0 rfl
 have HCm := Lib.hid (comment_any cm w1 hcs)
 generalize hce : cmtErr cm = ce at *
 clear hce
 go_upto_region 3 with (go_at_call 17; refine HCm.out.mono ?_; rintro e w5 ⟨rfl, rfl⟩)
 by_cases hce : ce = 0
 rotate_left
 ·have HF : Hid (nodeE R X.nodes ds i = ce) := Lib.hid (by rw [HE.out, if_pos hce])
  go_wp2_with fail
  go_ret
  exact ⟨by rw [HF.out]; rfl, HS1.out.low, fun e => absurd (HF.out.symm.trans e) hce⟩
 subst hce
 have HE2 : Hid (nodeE R X.nodes ds i = if (i : Int) ≤ pa ∨ onB X.nodes pa ((i : Int) - 1) = false then 3 else
  if twinB X.nodes i = true then 7 else if runErr R (wayI X.nodes i) ≠ 0 then runErr R (wayI X.nodes i) else if 20 < depE X.nodes ds i then 2 else 0) := Lib.hid (by rw [HE.out, if_neg (by decide)])
 clear HE HCm
 have x0 := HS1.out.boxX.cell 0 rfl
 have x1 := HS1.out.boxX.cell 1 rfl
 have x2 := HS1.out.boxX.cell 2 rfl
 have x3 := HS1.out.boxX.cell 3 rfl
 have hxl1 := HS1.out.boxX.lt
 have hnl1 := HNb.out.lt
 by_cases hpi : (i : Int) ≤ pa
 ·have HF : Hid (nodeE R X.nodes ds i = 3) := Lib.hid (by rw [HE2.out, if_pos (.inl hpi)])
  go_wp2_with fail
  go_ret
  exact ⟨by rw [HF.out]; rfl, HS1.out.low, fun e => by rw [HF.out] at e; cases e⟩
 have HOn := Lib.hid (on_any X vt (.slice (some ⟨g, o, none⟩) X.nodes.length nc) pa ((i : Int) - 1) i w1 (HX.out.below HS1.out.low hB) HK.out (by omega) (by omega))
 unfold recV at HOn
 cases hob : onB X.nodes pa ((i : Int) - 1)
 ·have HF : Hid (nodeE R X.nodes ds i = 3) := Lib.hid (by rw [HE2.out, if_pos (.inr hob)])
  rw [hob] at HOn
  clear hob
  go_wp2_with (go_at_call 37; refine HOn.out.mono ?_; rintro e w5 ⟨rfl, hb5⟩; have HB5 := Lib.hid (HS1.out.stays hb5).low; clear hb5)
  go_ret
  exact ⟨by rw [HF.out]; rfl, HB5.out, fun e => by rw [HF.out] at e; cases e⟩
 have HE3 : Hid (nodeE R X.nodes ds i = if twinB X.nodes i = true then 7 else if runErr R (wayI X.nodes i) ≠ 0 then runErr R (wayI X.nodes i) else if 20 < depE X.nodes ds i then 2 else 0) := Lib.hid (by
  rw [HE2.out, if_neg (by rintro (h | h); exact hpi h; rw [hob] at h; cases h)])
 rw [hob] at HOn
 clear hob HE2
 obtain ⟨d1, hd1⟩ : ∃ d1, d1 = (if 0 ≤ pa then ds.getD pa.toNat 0 else ds.getD i 0) := ⟨_, rfl⟩
 have HD1 := Lib.hid hd1
 rw [← hd1] at HDp
 have hd1b : 0 ≤ d1 ∧ d1 ≤ 20 := by
  rw [hd1]
  split
  ·exact HD.out _
  ·exact HD.out _
 clear hd1
 go_upto_if 42 with (go_at_call 37; refine HOn.out.mono ?_; rintro e w5 ⟨rfl, hb5⟩; have HS5 := Lib.hid (HS1.out.stays hb5); have HN5 := Lib.hid (HNb.out.stays hb5); have n05 := HN5.out.cell 0 rfl; have n15 := HN5.out.cell 1 rfl; clear hb5)
 clear HS1 HNb x0 x1 x2 x3 n4 n0 HOn
 go_cut [43] from 43 to 50 (fun v43 wx => ∃ o43 : Value, o43 = v43 ∧ Hid (NdSt B W0 wx R vp vs ve X vt (.slice (some ⟨g, o, none⟩) X.nodes.length nc) bR bX db dc (ds.set i d1)) ∧ Hid (Box wx bN [.int .i64 pa, .int .i64 mv.src, .int .i64 mv.dst, .int .i64 mv.piece, .string cm] 46))
 case first =>
  by_cases hp0 : 0 ≤ pa
  ·obtain ⟨p, rfl⟩ : ∃ p : Nat, pa = (p : Int) := ⟨pa.toNat, by omega⟩
   have hd2 : ds.getD p 0 = d1 := by rw [HD1.out, if_pos (by omega)]; rfl
   have hdl5 := HS5.out.size
   have hpl : p < X.nodes.length := by omega
   have cp : w5.cell? ⟨db, p, none⟩ = some (.int .i64 d1) := by
    have := HS5.out.dp.cellAt p (by omega)
    rw [ints_get _ _ (by rw [HS5.out.len]; exact hpl), hd2] at this
    exact this
   have ci : w5.cell? ⟨db, i, none⟩ = some (.int .i64 (ds.getD i 0)) := by
    have := HS5.out.dp.cellAt i (by omega)
    rw [ints_get _ _ (by rw [HS5.out.len]; exact hi)] at this
    exact this
   have fi : w5.frozen? ⟨db, i, none⟩ = false := HS5.out.dp.frozenAt i
   have hpl' : (p : Int) < (X.nodes.length : Int) := by omega
   have HS6 := Lib.hid (HS5.out.set i d1)
   have HN6 := Lib.hid (HN5.out.far ⟨db, i, none⟩ (.int .i64 d1) hNd)
   clear hd2 HD1
   go_wp2_with fail
   go_meet
   exact ⟨_, rfl, HS6, HN6⟩
  ·have hd2 : ds.getD i 0 = d1 := by rw [HD1.out, if_neg hp0]
   have HS6 : Hid (NdSt B W0 w5 R vp vs ve X vt (.slice (some ⟨g, o, none⟩) X.nodes.length nc) bR bX db dc (ds.set i d1)) := Lib.hid (by rw [← hd2, set_same]; exact HS5.out)
   clear hd2 HD1
   go_wp2_with fail
   go_meet
   exact ⟨_, rfl, HS6, HN5⟩
 case rest =>
  obtain ⟨o43, rfl, HS6, HN6⟩ := hcut
  have hsl := fun w => run_take (P := Tryz.prog) (s := 5) Tryz.underlying28 (fun _ => by kernel_rfl) (some ⟨g, o, none⟩) X.nodes.length nc i (by omega) w
  have x2 := HS6.out.boxX.cell 2 rfl
  have hxl6 := HS6.out.boxX.lt
  have hnl6 := HN6.out.lt
  go_upto_region 10 with (fail)
  go_loopw [56, 12] (fun v56 v12 wr => ∃ (k : Nat) (o12 : Value), o12 = v12 ∧ k ≤ i ∧ v56 = .int .i64 k ∧ Hid (twinB X.nodes i = ((X.nodes.take i).drop k).any fun y => y.parent == pa && y.m == mv) ∧ Hid (NdSt B W0 wr R vp vs ve X vt (.slice (some ⟨g, o, none⟩) X.nodes.length nc) bR bX db dc (ds.set i d1)) ∧ Hid (Box wr bN [.int .i64 pa, .int .i64 mv.src, .int .i64 mv.dst, .int .i64 mv.piece, .string cm] 46)) (fun v _ _ => i - (intOf v).toNat)
  case atStart => exact ⟨0, _, rfl, Nat.zero_le _, rfl, HTw, HS6, HN6⟩
  case round =>
   obtain ⟨k, o12, rfl, hk, rfl, HT, HSr, HNr⟩ := hrel
   have hsz := HSr.out.size
   by_cases hlt : k < i
   ·obtain ⟨e0, e1, e2, e3, e4, -⟩ := HC.out k (by omega)
    have hgB : g < B := by omega
    have c0 := (HSr.out.low.cell (p := ⟨g, o + k * 5, none⟩) hgB).trans e0
    have c1 := (HSr.out.low.cell (p := ⟨g, o + k * 5 + 1, none⟩) hgB).trans e1
    have c2 := (HSr.out.low.cell (p := ⟨g, o + k * 5 + 2, none⟩) hgB).trans e2
    have c3 := (HSr.out.low.cell (p := ⟨g, o + k * 5 + 3, none⟩) hgB).trans e3
    have c4 := (HSr.out.low.cell (p := ⟨g, o + k * 5 + 4, none⟩) hgB).trans e4
    have hlen : (X.nodes.take i).length = i := by rw [List.length_take]; omega
    have HSt := Lib.hid (any_step (fun y : NodeZ => y.parent == pa && y.m == mv) (X.nodes.take i) k (by omega))
    have HGt : Hid ((X.nodes.take i)[k]'(by omega) = ndAt X.nodes k) := Lib.hid (by unfold ndAt; rw [List.getElem_take, List.getD_eq_getElem?_getD, List.getElem?_eq_getElem (by omega)]; rfl)
    rw [HGt.out] at HSt
    clear e0 e1 e2 e3 e4 hlen HGt
    generalize (ndAt X.nodes k).comment = cm2 at *
    generalize (ndAt X.nodes k).m = mk at *
    generalize (ndAt X.nodes k).parent = pk at *
    have hgr : g < wr.heap.size := by omega
    have hki : (k : Int) < (i : Int) := by omega
    go_upto_region 12 with (fail)
    obtain ⟨bY, hbY⟩ : ∃ bY, bY = wr.heap.size := ⟨_, rfl⟩
    rw [← hbY]
    have HYb := Lib.hid (Box.new' wr bY [.int .i64 pk, .int .i64 mk.src, .int .i64 mk.dst, .int .i64 mk.piece, .string cm2] 46 hbY.symm)
    have HS7 := Lib.hid (HSr.out.stays ((Below.refl wr.heap.size wr).alloc (Nat.le_refl _) (.cells #[.int .i64 pk, .int .i64 mk.src, .int .i64 mk.dst, .int .i64 mk.piece, .string cm2] 46)))
    have HN7 := Lib.hid (HNr.out.alloc (.cells #[.int .i64 pk, .int .i64 mk.src, .int .i64 mk.dst, .int .i64 mk.piece, .string cm2] 46))
    clear hbY HSr HNr c0 c1 c2 c3 c4
    generalize wr.alloc (.cells #[.int .i64 pk, .int .i64 mk.src, .int .i64 mk.dst, .int .i64 mk.piece, .string cm2] 46) = wy at *
    have y0 := HYb.out.cell 0 rfl
    have y1 := HYb.out.cell 1 rfl
    have y2 := HYb.out.cell 2 rfl
    have y3 := HYb.out.cell 3 rfl
    have n0 := HN7.out.cell 0 rfl
    have n1 := HN7.out.cell 1 rfl
    have n2 := HN7.out.cell 2 rfl
    have n3 := HN7.out.cell 3 rfl
    have hyl := HYb.out.lt
    have hnl := HN7.out.lt
    by_cases hpp : pk = pa
    ·have hpb : (pk != pa) = false := by simp [hpp]
     have heq := fun w => eqlM mk mv w
     by_cases hmm : mk = mv
     ·have HF : Hid (twinB X.nodes i = true) := Lib.hid (by rw [HT.out, HSt.out, hpp, hmm]; simp)
      have HF2 : Hid (nodeE R X.nodes ds i = 7) := Lib.hid (by rw [HE3.out, if_pos HF.out])
      rw [decide_eq_true hmm] at heq
      clear HT HSt hpp hmm
      go_wp2_with fail
      go_ret
      exact ⟨by rw [HF2.out]; rfl, HS7.out.low, fun e => by rw [HF2.out] at e; cases e⟩
     ·have HT2 : Hid (twinB X.nodes i = ((X.nodes.take i).drop (k + 1)).any fun y => y.parent == pa && y.m == mv) := Lib.hid (by rw [HT.out, HSt.out]; simp [hmm])
      rw [decide_eq_false hmm] at heq
      clear HT HSt hpp hmm
      go_wp2_with fail
      go_roundw
      case rel => exact ⟨k + 1, _, rfl, by omega, by go_num, HT2, HS7, HN7⟩
      case measure => simp [intOf]; omega
    ·have hpb : (pk != pa) = true := by simp [hpp]
     have HT2 : Hid (twinB X.nodes i = ((X.nodes.take i).drop (k + 1)).any fun y => y.parent == pa && y.m == mv) := Lib.hid (by rw [HT.out, HSt.out]; simp [hpp])
     clear HT HSt hpp
     go_wp2_with fail
     go_roundw
     case rel => exact ⟨k + 1, _, rfl, by omega, by go_num, HT2, HS7, HN7⟩
     case measure => simp [intOf]; omega
   ·obtain rfl : k = i := by omega
    have HF : Hid (twinB X.nodes k = false) := Lib.hid (by rw [HT.out, List.drop_of_length_le (by rw [List.length_take]; omega)]; rfl)
    have HE4 : Hid (nodeE R X.nodes ds k = if runErr R (wayI X.nodes k) ≠ 0 then runErr R (wayI X.nodes k) else if 20 < depE X.nodes ds k then 2 else 0) := Lib.hid (by rw [HE3.out, if_neg (by rw [HF.out]; decide)])
    clear HT HE3 HTw HF HS6 HN6
    have x2 := HSr.out.boxX.cell 2 rfl
    have hxlr := HSr.out.boxX.lt
    have hnlr := HNr.out.lt
    have hBr : B ≤ wr.heap.size := by omega
    have HCf := Lib.hid (ContainsFunc_nd _ (X.nodes.take k) (fun y => y.parent == pa) 39 #[.pointer (some ⟨bN, 0, none⟩)] wr ((RdL.take HX.out.2.1 k (by omega)).below HSr.out.low hB) callNodec (fun W x cs _ hE hb => nodec_any x cs pa bN W hE ((HNr.out.stays hb).cell 0 rfl) (HNr.out.stays hb).lt))
    rw [← HSb.out] at HCf
    obtain ⟨d2, hd2⟩ : ∃ d2, d2 = d1 + (if sibB X.nodes k = true then 1 else 0) := ⟨_, rfl⟩
    have HD2 := Lib.hid hd2
    rw [← hd2] at HDp
    have hd2b : 0 ≤ d2 ∧ d2 ≤ 21 := by rw [hd2]; split <;> omega
    clear hd2
    have HK1 : Hid (Back X.nodes (k + 1)) := Lib.hid (fun q hq => by
     by_cases e : q = k
     ·subst e; rw [hpaE.out]; omega
     ·exact HK.out q (by omega))
    generalize sibB X.nodes k = sb at *
    go_upto_if 76 with (go_at_call 38; refine HCf.out.mono ?_; rintro e w8 ⟨rfl, hb8⟩; have HS8 := Lib.hid (HSr.out.stays hb8); clear hb8)
    clear HSr HNr HCf hsl HC HC2 HSb
    go_cut [77] from 77 to 82 (fun v77 wx => ∃ o77 : Value, o77 = v77 ∧ Hid (NdSt B W0 wx R vp vs ve X vt (.slice (some ⟨g, o, none⟩) X.nodes.length nc) bR bX db dc (ds.set k d2)))
    case first =>
     have hdl8 := HS8.out.size
     cases sb
     ·have e2 : d2 = d1 := by rw [HD2.out]; simp
      have HS9 : Hid (NdSt B W0 w8 R vp vs ve X vt (.slice (some ⟨g, o, none⟩) X.nodes.length nc) bR bX db dc (ds.set k d2)) := Lib.hid (by rw [e2]; exact HS8.out)
      clear e2
      go_wp2_with fail
      go_meet
      exact ⟨_, rfl, HS9⟩
     ·have e2 : d2 = d1 + 1 := by rw [HD2.out]; simp
      have HS9 : Hid (NdSt B W0 (w8.setCell ⟨db, k, none⟩ (.int .i64 (d1 + 1))) R vp vs ve X vt (.slice (some ⟨g, o, none⟩) X.nodes.length nc) bR bX db dc (ds.set k d2)) := Lib.hid (by
       have := HS8.out.set k (d1 + 1)
       rw [List.set_set, ← e2] at this
       rw [← e2]
       exact this)
      have ci : w8.cell? ⟨db, k, none⟩ = some (.int .i64 d1) := by
       have := HS8.out.dp.cellAt k (by omega)
       rw [ints_get _ _ (by rw [HS8.out.len]; exact hi), List.getD_eq_getElem?_getD, List.getElem?_set_self (by have := HS8.out.len; rw [List.length_set] at this; omega)] at this
       exact this
      have fi : w8.frozen? ⟨db, k, none⟩ = false := HS8.out.dp.frozenAt k
      have W1 : IntKind.i64.wrap (d1 + 1) = d1 + 1 := IntWalk.i64_in _ (by omega)
      clear e2
      go_wp2_with fail
      go_meet
      exact ⟨_, rfl, HS9⟩
    case rest =>
     obtain ⟨o77, rfl, HS9⟩ := hcut
     go_upto_region 18 with (fail)
     have G0 : NdSt B W0 wc.drew R vp vs ve X vt (.slice (some ⟨g, o, none⟩) X.nodes.length nc) bR bX db dc (ds.set k d2) := HS9.out.stays (below_drewN (Below.refl _ _) 1)
     clear HS9
     refine wp_region_noPanic ?_
     refine beginL (S := (fun w' => w'.cell? ⟨bR, 0, none⟩ = some (.string R.name) ∧ w'.cell? ⟨bR, 1, none⟩ = some (.int .i64 R.width) ∧ w'.cell? ⟨bR, 2, none⟩ = some (.int .i64 R.height) ∧ w'.cell? ⟨bR, 3, none⟩ = some vp ∧ w'.cell? ⟨bR, 4, none⟩ = some vs ∧ w'.cell? ⟨bR, 5, none⟩ = some (.bool R.falls) ∧ w'.cell? ⟨bR, 6, none⟩ = some (.bool R.keeps) ∧ w'.cell? ⟨bR, 7, none⟩ = some ve ∧ w'.cell? ⟨bR, 8, none⟩ = some (.int .i64 R.blocked) ∧ w'.cell? ⟨bR, 9, none⟩ = some (.int .i64 R.quiet) ∧ w'.cell? ⟨bR, 10, none⟩ = some (.int .i64 R.rept) ∧ w'.cell? ⟨bX, 0, none⟩ = some vt ∧ w'.cell? ⟨bX, 1, none⟩ = some (.string X.comment) ∧ w'.cell? ⟨bX, 2, none⟩ = some (.slice (some ⟨g, o, none⟩) X.nodes.length nc) ∧ w'.cell? ⟨bX, 3, none⟩ = some (.int .i64 X.result))) (L := [10]) (by kernel_rfl) (by and_intros <;> first | exact G0.boxR.cell _ rfl | exact G0.boxX.cell _ rfl) (fun hHeld => ?_)
     refine tkL 0 ?_
     refine tkL 1 ?_
     refine tkW 2 ?_
     refine rdL (rs := [3, 9]) ?_
     refine (AllReadyL.cons (by first | (simp only [List.getElem?_toArray, List.getElem?_cons_zero, List.getElem?_cons_succ] <;> rfl) | rfl) (fun K hK => ?_) (AllReadyL.cons (by first | (simp only [List.getElem?_toArray, List.getElem?_cons_zero, List.getElem?_cons_succ] <;> rfl) | rfl) (fun K hK => ?_) AllReadyL.nil))
     ·skip
      go_simp
      refine (Way_any X vt (.slice (some ⟨g, o, none⟩) X.nodes.length nc) k (k + 1) _ (HX.out.below G0.low hB) HK1.out (by omega) (by omega) (by omega)).mono ?_
      rintro e y3 ⟨vw, rfl, how3, hb3⟩
      obtain ⟨wa, wcp, rfl⟩ := own_form2 how3
      have G3 := G0.stays hb3
      have M3 := rdM_of_own how3
      clear hb3 how3
      refine hK.out _ _ (by and_intros <;> first | exact G3.boxR.cell _ rfl | exact G3.boxX.cell _ rfl) (fun hHeld => ?_)
      clear hK K
      refine rdL (rs := [4, 9]) ?_
      refine (AllReadyL.cons (by first | (simp only [List.getElem?_toArray, List.getElem?_cons_zero, List.getElem?_cons_succ] <;> rfl) | rfl) (fun K hK => ?_) (AllReadyL.cons (by first | (simp only [List.getElem?_toArray, List.getElem?_cons_zero, List.getElem?_cons_succ] <;> rfl) | rfl) (fun K hK => ?_) AllReadyL.nil))
      ·skip
       go_simp
       refine (Run_code HSh.out R vp vs ve _ (wayI X.nodes k) _ (HR.out.below G3.low hB) HN.out M3).mono ?_
       rintro e y4 ⟨hb4, a1, a2, a3, n1, m1, n2, m2, n3, m3, px, py, rv, rfl⟩
       have G4 := G3.stays hb4
       clear hb4
       refine hK.out _ _ (by and_intros <;> first | exact G4.boxR.cell _ rfl | exact G4.boxX.cell _ rfl) (fun hHeld => ?_)
       clear hK K
       refine tkW 5 ?_
       refine tkW 6 ?_
       refine tkW 7 ?_
       refine tkW 8 ?_
       refine cnL 9 fun K hK => ?_
       go_simp
       refine K_world ?_
       intro y9 e9
       have P9 : Box y9 y4.heap.size [.slice none 0 0, .slice none 0 0, .slice none 0 0, .int .i64 0, .int .i64 0] 66 := by rw [e9]; exact Box.new y4 _ _
       have hp1 : B ≤ y4.heap.size := by have : db < y4.heap.size := G4.size.2; have := G4.size.1; omega
       have hp2 : y4.heap.size ≠ bR := by have : bR < y4.heap.size := G4.boxR.lt; omega
       have hp3 : y4.heap.size ≠ bX := by have : bX < y4.heap.size := G4.boxX.lt; omega
       have hp4 : y4.heap.size ≠ db := by have : db < y4.heap.size := G4.size.2; omega
       have G9 : NdSt B W0 y9 R vp vs ve X vt (.slice (some ⟨g, o, none⟩) X.nodes.length nc) bR bX db dc (ds.set k d2) := by rw [e9]; exact G4.stays ((Below.refl _ _).alloc (Nat.le_refl _) _)
       clear e9
       refine hK.out _ _ (by and_intros <;> first | exact G9.boxR.cell _ rfl | exact G9.boxX.cell _ rfl) (fun hHeld => ?_)
       clear hK K
       refine ltL 10 fun K hK => ?_
       have pd0 := P9.cell 0 rfl
       have pd1 := P9.cell 1 rfl
       have pd2 := P9.cell 2 rfl
       have pd3 := P9.cell 3 rfl
       have pd4 := P9.cell 4 rfl
       have pf0 := P9.frozen 0
       have pf1 := P9.frozen 1
       have pf2 := P9.frozen 2
       have pf3 := P9.frozen 3
       have pf4 := P9.frozen 4
       go_simp
       refine K_world ?_
       intro y10 e10
       have G10 : NdSt B W0 y10 R vp vs ve X vt (.slice (some ⟨g, o, none⟩) X.nodes.length nc) bR bX db dc (ds.set k d2) := by rw [e10]; exact ((((G9.far _ _ _ hp1 hp2 hp3 hp4).far _ _ _ hp1 hp2 hp3 hp4).far _ _ _ hp1 hp2 hp3 hp4).far _ _ _ hp1 hp2 hp3 hp4).far _ _ _ hp1 hp2 hp3 hp4
       clear e10 pd0 pf0 pd1 pf1 pd2 pf2 pd3 pf3 pd4 pf4
       refine hK.out _ _ ?_
       clear hK K
       refine tkW 11 ?_
       refine tkW 12 ?_
       refine dnN ?_
       have HG := Lib.hid G10
       have HHd := Lib.hid hHeld
       clear G10 HHd
       by_cases hru : runErr R (wayI X.nodes k) = 0
       rotate_left
       ·have HF : Hid (nodeE R X.nodes ds k = runErr R (wayI X.nodes k)) := Lib.hid (by rw [HE4.out, if_pos hru])
        generalize hrr : runErr R (wayI X.nodes k) = ru at *
        clear hrr
        go_wp2_with fail
        go_ret
        exact ⟨by rw [HF.out]; rfl, HG.out.low, fun e => absurd (HF.out.symm.trans e) hru⟩
       have HE5 : Hid (nodeE R X.nodes ds k = if 20 < depE X.nodes ds k then 2 else 0) := Lib.hid (by rw [HE4.out, if_neg (fun h => h hru)])
       rw [hru]
       clear hru HE4
       have hdl9 := HG.out.size
       have ci : y10.cell? ⟨db, k, none⟩ = some (.int .i64 d2) := by
        have := HG.out.dp.cellAt k (by omega)
        rw [ints_get _ _ (by rw [HG.out.len]; exact hi), List.getD_eq_getElem?_getD, List.getElem?_set_self (by have := HG.out.len; rw [List.length_set] at this; omega)] at this
        exact this
       by_cases h20 : 20 < d2
       ·have HF : Hid (nodeE R X.nodes ds k = 2) := Lib.hid (by rw [HE5.out, if_pos (by rw [HDp.out]; exact h20)])
        go_wp2_with fail
        go_ret
        exact ⟨by rw [HF.out]; rfl, HG.out.low, fun e => by rw [HF.out] at e; cases e⟩
       ·have HF : Hid (nodeE R X.nodes ds k = 0) := Lib.hid (by rw [HE5.out, if_neg (by rw [HDp.out]; exact h20)])
        go_wp2_with fail
        go_ret
        exact ⟨by rw [HF.out]; rfl, HG.out.low, fun _ => by rw [HDp.out]; exact HG.out.dp⟩
      ·skip
       go_simp
       refine K_world ?_
       intro y9 e9
       have P9 : Box y9 y3.heap.size [.slice none 0 0, .slice none 0 0, .slice none 0 0, .int .i64 0, .int .i64 0] 66 := by rw [e9]; exact Box.new y3 _ _
       have hp1 : B ≤ y3.heap.size := by have : db < y3.heap.size := G3.size.2; have := G3.size.1; omega
       have hp2 : y3.heap.size ≠ bR := by have : bR < y3.heap.size := G3.boxR.lt; omega
       have hp3 : y3.heap.size ≠ bX := by have : bX < y3.heap.size := G3.boxX.lt; omega
       have hp4 : y3.heap.size ≠ db := by have : db < y3.heap.size := G3.size.2; omega
       have G9 : NdSt B W0 y9 R vp vs ve X vt (.slice (some ⟨g, o, none⟩) X.nodes.length nc) bR bX db dc (ds.set k d2) := by rw [e9]; exact G3.stays ((Below.refl _ _).alloc (Nat.le_refl _) _)
       have M9 : RdL moveEl y9 (.slice wa (wayI X.nodes k).length wcp) (wayI X.nodes k) := by rw [e9]; exact M3.below ((Below.refl _ _).alloc (Nat.le_refl _) _) (Nat.le_refl _)
       clear e9
       refine hK.out _ _ (by and_intros <;> first | exact G9.boxR.cell _ rfl | exact G9.boxX.cell _ rfl) (fun hHeld => ?_)
       clear hK K
       refine cnL 4 fun K hK => ?_
       go_simp
       refine (Run_code HSh.out R vp vs ve _ (wayI X.nodes k) _ (HR.out.below G9.low hB) HN.out M9).mono ?_
       rintro e y4 ⟨hb4, a1, a2, a3, n1, m1, n2, m2, n3, m3, px, py, rv, rfl⟩
       have G4 := G9.stays hb4
       have P4 := P9.stays hb4
       clear hb4
       refine hK.out _ _ (by and_intros <;> first | exact G4.boxR.cell _ rfl | exact G4.boxX.cell _ rfl) (fun hHeld => ?_)
       clear hK K
       refine tkW 5 ?_
       refine tkW 6 ?_
       refine tkW 7 ?_
       refine tkW 8 ?_
       refine ltL 10 fun K hK => ?_
       have pd0 := P4.cell 0 rfl
       have pd1 := P4.cell 1 rfl
       have pd2 := P4.cell 2 rfl
       have pd3 := P4.cell 3 rfl
       have pd4 := P4.cell 4 rfl
       have pf0 := P4.frozen 0
       have pf1 := P4.frozen 1
       have pf2 := P4.frozen 2
       have pf3 := P4.frozen 3
       have pf4 := P4.frozen 4
       go_simp
       refine K_world ?_
       intro y10 e10
       have G10 : NdSt B W0 y10 R vp vs ve X vt (.slice (some ⟨g, o, none⟩) X.nodes.length nc) bR bX db dc (ds.set k d2) := by rw [e10]; exact ((((G4.far _ _ _ hp1 hp2 hp3 hp4).far _ _ _ hp1 hp2 hp3 hp4).far _ _ _ hp1 hp2 hp3 hp4).far _ _ _ hp1 hp2 hp3 hp4).far _ _ _ hp1 hp2 hp3 hp4
       clear e10 pd0 pf0 pd1 pf1 pd2 pf2 pd3 pf3 pd4 pf4
       refine hK.out _ _ ?_
       clear hK K
       refine tkW 11 ?_
       refine tkW 12 ?_
       refine dnN ?_
       have HG := Lib.hid G10
       have HHd := Lib.hid hHeld
       clear G10 HHd
       by_cases hru : runErr R (wayI X.nodes k) = 0
       rotate_left
       ·have HF : Hid (nodeE R X.nodes ds k = runErr R (wayI X.nodes k)) := Lib.hid (by rw [HE4.out, if_pos hru])
        generalize hrr : runErr R (wayI X.nodes k) = ru at *
        clear hrr
        go_wp2_with fail
        go_ret
        exact ⟨by rw [HF.out]; rfl, HG.out.low, fun e => absurd (HF.out.symm.trans e) hru⟩
       have HE5 : Hid (nodeE R X.nodes ds k = if 20 < depE X.nodes ds k then 2 else 0) := Lib.hid (by rw [HE4.out, if_neg (fun h => h hru)])
       rw [hru]
       clear hru HE4
       have hdl9 := HG.out.size
       have ci : y10.cell? ⟨db, k, none⟩ = some (.int .i64 d2) := by
        have := HG.out.dp.cellAt k (by omega)
        rw [ints_get _ _ (by rw [HG.out.len]; exact hi), List.getD_eq_getElem?_getD, List.getElem?_set_self (by have := HG.out.len; rw [List.length_set] at this; omega)] at this
        exact this
       by_cases h20 : 20 < d2
       ·have HF : Hid (nodeE R X.nodes ds k = 2) := Lib.hid (by rw [HE5.out, if_pos (by rw [HDp.out]; exact h20)])
        go_wp2_with fail
        go_ret
        exact ⟨by rw [HF.out]; rfl, HG.out.low, fun e => by rw [HF.out] at e; cases e⟩
       ·have HF : Hid (nodeE R X.nodes ds k = 0) := Lib.hid (by rw [HE5.out, if_neg (by rw [HDp.out]; exact h20)])
        go_wp2_with fail
        go_ret
        exact ⟨by rw [HF.out]; rfl, HG.out.low, fun _ => by rw [HDp.out]; exact HG.out.dp⟩
     ·skip
      go_simp
      refine K_world ?_
      intro y9 e9
      have P9 : Box y9 wc.heap.size [.slice none 0 0, .slice none 0 0, .slice none 0 0, .int .i64 0, .int .i64 0] 66 := by rw [e9]; exact Box.new wc.drew _ _
      have hp1 : B ≤ wc.heap.size := by have : db < wc.heap.size := G0.size.2; have := G0.size.1; omega
      have hp2 : wc.heap.size ≠ bR := by have : bR < wc.heap.size := G0.boxR.lt; omega
      have hp3 : wc.heap.size ≠ bX := by have : bX < wc.heap.size := G0.boxX.lt; omega
      have hp4 : wc.heap.size ≠ db := by have : db < wc.heap.size := G0.size.2; omega
      have G9 : NdSt B W0 y9 R vp vs ve X vt (.slice (some ⟨g, o, none⟩) X.nodes.length nc) bR bX db dc (ds.set k d2) := by rw [e9]; exact G0.stays ((Below.refl _ _).alloc (Nat.le_refl _) _)
      clear e9
      refine hK.out _ _ (by and_intros <;> first | exact G9.boxR.cell _ rfl | exact G9.boxX.cell _ rfl) (fun hHeld => ?_)
      clear hK K
      refine cnL 3 fun K hK => ?_
      go_simp
      refine (Way_any X vt (.slice (some ⟨g, o, none⟩) X.nodes.length nc) k (k + 1) _ (HX.out.below G9.low hB) HK1.out (by omega) (by omega) (by omega)).mono ?_
      rintro e y3 ⟨vw, rfl, how3, hb3⟩
      obtain ⟨wa, wcp, rfl⟩ := own_form2 how3
      have G3 := G9.stays hb3
      have P3 := P9.stays hb3
      have M3 := rdM_of_own how3
      clear hb3 how3
      refine hK.out _ _ (by and_intros <;> first | exact G3.boxR.cell _ rfl | exact G3.boxX.cell _ rfl) (fun hHeld => ?_)
      clear hK K
      refine cnL 4 fun K hK => ?_
      go_simp
      refine (Run_code HSh.out R vp vs ve _ (wayI X.nodes k) _ (HR.out.below G3.low hB) HN.out M3).mono ?_
      rintro e y4 ⟨hb4, a1, a2, a3, n1, m1, n2, m2, n3, m3, px, py, rv, rfl⟩
      have G4 := G3.stays hb4
      have P4 := P3.stays hb4
      clear hb4
      refine hK.out _ _ (by and_intros <;> first | exact G4.boxR.cell _ rfl | exact G4.boxX.cell _ rfl) (fun hHeld => ?_)
      clear hK K
      refine tkW 5 ?_
      refine tkW 6 ?_
      refine tkW 7 ?_
      refine tkW 8 ?_
      refine ltL 10 fun K hK => ?_
      have pd0 := P4.cell 0 rfl
      have pd1 := P4.cell 1 rfl
      have pd2 := P4.cell 2 rfl
      have pd3 := P4.cell 3 rfl
      have pd4 := P4.cell 4 rfl
      have pf0 := P4.frozen 0
      have pf1 := P4.frozen 1
      have pf2 := P4.frozen 2
      have pf3 := P4.frozen 3
      have pf4 := P4.frozen 4
      go_simp
      refine K_world ?_
      intro y10 e10
      have G10 : NdSt B W0 y10 R vp vs ve X vt (.slice (some ⟨g, o, none⟩) X.nodes.length nc) bR bX db dc (ds.set k d2) := by rw [e10]; exact ((((G4.far _ _ _ hp1 hp2 hp3 hp4).far _ _ _ hp1 hp2 hp3 hp4).far _ _ _ hp1 hp2 hp3 hp4).far _ _ _ hp1 hp2 hp3 hp4).far _ _ _ hp1 hp2 hp3 hp4
      clear e10 pd0 pf0 pd1 pf1 pd2 pf2 pd3 pf3 pd4 pf4
      refine hK.out _ _ ?_
      clear hK K
      refine tkW 11 ?_
      refine tkW 12 ?_
      refine dnN ?_
      have HG := Lib.hid G10
      have HHd := Lib.hid hHeld
      clear G10 HHd
      by_cases hru : runErr R (wayI X.nodes k) = 0
      rotate_left
      ·have HF : Hid (nodeE R X.nodes ds k = runErr R (wayI X.nodes k)) := Lib.hid (by rw [HE4.out, if_pos hru])
       generalize hrr : runErr R (wayI X.nodes k) = ru at *
       clear hrr
       go_wp2_with fail
       go_ret
       exact ⟨by rw [HF.out]; rfl, HG.out.low, fun e => absurd (HF.out.symm.trans e) hru⟩
      have HE5 : Hid (nodeE R X.nodes ds k = if 20 < depE X.nodes ds k then 2 else 0) := Lib.hid (by rw [HE4.out, if_neg (fun h => h hru)])
      rw [hru]
      clear hru HE4
      have hdl9 := HG.out.size
      have ci : y10.cell? ⟨db, k, none⟩ = some (.int .i64 d2) := by
       have := HG.out.dp.cellAt k (by omega)
       rw [ints_get _ _ (by rw [HG.out.len]; exact hi), List.getD_eq_getElem?_getD, List.getElem?_set_self (by have := HG.out.len; rw [List.length_set] at this; omega)] at this
       exact this
      by_cases h20 : 20 < d2
      ·have HF : Hid (nodeE R X.nodes ds k = 2) := Lib.hid (by rw [HE5.out, if_pos (by rw [HDp.out]; exact h20)])
       go_wp2_with fail
       go_ret
       exact ⟨by rw [HF.out]; rfl, HG.out.low, fun e => by rw [HF.out] at e; cases e⟩
      ·have HF : Hid (nodeE R X.nodes ds k = 0) := Lib.hid (by rw [HE5.out, if_neg (by rw [HDp.out]; exact h20)])
       go_wp2_with fail
       go_ret
       exact ⟨by rw [HF.out]; rfl, HG.out.low, fun _ => by rw [HDp.out]; exact HG.out.dp⟩
end Go.Proofs.YthklhndcdijneaaGreatDoor
