/- annotate.Merge. -/
import Derived.Test.YtnieifdogllbfaaGreatE25
import Derived.Test.YtnieifdogllbfaaGreatC06
import Derived.Test.YtnieifdogllbfaaGreatE22
import Derived.BigQuiet
import Derived.Deep.Cut
import Derived.Deep.CutRange
import Derived.Deep.QuietTactic
namespace Go.Proofs.YtnieifdogllbfaaGreat
open Go.ChangeShapes Go.WideShapes Go.ChangeAt Go.RowKit
set_option linter.unusedVariables false
theorem tree_below {w wm w' : World} {ns : List NodeZ} {ord : Int → List Nat} {bw : Nat} {Ws0 Ws : List Value} {S : Nat → Prop} {v : Value} {js : List Nat} (hm : w.grownBy wm none) (hb : bw = w.heap.size) (h : TS tBr tPt wm.heap.size wm w' ns ord bw Ws0 Ws S v js) : Below w.heap.size w w' :=
 ⟨h.grow.os.trans hm.os, h.grow.tape.trans hm.tape, h.grow.output.trans hm.output, Nat.le_trans hm.size h.grow.size, fun k hk => (h.grow.block k (Nat.lt_of_lt_of_le hk hm.size) (by simp; omega)).trans (hm.block k hk (by simp))⟩
def mergeX (X Y : RecZ) : RecZ := ⟨X.tags, if X.comment.size = 0 then Y.comment else X.comment, flatL (mergeL (trees X) (trees Y)) (-1) [], if X.result = 0 then Y.result else X.result⟩
def mergeE (R : RulesZ) (X Y : RecZ) : Int := if recErr R X ≠ 0 then recErr R X else if recErr R Y ≠ 0 then recErr R Y else recErr R (mergeX X Y)
def Zm (X Y : RecZ) (c : ByteArray) (r : Int) : RecZ := ⟨X.tags, c, flatL (mergeL (trees X) (trees Y)) (-1) [], r⟩
theorem OwnX.mono {b b' : Nat} {w : World} {X : RecZ} {vt vn : Value} (h : OwnX b w X vt vn) (hb : b' ≤ b) : OwnX b' w X vt vn := by
 obtain ⟨ts, h1, h2⟩ := h.tags
 exact ⟨⟨ts, own_base h1 hb, h2⟩, own_base h.nodes hb, h.sz, h.cs⟩
def ErrPost (e : Ending) (E : Int) : Prop := E ≠ 0 ∧ e = .returned (.tuple #[.agg #[.slice none 0 0, .string ⟨#[]⟩, .slice none 0 0, .int .i64 0], .int .i64 E])
def MergedPost (R : RulesZ) (X Y : RecZ) (w : World) (e : Ending) (w' : World) : Prop := Below w.heap.size w w' ∧
 ((∃ E, E = mergeE R X Y ∧ ErrPost e E) ∨ (mergeE R X Y = 0 ∧ ∃ vt vn, e = .returned (.tuple #[recV (mergeX X Y) vt vn, .int .i64 0]) ∧ RdX w' (mergeX X Y) vt vn))
/-- the state behind with: the parameters' boxes and the record that is made. -/
structure MSt (cR cX cY : List Value) (bR bX bY bO bo : Nat) (w wx : World) (Z : RecZ) (vt vn : Value) : Prop where
 old : Below w.heap.size w wx
 hR : Box wx bR cR 26
 hX : Box wx bX cX 30
 hY : Box wx bY cY 30
 hO : Box wx bO [.slice none 0 0, .string ⟨#[]⟩, .slice none 0 0, .int .i64 0] 30
 ho : Box wx bo [vt, .string Z.comment, vn, .int .i64 Z.result] 30
 own : OwnX w.heap.size wx Z vt vn
 lo : w.heap.size ≤ bo ∧ bR ≠ bo ∧ bX ≠ bo ∧ bY ≠ bo ∧ bO ≠ bo
 ne : ∀ g, (vt.ownBlock = some g ∨ vn.ownBlock = some g) → g ≠ bo ∧ bO < g
section
variable {cR cX cY : List Value} {bR bX bY bO bo : Nat} {w wx wy : World} {Z : RecZ} {vt vn : Value}
theorem MSt.stays (h : MSt cR cX cY bR bX bY bO bo w wx Z vt vn) (hb : Below wx.heap.size wx wy) : MSt cR cX cY bR bX bY bO bo w wy Z vt vn :=
 ⟨below_trans h.old hb h.old.size, h.hR.stays hb, h.hX.stays hb, h.hY.stays hb, h.hO.stays hb, h.ho.stays hb, h.own.move (fun g hg _ => hb.block g hg), h.lo, h.ne⟩
theorem MSt.cmt (h : MSt cR cX cY bR bX bY bO bo w wx Z vt vn) (c : ByteArray) (hc : c.size ≤ maxLen) : MSt cR cX cY bR bX bY bO bo w (wx.setCell ⟨bo, 1, none⟩ (.string c)) { Z with comment := c } vt vn :=
 ⟨h.old.setCell h.lo.1 _, h.hR.far _ _ h.lo.2.1, h.hX.far _ _ h.lo.2.2.1, h.hY.far _ _ h.lo.2.2.2.1, h.hO.far _ _ h.lo.2.2.2.2, h.ho.set 1 _,
  { (h.own.move (w' := wx.setCell ⟨bo, 1, none⟩ (.string c)) (fun g _ hg => Below.heap_setCell wx ⟨bo, 1, none⟩ _ g (h.ne g hg).1)) with cs := hc }, h.lo, h.ne⟩
theorem MSt.res (h : MSt cR cX cY bR bX bY bO bo w wx Z vt vn) (r : Int) : MSt cR cX cY bR bX bY bO bo w (wx.setCell ⟨bo, 3, none⟩ (.int .i64 r)) { Z with result := r } vt vn :=
 ⟨h.old.setCell h.lo.1 _, h.hR.far _ _ h.lo.2.1, h.hX.far _ _ h.lo.2.2.1, h.hY.far _ _ h.lo.2.2.2.1, h.hO.far _ _ h.lo.2.2.2.2, h.ho.set 3 _,
  { (h.own.move (w' := wx.setCell ⟨bo, 3, none⟩ (.int .i64 r)) (fun g _ hg => Below.heap_setCell wx ⟨bo, 3, none⟩ _ g (h.ne g hg).1)) with }, h.lo, h.ne⟩
end
theorem mtag_any (x : TagZ) (cs : List Value) (k v : ByteArray) (B : Nat) (w : World) (hE : tagEl.E w x cs) (hb : Box w B [.string k, .string v] 64) :
  Calls Tryz.prog 30 (#[.agg cs.toArray] ++ #[.pointer (some ⟨B, 0, none⟩)]) w fun e w' => e = .returned (.bool (x.key.toList == k.toList)) ∧ Below w.heap.size w w' := by
 obtain ⟨rfl, -⟩ := hE
 obtain ⟨xk, xv⟩ := x
 have h1 := hb.cell 0 rfl
 have hB := hb.lt
 show Calls Tryz.prog 30 #[.agg #[.string xk, .string xv], .pointer (some ⟨B, 0, none⟩)] w _
 go_enter Tryz.func30, Tryz.ntmps30
 go_wp2
 go_ret
 exact ⟨rfl, (Below.refl _ _).alloc (by go_size) _⟩
theorem callMtag (args : Array Value) (w : World) : (callFunc 30 args).run Tryz.prog w = .ok (.enter 30 args) w := by kernel_rfl
set_option maxRecDepth 100000
set_option maxHeartbeats 16000000
theorem Merge_any (HS : SortMvSaid) (R : RulesZ) (vp vs ve : Value) (X Y : RecZ) (vtx vnx vty vny : Value) (w : World) (hr : RdR w R vp vs ve) (hnm : R.name.size ≤ maxLen) (hx : RdX w X vtx vnx) (hy : RdX w Y vty vny)
  (hT : ∀ t ∈ Y.tags, X.tags.any (fun u => u.key.toList == t.key.toList) = true) :
  Calls Tryz.prog 11 #[(.agg #[.string R.name, .int .i64 R.width, .int .i64 R.height, vp, vs, .bool R.falls, .bool R.keeps, ve, .int .i64 R.blocked, .int .i64 R.quiet, .int .i64 R.rept]), recV X vtx vnx, recV Y vty vny] w (MergedPost R X Y w) := by
 have HSh := Lib.hid HS
 have HR := Lib.hid hr
 have HN := Lib.hid hnm
 have HX := Lib.hid hx
 have HY := Lib.hid hy
 have HT := Lib.hid hT
 obtain ⟨na, nc, rfl, hn1, hn2⟩ := hx.2.1.form
 obtain ⟨ta, tc, rfl, ht1, ht2⟩ := hx.1.form
 obtain ⟨ma, mc, rfl, hm1, hm2⟩ := hy.2.1.form
 obtain ⟨ua, uc, rfl, hu1, hu2⟩ := hy.1.form
 unfold maxLen at hn2 ht2 hm2 hu2
 clear hr hnm hx hy HS hT
 unfold recV
 go_enter Tryz.func11, Tryz.ntmps11
 go_upto_region 1 with (fail)
 refine opn4 ?_
 intro w0 xbR xbX xbY xbO hB0 hS0
 have HB := Lib.hid hB0
 obtain ⟨bO, hbO⟩ : ∃ bO, bO = w.heap.size + 1 + 1 + 1 := ⟨_, rfl⟩
 rw [← hbO] at xbO ⊢
 obtain ⟨bY, hbY⟩ : ∃ bY, bY = w.heap.size + 1 + 1 := ⟨_, rfl⟩
 rw [← hbY] at xbY ⊢
 obtain ⟨bX, hbX⟩ : ∃ bX, bX = w.heap.size + 1 := ⟨_, rfl⟩
 rw [← hbX] at xbX ⊢
 obtain ⟨bR, hbR⟩ : ∃ bR, bR = w.heap.size := ⟨_, rfl⟩
 rw [← hbR] at xbR ⊢
 have hbR1 : w.heap.size ≤ bR := by omega
 have HbR := Lib.hid xbR
 have hbX1 : w.heap.size ≤ bX := by omega
 have hbRbX : bR < bX := by omega
 have HbX := Lib.hid xbX
 have hbY1 : w.heap.size ≤ bY := by omega
 have hbRbY : bR < bY := by omega
 have hbXbY : bX < bY := by omega
 have HbY := Lib.hid xbY
 have hbO1 : w.heap.size ≤ bO := by omega
 have hbRbO : bR < bO := by omega
 have hbXbO : bX < bO := by omega
 have hbYbO : bY < bO := by omega
 have HbO := Lib.hid xbO
 have hS : bO < w0.heap.size := by omega
 clear hB0 hS0 xbR hbR xbX hbX xbY hbY xbO hbO
 refine wp_region_lit ?_
 refine wpList_load_box (by rfl) 30 (.tmp 4) (by rfl) bX (by rfl) HbX.out Tryz.underlying30 (by rfl) (by kernel_rfl) ?_
 refine wpList_load_box (by rfl) 30 (.tmp 5) (by rfl) bY (by rfl) HbY.out Tryz.underlying30 (by rfl) (by kernel_rfl) ?_
 go_wp2_with fail
 go_loopw [19] (fun v19 wr => ∃ k : Nat, v19 = .int .i64 k ∧ k ≤ 2 ∧ Hid (Below w.heap.size w wr) ∧ Hid (Box wr bR [.string R.name, .int .i64 R.width, .int .i64 R.height, vp, vs, .bool R.falls, .bool R.keeps, ve, .int .i64 R.blocked, .int .i64 R.quiet, .int .i64 R.rept] 26) ∧ Hid (Box wr bX [.slice ta X.tags.length tc, .string X.comment, .slice na X.nodes.length nc, .int .i64 X.result] 30) ∧ Hid (Box wr bY [.slice ua Y.tags.length uc, .string Y.comment, .slice ma Y.nodes.length mc, .int .i64 Y.result] 30) ∧ Hid (Box wr bO [.slice none 0 0, .string ⟨#[]⟩, .slice none 0 0, .int .i64 0] 30) ∧ Hid ((0 < k → recErr R X = 0) ∧ (1 < k → recErr R Y = 0))) (fun v _ => 2 - (intOf v).toNat)
 case atStart => exact ⟨0, rfl, by omega, HB, HbR, HbX, HbY, HbO, Lib.hid ⟨fun h => absurd h (by omega), fun h => absurd h (by omega)⟩⟩
 case round =>
  obtain ⟨k, rfl, hk, HBr, HbRr, HbXr, HbYr, HbOr, HOK⟩ := hrel
  clear HB HbR HbX HbY HbO hS w0
  rcases (by omega : k = 0 ∨ k = 1 ∨ k = 2) with rfl | rfl | rfl
  ·have hix : ∀ w' : World, (Instr.index 58 (.agg #[.slice ta X.tags.length tc, .string X.comment, .slice na X.nodes.length nc, .int .i64 X.result, .slice ua Y.tags.length uc, .string Y.comment, .slice ma Y.nodes.length mc, .int .i64 Y.result]) (.int .i64 0)).run Tryz.prog w' = .ok (.agg #[.slice ta X.tags.length tc, .string X.comment, .slice na X.nodes.length nc, .int .i64 X.result]) w' := fun _ => by kernel_rfl
   go_upto_region 4 with (fail)
   have HA : Hid (Below wr.heap.size wr (wr.alloc (.cells #[.slice ta X.tags.length tc, .string X.comment, .slice na X.nodes.length nc, .int .i64 X.result] 30))) := Lib.hid ((Below.refl wr.heap.size wr).alloc (Nat.le_refl _) _)
   have HZb : Hid (Box (wr.alloc (.cells #[.slice ta X.tags.length tc, .string X.comment, .slice na X.nodes.length nc, .int .i64 X.result] 30)) wr.heap.size [.slice ta X.tags.length tc, .string X.comment, .slice na X.nodes.length nc, .int .i64 X.result] 30) := Lib.hid (Box.new wr [.slice ta X.tags.length tc, .string X.comment, .slice na X.nodes.length nc, .int .i64 X.result] 30)
   obtain ⟨bz, hbz⟩ : ∃ bz, bz = wr.heap.size := ⟨_, rfl⟩
   rw [← hbz] at HZb ⊢
   have HBa := Lib.hid (below_trans HBr.out HA.out HBr.out.size)
   have HR1 := Lib.hid (HbRr.out.stays HA.out)
   have HX1 := Lib.hid (HbXr.out.stays HA.out)
   have HY1 := Lib.hid (HbYr.out.stays HA.out)
   have HO1 := Lib.hid (HbOr.out.stays HA.out)
   generalize (wr.alloc (.cells #[.slice ta X.tags.length tc, .string X.comment, .slice na X.nodes.length nc, .int .i64 X.result] 30)) = wa at *
   refine wp_region_lit ?_
   refine wpList_load_box (by rfl) 26 (.tmp 3) (by rfl) bR (by rfl) HR1.out Tryz.underlying26 (by rfl) (by kernel_rfl) ?_
   refine wpList_load_box (by rfl) 30 (.tmp 9) (by rfl) bz (by rfl) HZb.out Tryz.underlying30 (by rfl) (by kernel_rfl) ?_
   have HC := Lib.hid (recCheck_any HSh.out R vp vs ve X (.slice ta X.tags.length tc) (.slice na X.nodes.length nc) wa (HR.out.below HBa.out (Nat.le_refl _)) HN.out (HX.out.below HBa.out (Nat.le_refl _)))
   unfold recV at HC
   clear HbRr HbXr HbYr HbOr HBr hbz
   go_wp2_with fail
   refine HC.out.mono ?_
   rintro e w1 ⟨rfl, hb1⟩
   have HB1 := Lib.hid (below_trans HBa.out hb1 HBa.out.size)
   have HR2 := Lib.hid (HR1.out.stays hb1)
   have HX2 := Lib.hid (HX1.out.stays hb1)
   have HY2 := Lib.hid (HY1.out.stays hb1)
   have HO2 := Lib.hid (HO1.out.stays hb1)
   clear hb1 HC HA HZb HR1 HX1 HY1 HO1 HBa
   obtain ⟨E, hE⟩ : ∃ E, E = recErr R X := ⟨_, rfl⟩
   rw [← hE]
   by_cases h0 : E = 0
   ·have p0 : (E != 0) = false := by simpa using h0
    have HE := Lib.hid (hE.symm.trans h0)
    clear hE h0
    go_wp2_with fail
    go_roundw
    case rel => exact ⟨0 + 1, rfl, by omega, HB1, HR2, HX2, HY2, HO2, Lib.hid (⟨fun _ => HE.out, fun h => absurd h (by omega)⟩)⟩
    case measure => simp [intOf]
   ·have p0 : (E != 0) = true := by simpa using h0
    have HE := Lib.hid (And.intro hE h0)
    clear hE h0
    have z0 := HO2.out.cell 0 rfl
    have z1 := HO2.out.cell 1 rfl
    have z2 := HO2.out.cell 2 rfl
    have z3 := HO2.out.cell 3 rfl
    have f0 := HO2.out.frozen 0
    have f1 := HO2.out.frozen 1
    have f2 := HO2.out.frozen 2
    have f3 := HO2.out.frozen 3
    have zl := HO2.out.lt
    go_wp2_with fail
    change bodyPost _ _ _ _ _ (w1.setCells bO 0 [.slice none 0 0, .string ⟨#[]⟩, .slice none 0 0, .int .i64 0])
    have HO3 := Lib.hid (HO2.out.store (vs := [.slice none 0 0, .string ⟨#[]⟩, .slice none 0 0, .int .i64 0]) rfl)
    have HB3 := Lib.hid (below_setCells HB1.out hbO1 0 [.slice none 0 0, .string ⟨#[]⟩, .slice none 0 0, .int .i64 0])
    exact bodyPost_ret (results_box rfl (by rfl) (by rfl) HO3.out Tryz.underlying30 (by rfl) (by kernel_rfl)) rfl ⟨HB3.out, .inl ⟨E, by unfold mergeE; rw [if_pos (by rw [← HE.out.1]; exact HE.out.2)]; exact HE.out.1, HE.out.2, rfl⟩⟩
  ·have hix : ∀ w' : World, (Instr.index 58 (.agg #[.slice ta X.tags.length tc, .string X.comment, .slice na X.nodes.length nc, .int .i64 X.result, .slice ua Y.tags.length uc, .string Y.comment, .slice ma Y.nodes.length mc, .int .i64 Y.result]) (.int .i64 1)).run Tryz.prog w' = .ok (.agg #[.slice ua Y.tags.length uc, .string Y.comment, .slice ma Y.nodes.length mc, .int .i64 Y.result]) w' := fun _ => by kernel_rfl
   go_upto_region 4 with (fail)
   have HA : Hid (Below wr.heap.size wr (wr.alloc (.cells #[.slice ua Y.tags.length uc, .string Y.comment, .slice ma Y.nodes.length mc, .int .i64 Y.result] 30))) := Lib.hid ((Below.refl wr.heap.size wr).alloc (Nat.le_refl _) _)
   have HZb : Hid (Box (wr.alloc (.cells #[.slice ua Y.tags.length uc, .string Y.comment, .slice ma Y.nodes.length mc, .int .i64 Y.result] 30)) wr.heap.size [.slice ua Y.tags.length uc, .string Y.comment, .slice ma Y.nodes.length mc, .int .i64 Y.result] 30) := Lib.hid (Box.new wr [.slice ua Y.tags.length uc, .string Y.comment, .slice ma Y.nodes.length mc, .int .i64 Y.result] 30)
   obtain ⟨bz, hbz⟩ : ∃ bz, bz = wr.heap.size := ⟨_, rfl⟩
   rw [← hbz] at HZb ⊢
   have HBa := Lib.hid (below_trans HBr.out HA.out HBr.out.size)
   have HR1 := Lib.hid (HbRr.out.stays HA.out)
   have HX1 := Lib.hid (HbXr.out.stays HA.out)
   have HY1 := Lib.hid (HbYr.out.stays HA.out)
   have HO1 := Lib.hid (HbOr.out.stays HA.out)
   generalize (wr.alloc (.cells #[.slice ua Y.tags.length uc, .string Y.comment, .slice ma Y.nodes.length mc, .int .i64 Y.result] 30)) = wa at *
   refine wp_region_lit ?_
   refine wpList_load_box (by rfl) 26 (.tmp 3) (by rfl) bR (by rfl) HR1.out Tryz.underlying26 (by rfl) (by kernel_rfl) ?_
   refine wpList_load_box (by rfl) 30 (.tmp 9) (by rfl) bz (by rfl) HZb.out Tryz.underlying30 (by rfl) (by kernel_rfl) ?_
   have HC := Lib.hid (recCheck_any HSh.out R vp vs ve Y (.slice ua Y.tags.length uc) (.slice ma Y.nodes.length mc) wa (HR.out.below HBa.out (Nat.le_refl _)) HN.out (HY.out.below HBa.out (Nat.le_refl _)))
   unfold recV at HC
   clear HbRr HbXr HbYr HbOr HBr hbz
   go_wp2_with fail
   refine HC.out.mono ?_
   rintro e w1 ⟨rfl, hb1⟩
   have HB1 := Lib.hid (below_trans HBa.out hb1 HBa.out.size)
   have HR2 := Lib.hid (HR1.out.stays hb1)
   have HX2 := Lib.hid (HX1.out.stays hb1)
   have HY2 := Lib.hid (HY1.out.stays hb1)
   have HO2 := Lib.hid (HO1.out.stays hb1)
   clear hb1 HC HA HZb HR1 HX1 HY1 HO1 HBa
   obtain ⟨E, hE⟩ : ∃ E, E = recErr R Y := ⟨_, rfl⟩
   rw [← hE]
   by_cases h0 : E = 0
   ·have p0 : (E != 0) = false := by simpa using h0
    have HE := Lib.hid (hE.symm.trans h0)
    clear hE h0
    go_wp2_with fail
    go_roundw
    case rel => exact ⟨1 + 1, rfl, by omega, HB1, HR2, HX2, HY2, HO2, Lib.hid (⟨fun _ => HOK.out.1 (by omega), fun _ => HE.out⟩)⟩
    case measure => simp [intOf]
   ·have p0 : (E != 0) = true := by simpa using h0
    have HE := Lib.hid (And.intro hE h0)
    clear hE h0
    have z0 := HO2.out.cell 0 rfl
    have z1 := HO2.out.cell 1 rfl
    have z2 := HO2.out.cell 2 rfl
    have z3 := HO2.out.cell 3 rfl
    have f0 := HO2.out.frozen 0
    have f1 := HO2.out.frozen 1
    have f2 := HO2.out.frozen 2
    have f3 := HO2.out.frozen 3
    have zl := HO2.out.lt
    go_wp2_with fail
    change bodyPost _ _ _ _ _ (w1.setCells bO 0 [.slice none 0 0, .string ⟨#[]⟩, .slice none 0 0, .int .i64 0])
    have HO3 := Lib.hid (HO2.out.store (vs := [.slice none 0 0, .string ⟨#[]⟩, .slice none 0 0, .int .i64 0]) rfl)
    have HB3 := Lib.hid (below_setCells HB1.out hbO1 0 [.slice none 0 0, .string ⟨#[]⟩, .slice none 0 0, .int .i64 0])
    exact bodyPost_ret (results_box rfl (by rfl) (by rfl) HO3.out Tryz.underlying30 (by rfl) (by kernel_rfl)) rfl ⟨HB3.out, .inl ⟨E, by unfold mergeE; rw [if_neg (by rw [HOK.out.1 (by omega)]; simp), if_pos (by rw [← HE.out.1]; exact HE.out.2)]; exact HE.out.1, HE.out.2, rfl⟩⟩
  ·have HEX : Hid (recErr R X = 0) := Lib.hid (HOK.out.1 (by omega))
   have HEY : Hid (recErr R Y = 0) := Lib.hid (HOK.out.2 (by omega))
   have h200 := (rec_nodes HEX.out).2.2
   have h201 := (rec_nodes HEY.out).2.2
   have HBKX := Lib.hid (rec_nodes HEX.out).2.1.back
   have HBKY := Lib.hid (rec_nodes HEY.out).2.1.back
   obtain ⟨i0, hi0, hz0, hz1, hz2⟩ := info_parts infoBr
   have HBp := HBr
   obtain ⟨w2, rfl⟩ : ∃ w2 : World, w2 = wr := ⟨_, rfl⟩
   have HB2 := HBr
   have HR2 := HbRr
   have HX2 := HbXr
   have HY2 := HbYr
   have HO2 := HbOr
   have HbX := HX2
   clear HBr HbRr HbXr HbYr HbOr HBp
   go_upto_region 8 with (fail)
   have hwz : w2.drew.heap.size = w2.heap.size := by simp
   have BXz := HbX.out.drew
   have RXz : RdX w2.drew X (.slice ta X.tags.length tc) (.slice na X.nodes.length nc) := HX.out.below HB2.out.drew (Nat.le_refl _)
   refine wp_region_noPanic ?_
   refine beginL (S := (fun w' => w'.cell? ⟨bX, 0, none⟩ = some (.slice ta X.tags.length tc) ∧ w'.cell? ⟨bX, 1, none⟩ = some (.string X.comment) ∧ w'.cell? ⟨bX, 2, none⟩ = some (.slice na X.nodes.length nc) ∧ w'.cell? ⟨bX, 3, none⟩ = some (.int .i64 X.result))) (L := []) (by kernel_rfl) (by and_intros <;> exact BXz.cell _ rfl) (fun hHeld => ?_)
   refine tkL 0 ?_
   refine tkW 1 ?_
   refine tkL 2 ?_
   refine tkW 3 ?_
   refine cnL 4 fun K hK => ?_
   rw [if_pos (by rfl)]
   refine wp_make_full _ _ _ 59 rfl w2.drew.heap.size 75 i0 (.pointer none) 1 Tryz.underlying59 hi0 hz0 hz1 .i64 .i64 _ _ X.nodes.length rfl rfl rfl rfl (by rw [hz2]; omega) (by unfold maxLen; omega) (Nat.le_refl _) ?_
   intro w8m hown4 hgr4
   have hb4 := below_made hgr4
   have BX4 := BXz.stays hb4
   obtain ⟨hWs, hWl, -⟩ := box_of_own hown4
   refine hK.out _ _ (by and_intros <;> exact BX4.cell _ rfl) (fun hHeld => ?_)
   clear hK K
   refine cnL 5 fun K hK => ?_
   go_simp
   have hTc := tree_any X (.slice ta X.tags.length tc) (.slice na X.nodes.length nc) w2.drew RXz HBKX.out (by omega) (X.nodes.length + 1) (-1) _ X.nodes.length _ w8m hb4 (Nat.le_refl _) hWs hWl (by omega) (by omega) (by omega)
   unfold recV at hTc
   refine hTc.mono ?_
   rintro e w8 ⟨v5, Ws5, rfl, hT5⟩
   have hb5 := tree_below hgr4 rfl hT5
   have BX5 := BXz.stays hb5
   obtain ⟨va, hbr5, hrow5⟩ := TS.trees HBKX.out hT5
   obtain ⟨aa, ac, rfl⟩ := own_form2 hrow5
   refine hK.out _ _ (by and_intros <;> exact BX5.cell _ rfl) (fun hHeld => ?_)
   clear hK K
   refine tkW 6 ?_
   refine dnN ?_
   have hbd : Below w2.heap.size w2 w8 := (Below.refl w2.heap.size w2).drew.trans (by rw [hwz] at hb5; exact hb5)
   have HB8 := Lib.hid (below_trans HB2.out hbd HB2.out.size)
   have HR8 := Lib.hid (HR2.out.stays hbd)
   have HX8 := Lib.hid (HX2.out.stays hbd)
   have HY8 := Lib.hid (HY2.out.stays hbd)
   have HO8 := Lib.hid (HO2.out.stays hbd)
   have hlo8 : w.heap.size ≤ w8m.heap.size := by have := HB2.out.size; have := hb4.size; omega
   have HKA := Lib.hid (brs_base hlo8 _ _ hbr5)
   have HRA := Lib.hid (own_base hrow5 hlo8)
   clear hbd hlo8 HB2 HR2 HX2 HY2 HO2 HbX
   clear BXz RXz BX4 BX5 hown4 hgr4 hb4 hWs hWl hT5 hTc hbr5 hrow5 hb5 hwz hHeld
   have HbY := HY8
   go_upto_region 9 with (fail)
   have hwz : w8.drew.heap.size = w8.heap.size := by simp
   have BXz := HbY.out.drew
   have RXz : RdX w8.drew Y (.slice ua Y.tags.length uc) (.slice ma Y.nodes.length mc) := HY.out.below HB8.out.drew (Nat.le_refl _)
   refine wp_region_noPanic ?_
   refine beginL (S := (fun w' => w'.cell? ⟨bY, 0, none⟩ = some (.slice ua Y.tags.length uc) ∧ w'.cell? ⟨bY, 1, none⟩ = some (.string Y.comment) ∧ w'.cell? ⟨bY, 2, none⟩ = some (.slice ma Y.nodes.length mc) ∧ w'.cell? ⟨bY, 3, none⟩ = some (.int .i64 Y.result))) (L := []) (by kernel_rfl) (by and_intros <;> exact BXz.cell _ rfl) (fun hHeld => ?_)
   refine tkL 0 ?_
   refine tkW 1 ?_
   refine tkL 2 ?_
   refine tkW 3 ?_
   refine cnL 4 fun K hK => ?_
   rw [if_pos (by rfl)]
   refine wp_make_full _ _ _ 59 rfl w8.drew.heap.size 75 i0 (.pointer none) 1 Tryz.underlying59 hi0 hz0 hz1 .i64 .i64 _ _ Y.nodes.length rfl rfl rfl rfl (by rw [hz2]; omega) (by unfold maxLen; omega) (Nat.le_refl _) ?_
   intro w9m hown4 hgr4
   have hb4 := below_made hgr4
   have BX4 := BXz.stays hb4
   obtain ⟨hWs, hWl, -⟩ := box_of_own hown4
   refine hK.out _ _ (by and_intros <;> exact BX4.cell _ rfl) (fun hHeld => ?_)
   clear hK K
   refine cnL 5 fun K hK => ?_
   go_simp
   have hTc := tree_any Y (.slice ua Y.tags.length uc) (.slice ma Y.nodes.length mc) w8.drew RXz HBKY.out (by omega) (Y.nodes.length + 1) (-1) _ Y.nodes.length _ w9m hb4 (Nat.le_refl _) hWs hWl (by omega) (by omega) (by omega)
   unfold recV at hTc
   refine hTc.mono ?_
   rintro e w9 ⟨v5, Ws5, rfl, hT5⟩
   have hb5 := tree_below hgr4 rfl hT5
   have BX5 := BXz.stays hb5
   obtain ⟨vb, hbr5, hrow5⟩ := TS.trees HBKY.out hT5
   obtain ⟨ba, bc, rfl⟩ := own_form2 hrow5
   refine hK.out _ _ (by and_intros <;> exact BX5.cell _ rfl) (fun hHeld => ?_)
   clear hK K
   refine tkW 6 ?_
   refine dnN ?_
   have hbd : Below w8.heap.size w8 w9 := (Below.refl w8.heap.size w8).drew.trans (by rw [hwz] at hb5; exact hb5)
   have HB9 := Lib.hid (below_trans HB8.out hbd HB8.out.size)
   have HR9 := Lib.hid (HR8.out.stays hbd)
   have HX9 := Lib.hid (HX8.out.stays hbd)
   have HY9 := Lib.hid (HY8.out.stays hbd)
   have HO9 := Lib.hid (HO8.out.stays hbd)
   have hlo8 : w.heap.size ≤ w9m.heap.size := by have := HB8.out.size; have := hb4.size; omega
   have HKB := Lib.hid (brs_base hlo8 _ _ hbr5)
   have HRB := Lib.hid (own_base hrow5 hlo8)
   have HKA9 := Lib.hid (brs_move (q := anyB) (q' := anyB) (tb := tBr) (te := tPt) (base := w.heap.size) (w := w8) (w' := w9) (fun g _ h1 h2 => ⟨hbd.block g h1, h2⟩) _ _ HKA.out)
   have HRA9 := Lib.hid (own_of_block HRA.out (fun g hg => hbd.block g (HRA.out.lt g hg).2))
   clear hbd hlo8 HB8 HR8 HX8 HY8 HO8 HbY HKA HRA
   clear BXz RXz BX4 BX5 hown4 hgr4 hb4 hWs hWl hT5 hTc hbr5 hrow5 hb5 hwz hHeld
   have hcx : cnt (trees X) = X.nodes.length := trees_len HEX.out
   have hcy : cnt (trees Y) = Y.nodes.length := trees_len HEY.out
   have hcm := cnt_merge (trees Y) (trees X)
   have ht10 := (rec_cmt HEX.out).2.2.2.2
   have hwz : w9.drew.heap.size = w9.heap.size := by simp
   go_upto_region 10 with (fail)
   go_cut [13] from 42 to 46 (fun v13 wx => ∃ (bo : Nat) (vt' vn' : Value), v13 = .pointer (some ⟨bo, 0, none⟩) ∧ Hid (MSt [.string R.name, .int .i64 R.width, .int .i64 R.height, vp, vs, .bool R.falls, .bool R.keeps, ve, .int .i64 R.blocked, .int .i64 R.quiet, .int .i64 R.rept] [.slice ta X.tags.length tc, .string X.comment, .slice na X.nodes.length nc, .int .i64 X.result] [.slice ua Y.tags.length uc, .string Y.comment, .slice ma Y.nodes.length mc, .int .i64 Y.result] bR bX bY bO bo w wx (Zm X Y X.comment X.result) vt' vn'))
   case first =>
    have BXz := HX9.out.drew
    have Lz : Below w9.drew.heap.size w9.drew w9.drew := Below.refl _ _
    refine wp_region_noPanic ?_
    refine beginL (S := (fun w' => w'.cell? ⟨bX, 0, none⟩ = some (.slice ta X.tags.length tc) ∧ w'.cell? ⟨bX, 1, none⟩ = some (.string X.comment) ∧ w'.cell? ⟨bX, 2, none⟩ = some (.slice na X.nodes.length nc) ∧ w'.cell? ⟨bX, 3, none⟩ = some (.int .i64 X.result))) (L := [6]) (by kernel_rfl) (by and_intros <;> exact BXz.cell _ rfl) (fun hHeld => ?_)
    refine tkL 0 ?_
    refine tkW 1 ?_
    refine tkW 2 ?_
    refine rdL (rs := [3, 5]) ?_
    refine (AllReadyL.cons (by first | (simp only [List.getElem?_toArray, List.getElem?_cons_zero, List.getElem?_cons_succ] <;> rfl) | rfl) (fun K hK => ?_) (AllReadyL.cons (by first | (simp only [List.getElem?_toArray, List.getElem?_cons_zero, List.getElem?_cons_succ] <;> rfl) | rfl) (fun K hK => ?_) AllReadyL.nil))
    ·skip
     go_simp
     have hl9 : Below w9.heap.size w9 w9.drew := (Below.refl w9.heap.size w9).drew.trans (by have := Lz; rw [hwz] at this; exact this)
     have ka := brs_move (q := anyB) (q' := anyB) (tb := tBr) (te := tPt) (base := w.heap.size) (w := w9) (w' := w9.drew) (fun g _ h1 h2 => ⟨hl9.block g h1, h2⟩) _ _ HKA9.out
     have kb := brs_move (q := anyB) (q' := anyB) (tb := tBr) (te := tPt) (base := w.heap.size) (w := w9) (w' := w9.drew) (fun g _ h1 h2 => ⟨hl9.block g h1, h2⟩) _ _ HKB.out
     have ra := own_of_block HRA9.out (fun g hg => hl9.block g (HRA9.out.lt g hg).2)
     have rb := own_of_block HRB.out (fun g hg => hl9.block g (HRB.out.lt g hg).2)
     refine (merge_any w.heap.size (cnt (trees Y) + 1) anyB (trees X) (trees Y) _ _ va vb w9.drew (by omega) (by omega) (by have := HB9.out.size; have := hl9.size; omega) ka ra kb rb).mono ?_
     rintro e w3 ⟨v3, vs3, rfl, hbb, MR3, MK3⟩
     obtain ⟨ma3, mc3, rfl⟩ := own_form2 MR3
     have MR3 := own_base MR3 (b' := w.heap.size) (by have := HB9.out.size; have := hl9.size; omega)
     obtain ⟨q3, hq3⟩ : ∃ q3, q3 = fun g => g < w9.drew.heap.size → anyB g := ⟨_, rfl⟩
     rw [← hq3] at MK3
     clear hq3
     have L3 := below_trans Lz hbb Lz.size
     have BX3 := BXz.stays hbb
     have z3 := hbb.size
     clear hbb ka kb ra rb hl9
     refine hK.out _ _ (by and_intros <;> exact BX3.cell _ rfl) (fun hHeld => ?_)
     clear hK K
     refine rdL (rs := [4, 5]) ?_
     refine (AllReadyL.cons (by first | (simp only [List.getElem?_toArray, List.getElem?_cons_zero, List.getElem?_cons_succ] <;> rfl) | rfl) (fun K hK => ?_) (AllReadyL.cons (by first | (simp only [List.getElem?_toArray, List.getElem?_cons_zero, List.getElem?_cons_succ] <;> rfl) | rfl) (fun K hK => ?_) AllReadyL.nil))
     ·skip
      go_simp
      have rx4 : RdX w3 X (.slice ta X.tags.length tc) (.slice na X.nodes.length nc) := HX.out.below (below_trans HB9.out (show Below w9.heap.size w9 w3 from (Below.refl w9.heap.size w9).drew.trans (by have := L3; rw [hwz] at this; exact this)) HB9.out.size) (Nat.le_refl _)
      have hwc := with_any X (.slice ta X.tags.length tc) (.slice na X.nodes.length nc) (mergeL (trees X) (trees Y)) _ vs3 w.heap.size w3 rx4 MK3 MR3 (by omega) (by omega)
      unfold recV at hwc
      refine hwc.mono ?_
      rintro e w4 ⟨vt4, vn4, rfl, OW4, hbb⟩
      obtain ⟨vat, vct, rfl⟩ : ∃ a c, vt4 = .slice a X.tags.length c := by obtain ⟨ts, h1, -⟩ := OW4.tags; exact own_form2 h1
      obtain ⟨van, vcn, rfl⟩ : ∃ a c, vn4 = .slice a (flatL (mergeL (trees X) (trees Y)) (-1) []).length c := own_form2 OW4.nodes
      have ol4 := OW4.lt
      rw [show recV (withX X (mergeL (trees X) (trees Y))) (Value.slice vat X.tags.length vct) (Value.slice van (flatL (mergeL (trees X) (trees Y)) (-1) []).length vcn) = .agg #[.slice vat X.tags.length vct, .string X.comment, .slice van (flatL (mergeL (trees X) (trees Y)) (-1) []).length vcn, .int .i64 X.result] from rfl]
      have L4 := below_trans L3 hbb L3.size
      have BX4 := BX3.stays hbb
      have z4 := hbb.size
      clear hbb rx4 hwc
      refine hK.out _ _ (by and_intros <;> exact BX4.cell _ rfl) (fun hHeld => ?_)
      clear hK K
      refine cnL 5 fun K hK => ?_
      go_simp
      refine K_world ?_
      intro w5 e5
      have hbb : Below w4.heap.size w4 w5 := by rw [e5]; exact (Below.refl _ _).alloc (Nat.le_refl _) _
      obtain ⟨bo, hbo⟩ : ∃ bo, bo = w4.heap.size := ⟨_, rfl⟩
      have BN5 : Box w5 bo [.slice none 0 0, .string ⟨#[]⟩, .slice none 0 0, .int .i64 0] 30 := by rw [e5]; exact boxAt _ _ _ _ hbo.symm
      rw [← hbo]
      have HBO := Lib.hid hbo
      clear hbo
      have hbl5 := BN5.lt
      have L5 := below_trans L4 hbb L4.size
      have BX5 := BX4.stays hbb
      have z5 := hbb.size
      have OW5 := OW4.move (fun g hg _ => hbb.block g hg)
      clear hbb e5
      refine hK.out _ _ (by and_intros <;> exact BX5.cell _ rfl) (fun hHeld => ?_)
      clear hK K
      refine ltL 6 fun K hK => ?_
      have d0 := BN5.cell 0 rfl
      have d1 := BN5.cell 1 rfl
      have d2 := BN5.cell 2 rfl
      have d3 := BN5.cell 3 rfl
      have f0 := BN5.frozen 0
      have f1 := BN5.frozen 1
      have f2 := BN5.frozen 2
      have f3 := BN5.frozen 3
      have dl := BN5.lt
      go_simp
      refine K_world ?_
      intro w6 e6
      have hw6 : w6 = w5.setCells bo 0 [.slice vat X.tags.length vct, .string X.comment, .slice van (flatL (mergeL (trees X) (trees Y)) (-1) []).length vcn, .int .i64 X.result] := by rw [e6]; rfl
      have BN6 : Box w6 bo [.slice vat X.tags.length vct, .string X.comment, .slice van (flatL (mergeL (trees X) (trees Y)) (-1) []).length vcn, .int .i64 X.result] 30 := by rw [hw6]; exact BN5.store rfl
      have hbo9 : w9.heap.size ≤ bo := by have := Lz.size; have := HBO.out; omega
      have L6 : Below w9.heap.size w9 w6 := by rw [hw6]; exact below_setCells ((Below.refl w9.heap.size w9).drew.trans (by have := L5; rw [hwz] at this; exact this)) hbo9 0 _
      have ne6 : ∀ g, ((Value.slice vat X.tags.length vct).ownBlock = some g ∨ (Value.slice van (flatL (mergeL (trees X) (trees Y)) (-1) []).length vcn).ownBlock = some g) → g ≠ bo := fun g hg e => by have := ol4 g hg; have := HBO.out; omega
      have OW6 := OW5.move (w' := w6) (fun g _ hg => by rw [hw6]; exact heap_setCells bo _ 0 w5 g (ne6 g hg))
      clear e6 hw6 d0 d1 d2 d3 f0 f1 f2 f3 dl
      refine hK.out _ _ ?_
      clear hK K
      refine dnN ?_
      have HBN := Lib.hid BN6
      have HL6 := Lib.hid L6
      have HNE := Lib.hid ne6
      have HNO := Lib.hid (fun (g : Nat) (hg : (Value.slice vat X.tags.length vct).ownBlock = some g ∨ (Value.slice van (flatL (mergeL (trees X) (trees Y)) (-1) []).length vcn).ownBlock = some g) => show bO < g from by have h1 := ol4 g hg; have h2 := HO9.out.lt; omega)
      have HOW := Lib.hid OW6
      have hbase : w.heap.size ≤ w3.heap.size := by have := HB9.out.size; omega
      clear BXz Lz hHeld ne6 OW6 BN6 L6 ol4
      go_wp2_with fail
      go_meet
      exact ⟨bo, _, _, rfl, Lib.hid ⟨below_trans HB9.out HL6.out HB9.out.size, HR9.out.stays HL6.out, HX9.out.stays HL6.out, HY9.out.stays HL6.out, HO9.out.stays HL6.out, HBN.out, OwnX.mono HOW.out hbase, by have h1 := HR9.out.lt; have h2 := HX9.out.lt; have h3 := HY9.out.lt; have h4 := HO9.out.lt; have := HB9.out.size; omega, fun g hg => ⟨HNE.out g hg, HNO.out g hg⟩⟩⟩
     ·skip
      go_simp
      refine K_world ?_
      intro w5 e5
      have hbb : Below w3.heap.size w3 w5 := by rw [e5]; exact (Below.refl _ _).alloc (Nat.le_refl _) _
      obtain ⟨bo, hbo⟩ : ∃ bo, bo = w3.heap.size := ⟨_, rfl⟩
      have BN5 : Box w5 bo [.slice none 0 0, .string ⟨#[]⟩, .slice none 0 0, .int .i64 0] 30 := by rw [e5]; exact boxAt _ _ _ _ hbo.symm
      rw [← hbo]
      have HBO := Lib.hid hbo
      clear hbo
      have hbl5 := BN5.lt
      have L5 := below_trans L3 hbb L3.size
      have BX5 := BX3.stays hbb
      have z5 := hbb.size
      have MK5 := brs_move (q := q3) (q' := q3) (tb := tBr) (te := tPt) (base := w.heap.size) (w := w3) (w' := w5) (fun g _ h1 h2 => ⟨hbb.block g h1, h2⟩) _ _ MK3
      have MR5 := own_of_block MR3 (fun g hg => hbb.block g (MR3.lt g hg).2)
      clear hbb e5
      refine hK.out _ _ (by and_intros <;> exact BX5.cell _ rfl) (fun hHeld => ?_)
      clear hK K
      refine cnL 4 fun K hK => ?_
      go_simp
      have rx4 : RdX w5 X (.slice ta X.tags.length tc) (.slice na X.nodes.length nc) := HX.out.below (below_trans HB9.out (show Below w9.heap.size w9 w5 from (Below.refl w9.heap.size w9).drew.trans (by have := L5; rw [hwz] at this; exact this)) HB9.out.size) (Nat.le_refl _)
      have hwc := with_any X (.slice ta X.tags.length tc) (.slice na X.nodes.length nc) (mergeL (trees X) (trees Y)) _ vs3 w.heap.size w5 rx4 MK5 MR5 (by omega) (by omega)
      unfold recV at hwc
      refine hwc.mono ?_
      rintro e w4 ⟨vt4, vn4, rfl, OW4, hbb⟩
      obtain ⟨vat, vct, rfl⟩ : ∃ a c, vt4 = .slice a X.tags.length c := by obtain ⟨ts, h1, -⟩ := OW4.tags; exact own_form2 h1
      obtain ⟨van, vcn, rfl⟩ : ∃ a c, vn4 = .slice a (flatL (mergeL (trees X) (trees Y)) (-1) []).length c := own_form2 OW4.nodes
      have ol4 := OW4.lt
      rw [show recV (withX X (mergeL (trees X) (trees Y))) (Value.slice vat X.tags.length vct) (Value.slice van (flatL (mergeL (trees X) (trees Y)) (-1) []).length vcn) = .agg #[.slice vat X.tags.length vct, .string X.comment, .slice van (flatL (mergeL (trees X) (trees Y)) (-1) []).length vcn, .int .i64 X.result] from rfl]
      have L4 := below_trans L5 hbb L5.size
      have BX4 := BX5.stays hbb
      have z4 := hbb.size
      have BN4 := BN5.stays hbb
      clear hbb rx4 hwc
      refine hK.out _ _ (by and_intros <;> exact BX4.cell _ rfl) (fun hHeld => ?_)
      clear hK K
      refine ltL 6 fun K hK => ?_
      have d0 := BN4.cell 0 rfl
      have d1 := BN4.cell 1 rfl
      have d2 := BN4.cell 2 rfl
      have d3 := BN4.cell 3 rfl
      have f0 := BN4.frozen 0
      have f1 := BN4.frozen 1
      have f2 := BN4.frozen 2
      have f3 := BN4.frozen 3
      have dl := BN4.lt
      go_simp
      refine K_world ?_
      intro w6 e6
      have hw6 : w6 = w4.setCells bo 0 [.slice vat X.tags.length vct, .string X.comment, .slice van (flatL (mergeL (trees X) (trees Y)) (-1) []).length vcn, .int .i64 X.result] := by rw [e6]; rfl
      have BN6 : Box w6 bo [.slice vat X.tags.length vct, .string X.comment, .slice van (flatL (mergeL (trees X) (trees Y)) (-1) []).length vcn, .int .i64 X.result] 30 := by rw [hw6]; exact BN4.store rfl
      have hbo9 : w9.heap.size ≤ bo := by have := Lz.size; have := HBO.out; omega
      have L6 : Below w9.heap.size w9 w6 := by rw [hw6]; exact below_setCells ((Below.refl w9.heap.size w9).drew.trans (by have := L4; rw [hwz] at this; exact this)) hbo9 0 _
      have ne6 : ∀ g, ((Value.slice vat X.tags.length vct).ownBlock = some g ∨ (Value.slice van (flatL (mergeL (trees X) (trees Y)) (-1) []).length vcn).ownBlock = some g) → g ≠ bo := fun g hg e => by have := ol4 g hg; have := HBO.out; omega
      have OW6 := OW4.move (w' := w6) (fun g _ hg => by rw [hw6]; exact heap_setCells bo _ 0 w4 g (ne6 g hg))
      clear e6 hw6 d0 d1 d2 d3 f0 f1 f2 f3 dl
      refine hK.out _ _ ?_
      clear hK K
      refine dnN ?_
      have HBN := Lib.hid BN6
      have HL6 := Lib.hid L6
      have HNE := Lib.hid ne6
      have HNO := Lib.hid (fun (g : Nat) (hg : (Value.slice vat X.tags.length vct).ownBlock = some g ∨ (Value.slice van (flatL (mergeL (trees X) (trees Y)) (-1) []).length vcn).ownBlock = some g) => show bO < g from by have h1 := ol4 g hg; have h2 := HO9.out.lt; omega)
      have HOW := Lib.hid OW6
      have hbase : w.heap.size ≤ w5.heap.size := by have := HB9.out.size; omega
      clear BXz Lz hHeld ne6 OW6 BN6 L6 ol4
      go_wp2_with fail
      go_meet
      exact ⟨bo, _, _, rfl, Lib.hid ⟨below_trans HB9.out HL6.out HB9.out.size, HR9.out.stays HL6.out, HX9.out.stays HL6.out, HY9.out.stays HL6.out, HO9.out.stays HL6.out, HBN.out, OwnX.mono HOW.out hbase, by have h1 := HR9.out.lt; have h2 := HX9.out.lt; have h3 := HY9.out.lt; have h4 := HO9.out.lt; have := HB9.out.size; omega, fun g hg => ⟨HNE.out g hg, HNO.out g hg⟩⟩⟩
    ·skip
     go_simp
     refine K_world ?_
     intro w5 e5
     have hbb : Below w9.drew.heap.size w9.drew w5 := by rw [e5]; exact (Below.refl _ _).alloc (Nat.le_refl _) _
     obtain ⟨bo, hbo⟩ : ∃ bo, bo = w9.heap.size := ⟨_, rfl⟩
     have BN5 : Box w5 bo [.slice none 0 0, .string ⟨#[]⟩, .slice none 0 0, .int .i64 0] 30 := by rw [e5]; exact boxAt _ _ _ _ hbo.symm
     rw [← hbo]
     have HBO := Lib.hid hbo
     clear hbo
     have hbl5 := BN5.lt
     have L5 := below_trans Lz hbb Lz.size
     have BX5 := BXz.stays hbb
     have z5 := hbb.size
     clear hbb e5
     refine hK.out _ _ (by and_intros <;> exact BX5.cell _ rfl) (fun hHeld => ?_)
     clear hK K
     refine cnL 3 fun K hK => ?_
     go_simp
     have hl9 : Below w9.heap.size w9 w5 := (Below.refl w9.heap.size w9).drew.trans (by have := L5; rw [hwz] at this; exact this)
     have ka := brs_move (q := anyB) (q' := anyB) (tb := tBr) (te := tPt) (base := w.heap.size) (w := w9) (w' := w5) (fun g _ h1 h2 => ⟨hl9.block g h1, h2⟩) _ _ HKA9.out
     have kb := brs_move (q := anyB) (q' := anyB) (tb := tBr) (te := tPt) (base := w.heap.size) (w := w9) (w' := w5) (fun g _ h1 h2 => ⟨hl9.block g h1, h2⟩) _ _ HKB.out
     have ra := own_of_block HRA9.out (fun g hg => hl9.block g (HRA9.out.lt g hg).2)
     have rb := own_of_block HRB.out (fun g hg => hl9.block g (HRB.out.lt g hg).2)
     refine (merge_any w.heap.size (cnt (trees Y) + 1) anyB (trees X) (trees Y) _ _ va vb w5 (by omega) (by omega) (by have := HB9.out.size; have := hl9.size; omega) ka ra kb rb).mono ?_
     rintro e w3 ⟨v3, vs3, rfl, hbb, MR3, MK3⟩
     obtain ⟨ma3, mc3, rfl⟩ := own_form2 MR3
     have MR3 := own_base MR3 (b' := w.heap.size) (by have := HB9.out.size; have := hl9.size; omega)
     obtain ⟨q3, hq3⟩ : ∃ q3, q3 = fun g => g < w5.heap.size → anyB g := ⟨_, rfl⟩
     rw [← hq3] at MK3
     clear hq3
     have L3 := below_trans L5 hbb L5.size
     have BX3 := BX5.stays hbb
     have z3 := hbb.size
     have BN3 := BN5.stays hbb
     clear hbb ka kb ra rb hl9
     refine hK.out _ _ (by and_intros <;> exact BX3.cell _ rfl) (fun hHeld => ?_)
     clear hK K
     refine cnL 4 fun K hK => ?_
     go_simp
     have rx4 : RdX w3 X (.slice ta X.tags.length tc) (.slice na X.nodes.length nc) := HX.out.below (below_trans HB9.out (show Below w9.heap.size w9 w3 from (Below.refl w9.heap.size w9).drew.trans (by have := L3; rw [hwz] at this; exact this)) HB9.out.size) (Nat.le_refl _)
     have hwc := with_any X (.slice ta X.tags.length tc) (.slice na X.nodes.length nc) (mergeL (trees X) (trees Y)) _ vs3 w.heap.size w3 rx4 MK3 MR3 (by omega) (by omega)
     unfold recV at hwc
     refine hwc.mono ?_
     rintro e w4 ⟨vt4, vn4, rfl, OW4, hbb⟩
     obtain ⟨vat, vct, rfl⟩ : ∃ a c, vt4 = .slice a X.tags.length c := by obtain ⟨ts, h1, -⟩ := OW4.tags; exact own_form2 h1
     obtain ⟨van, vcn, rfl⟩ : ∃ a c, vn4 = .slice a (flatL (mergeL (trees X) (trees Y)) (-1) []).length c := own_form2 OW4.nodes
     have ol4 := OW4.lt
     rw [show recV (withX X (mergeL (trees X) (trees Y))) (Value.slice vat X.tags.length vct) (Value.slice van (flatL (mergeL (trees X) (trees Y)) (-1) []).length vcn) = .agg #[.slice vat X.tags.length vct, .string X.comment, .slice van (flatL (mergeL (trees X) (trees Y)) (-1) []).length vcn, .int .i64 X.result] from rfl]
     have L4 := below_trans L3 hbb L3.size
     have BX4 := BX3.stays hbb
     have z4 := hbb.size
     have BN4 := BN3.stays hbb
     clear hbb rx4 hwc
     refine hK.out _ _ (by and_intros <;> exact BX4.cell _ rfl) (fun hHeld => ?_)
     clear hK K
     refine ltL 6 fun K hK => ?_
     have d0 := BN4.cell 0 rfl
     have d1 := BN4.cell 1 rfl
     have d2 := BN4.cell 2 rfl
     have d3 := BN4.cell 3 rfl
     have f0 := BN4.frozen 0
     have f1 := BN4.frozen 1
     have f2 := BN4.frozen 2
     have f3 := BN4.frozen 3
     have dl := BN4.lt
     go_simp
     refine K_world ?_
     intro w6 e6
     have hw6 : w6 = w4.setCells bo 0 [.slice vat X.tags.length vct, .string X.comment, .slice van (flatL (mergeL (trees X) (trees Y)) (-1) []).length vcn, .int .i64 X.result] := by rw [e6]; rfl
     have BN6 : Box w6 bo [.slice vat X.tags.length vct, .string X.comment, .slice van (flatL (mergeL (trees X) (trees Y)) (-1) []).length vcn, .int .i64 X.result] 30 := by rw [hw6]; exact BN4.store rfl
     have hbo9 : w9.heap.size ≤ bo := by have := Lz.size; have := HBO.out; omega
     have L6 : Below w9.heap.size w9 w6 := by rw [hw6]; exact below_setCells ((Below.refl w9.heap.size w9).drew.trans (by have := L4; rw [hwz] at this; exact this)) hbo9 0 _
     have ne6 : ∀ g, ((Value.slice vat X.tags.length vct).ownBlock = some g ∨ (Value.slice van (flatL (mergeL (trees X) (trees Y)) (-1) []).length vcn).ownBlock = some g) → g ≠ bo := fun g hg e => by have := ol4 g hg; have := HBO.out; omega
     have OW6 := OW4.move (w' := w6) (fun g _ hg => by rw [hw6]; exact heap_setCells bo _ 0 w4 g (ne6 g hg))
     clear e6 hw6 d0 d1 d2 d3 f0 f1 f2 f3 dl
     refine hK.out _ _ ?_
     clear hK K
     refine dnN ?_
     have HBN := Lib.hid BN6
     have HL6 := Lib.hid L6
     have HNE := Lib.hid ne6
     have HNO := Lib.hid (fun (g : Nat) (hg : (Value.slice vat X.tags.length vct).ownBlock = some g ∨ (Value.slice van (flatL (mergeL (trees X) (trees Y)) (-1) []).length vcn).ownBlock = some g) => show bO < g from by have h1 := ol4 g hg; have h2 := HO9.out.lt; omega)
     have HOW := Lib.hid OW6
     have hbase : w.heap.size ≤ w3.heap.size := by have := HB9.out.size; omega
     clear BXz Lz hHeld ne6 OW6 BN6 L6 ol4
     go_wp2_with fail
     go_meet
     exact ⟨bo, _, _, rfl, Lib.hid ⟨below_trans HB9.out HL6.out HB9.out.size, HR9.out.stays HL6.out, HX9.out.stays HL6.out, HY9.out.stays HL6.out, HO9.out.stays HL6.out, HBN.out, OwnX.mono HOW.out hbase, by have h1 := HR9.out.lt; have h2 := HX9.out.lt; have h3 := HY9.out.lt; have h4 := HO9.out.lt; have := HB9.out.size; omega, fun g hg => ⟨HNE.out g hg, HNO.out g hg⟩⟩⟩
   case rest =>
    obtain ⟨bo, vt', vn', rfl, HM⟩ := hcut
    obtain ⟨wm, rfl⟩ : ∃ wm : World, wm = wc := ⟨_, rfl⟩
    clear HKA9 HRA9 HKB HRB HB9 HR9 HX9 HY9 HO9 hwz i0 hi0 hz0 hz1 hz2
    have o1 : wm.cell? ⟨bo, 1, none⟩ = some (.string X.comment) := HM.out.ho.cell 1 rfl
    have o1f := HM.out.ho.frozen 1
    have hol := HM.out.ho.lt
    have y1 := HM.out.hY.cell 1 rfl
    have hyl := HM.out.hY.lt
    have HcsX := Lib.hid HX.out.2.2
    have HcsY := Lib.hid HY.out.2.2
    go_upto_if 49 with (fail)
    go_cut [13] from 49 to 52 (fun v13 wx => v13 = .pointer (some ⟨bo, 0, none⟩) ∧ Hid (MSt [.string R.name, .int .i64 R.width, .int .i64 R.height, vp, vs, .bool R.falls, .bool R.keeps, ve, .int .i64 R.blocked, .int .i64 R.quiet, .int .i64 R.rept] [.slice ta X.tags.length tc, .string X.comment, .slice na X.nodes.length nc, .int .i64 X.result] [.slice ua Y.tags.length uc, .string Y.comment, .slice ma Y.nodes.length mc, .int .i64 Y.result] bR bX bY bO bo w wx (Zm X Y (if X.comment.size = 0 then Y.comment else X.comment) X.result) vt' vn'))
    case first =>
     by_cases hz : X.comment.size = 0
     ·have hem : X.comment.toList.isEmpty = true := by rw [str_empty]; simp [hz]
      have HZ : Hid ((if X.comment.size = 0 then Y.comment else X.comment) = Y.comment) := Lib.hid (if_pos hz)
      clear hz
      rw [hem]
      go_wp2_with fail
      go_meet
      exact ⟨rfl, Lib.hid (by rw [HZ.out]; exact HM.out.cmt Y.comment HcsY.out)⟩
     ·have hem : X.comment.toList.isEmpty = false := by rw [str_empty]; simp [hz]
      have HZ : Hid ((if X.comment.size = 0 then Y.comment else X.comment) = X.comment) := Lib.hid (if_neg hz)
      clear hz
      rw [hem]
      go_wp2_with fail
      go_meet
      exact ⟨rfl, Lib.hid (by rw [HZ.out]; exact HM.out)⟩
    case rest =>
     obtain ⟨rfl, HM2⟩ := hcut
     clear o1 o1f hol y1 hyl HM wm
     obtain ⟨wm, rfl⟩ : ∃ wm : World, wm = wc := ⟨_, rfl⟩
     have o3 : wm.cell? ⟨bo, 3, none⟩ = some (.int .i64 X.result) := HM2.out.ho.cell 3 rfl
     have o3f := HM2.out.ho.frozen 3
     have hol := HM2.out.ho.lt
     have y3 := HM2.out.hY.cell 3 rfl
     have hyl := HM2.out.hY.lt
     go_upto_if 55 with (fail)
     go_cut [13] from 55 to 58 (fun v13 wx => v13 = .pointer (some ⟨bo, 0, none⟩) ∧ Hid (MSt [.string R.name, .int .i64 R.width, .int .i64 R.height, vp, vs, .bool R.falls, .bool R.keeps, ve, .int .i64 R.blocked, .int .i64 R.quiet, .int .i64 R.rept] [.slice ta X.tags.length tc, .string X.comment, .slice na X.nodes.length nc, .int .i64 X.result] [.slice ua Y.tags.length uc, .string Y.comment, .slice ma Y.nodes.length mc, .int .i64 Y.result] bR bX bY bO bo w wx (mergeX X Y) vt' vn'))
     case first =>
      by_cases hz : X.result = 0
      ·have hem : (X.result == 0) = true := by simpa using hz
       have HZ : Hid ((if X.result = 0 then Y.result else X.result) = Y.result) := Lib.hid (if_pos hz)
       clear hz
       go_wp2_with fail
       go_meet
       exact ⟨rfl, Lib.hid (by rw [show mergeX X Y = Zm X Y (if X.comment.size = 0 then Y.comment else X.comment) Y.result by rw [← HZ.out]; rfl]; exact HM2.out.res Y.result)⟩
      ·have hem : (X.result == 0) = false := by simpa using hz
       have HZ : Hid ((if X.result = 0 then Y.result else X.result) = X.result) := Lib.hid (if_neg hz)
       clear hz
       go_wp2_with fail
       go_meet
       exact ⟨rfl, Lib.hid (by rw [show mergeX X Y = Zm X Y (if X.comment.size = 0 then Y.comment else X.comment) X.result by rw [← HZ.out]; rfl]; exact HM2.out)⟩
     case rest =>
      obtain ⟨rfl, HM3⟩ := hcut
      clear o3 o3f hol y3 hyl HM2 wm
      obtain ⟨wm, rfl⟩ : ∃ wm : World, wm = wc := ⟨_, rfl⟩
      have y0 := HM3.out.hY.cell 0 rfl
      have hyl := HM3.out.hY.lt
      go_wp2_with fail
      go_loopw [62] (fun v62 wr => ∃ k : Nat, v62 = .int .i64 k ∧ k ≤ Y.tags.length ∧ Hid (MSt [.string R.name, .int .i64 R.width, .int .i64 R.height, vp, vs, .bool R.falls, .bool R.keeps, ve, .int .i64 R.blocked, .int .i64 R.quiet, .int .i64 R.rept] [.slice ta X.tags.length tc, .string X.comment, .slice na X.nodes.length nc, .int .i64 X.result] [.slice ua Y.tags.length uc, .string Y.comment, .slice ma Y.nodes.length mc, .int .i64 Y.result] bR bX bY bO bo w wr (mergeX X Y) vt' vn')) (fun v _ => Y.tags.length - (intOf v).toNat)
      case atStart => exact ⟨0, rfl, Nat.zero_le _, HM3⟩
      case round =>
       obtain ⟨k, rfl, hk, HMr⟩ := hrel
       clear y0 hyl HM3 wm
       by_cases hlt : (k : Int) < (Y.tags.length : Int)
       ·obtain ⟨g, o, rfl, hg, hc⟩ := tags_some HY.out.1 (by omega)
        obtain ⟨e0, e1, -, -⟩ := hc k (by omega)
        have c0 := (HMr.out.old.cell (p := ⟨g, o + k * 2, none⟩) hg).trans e0
        have c1 := (HMr.out.old.cell (p := ⟨g, o + k * 2 + 1, none⟩) hg).trans e1
        have hgr : g < wr.heap.size := by have := HMr.out.old.size; omega
        have HTk := Lib.hid (HT.out (Y.tags.getD k default) (by rw [List.getD_eq_getElem?_getD, List.getElem?_eq_getElem (by omega)]; exact List.getElem_mem _))
        generalize (Y.tags.getD k default).key = ky at *
        generalize (Y.tags.getD k default).value = kvv at *
        clear hc e0 e1
        go_upto_region 18 with (fail)
        have hbt : Below wr.heap.size wr (wr.alloc (.cells #[.string ky, .string kvv] 64)) := (Below.refl _ _).alloc (Nat.le_refl _) _
        have HMt := Lib.hid (HMr.out.stays hbt)
        have HTb := Lib.hid (Box.new wr [.string ky, .string kvv] 64)
        obtain ⟨pb, hpb⟩ : ∃ pb, pb = wr.heap.size := ⟨_, rfl⟩
        rw [← hpb] at HTb ⊢
        generalize (wr.alloc (.cells #[.string ky, .string kvv] 64)) = wa at *
        clear hbt HMr c0 c1 hpb
        have x0 := HMt.out.hX.cell 0 rfl
        have hxl := HMt.out.hX.lt
        have hpl := HTb.out.lt
        have HCf := Lib.hid (ContainsFunc_tg (.slice ta X.tags.length tc) X.tags (fun u => u.key.toList == ky.toList) 30 #[.pointer (some ⟨pb, 0, none⟩)] wa (HX.out.1.below HMt.out.old (Nat.le_refl _)) callMtag (fun W x cs _ hE hb => mtag_any x cs ky kvv pb W hE (HTb.out.stays hb)))
        rw [HTk.out] at HCf
        go_wp2_with fail
        refine HCf.out.mono ?_
        rintro e w5 ⟨rfl, hb5⟩
        have HM5 := Lib.hid (HMt.out.stays hb5)
        clear hb5 HCf x0 hxl HMt HTb hpl
        go_wp2_with fail
        go_roundw
        case rel => exact ⟨k + 1, by go_num, by omega, HM5⟩
        case measure => simp [intOf]; omega
       ·have hkk : k = Y.tags.length := by omega
        clear hkk hk
        go_upto_region 21 with (fail)
        refine wp_region_lit ?_
        refine wpList_load_box (by rfl) 26 (.tmp 3) (by rfl) bR (by rfl) HMr.out.hR Tryz.underlying26 (by rfl) (by kernel_rfl) ?_
        refine wpList_load_box (by rfl) 30 (.tmp 13) (by rfl) bo (by rfl) HMr.out.ho Tryz.underlying30 (by rfl) (by kernel_rfl) ?_
        have HSz := Lib.hid (sized_any HSh.out R vp vs ve (mergeX X Y) vt' vn' wr (HR.out.below HMr.out.old (Nat.le_refl _)) HN.out HMr.out.own.rd)
        unfold recV at HSz
        go_wp2_with fail
        refine HSz.out.mono ?_
        rintro e w7 ⟨hb7, hres⟩
        have HM7 := Lib.hid (HMr.out.stays hb7)
        clear HSz hb7 HMr
        have hME : mergeE R X Y = recErr R (mergeX X Y) := by unfold mergeE; rw [if_neg (by rw [HEX.out]; simp), if_neg (by rw [HEY.out]; simp)]
        have z0 := HM7.out.hO.cell 0 rfl
        have z1 := HM7.out.hO.cell 1 rfl
        have z2 := HM7.out.hO.cell 2 rfl
        have z3 := HM7.out.hO.cell 3 rfl
        have f0 := HM7.out.hO.frozen 0
        have f1 := HM7.out.hO.frozen 1
        have f2 := HM7.out.hO.frozen 2
        have f3 := HM7.out.hO.frozen 3
        have zl := HM7.out.hO.lt
        have HO7 := Lib.hid HM7.out.hO
        have HB7 := Lib.hid HM7.out.old
        have HOW := Lib.hid HM7.out.own
        have HNO : Hid (∀ g, (vt'.ownBlock = some g ∨ vn'.ownBlock = some g) → g ≠ bO) := Lib.hid (fun g hg e => by have := (HM7.out.ne g hg).2; omega)
        rcases hres with ⟨h0, rfl⟩ | ⟨h0, rfl⟩
        ·have HE := Lib.hid (hME.trans h0)
         clear hME h0
         obtain ⟨fa, fc, rfl⟩ : ∃ a c, vt' = .slice a (mergeX X Y).tags.length c := by obtain ⟨ts, h1, -⟩ := HOW.out.tags; exact own_form2 h1
         obtain ⟨ga, gc, rfl⟩ : ∃ a c, vn' = .slice a (mergeX X Y).nodes.length c := own_form2 HOW.out.nodes
         rw [show recV (mergeX X Y) (.slice fa (mergeX X Y).tags.length fc) (.slice ga (mergeX X Y).nodes.length gc) = .agg #[.slice fa (mergeX X Y).tags.length fc, .string (mergeX X Y).comment, .slice ga (mergeX X Y).nodes.length gc, .int .i64 (mergeX X Y).result] from rfl]
         go_wp2_with fail
         change bodyPost _ _ _ _ _ (w7.setCells bO 0 [.slice fa (mergeX X Y).tags.length fc, .string (mergeX X Y).comment, .slice ga (mergeX X Y).nodes.length gc, .int .i64 (mergeX X Y).result])
         have HO8 := Lib.hid (HO7.out.store (vs := [.slice fa (mergeX X Y).tags.length fc, .string (mergeX X Y).comment, .slice ga (mergeX X Y).nodes.length gc, .int .i64 (mergeX X Y).result]) rfl)
         have HB8 := Lib.hid (below_setCells HB7.out hbO1 0 [.slice fa (mergeX X Y).tags.length fc, .string (mergeX X Y).comment, .slice ga (mergeX X Y).nodes.length gc, .int .i64 (mergeX X Y).result])
         have HOW8 := Lib.hid (HOW.out.move (w' := w7.setCells bO 0 [.slice fa (mergeX X Y).tags.length fc, .string (mergeX X Y).comment, .slice ga (mergeX X Y).nodes.length gc, .int .i64 (mergeX X Y).result]) (fun g _ hg => heap_setCells bO _ 0 w7 g (HNO.out g hg)))
         exact bodyPost_ret (results_box rfl (by rfl) (by rfl) HO8.out Tryz.underlying30 (by rfl) (by kernel_rfl)) rfl ⟨HB8.out, .inr ⟨HE.out, _, _, rfl, HOW8.out.rd⟩⟩
        ·have HE := Lib.hid hME.symm
         have HE0 := Lib.hid h0
         clear hME h0
         obtain ⟨E, hE⟩ : ∃ E, E = recErr R (mergeX X Y) := ⟨_, rfl⟩
         rw [← hE] at HE HE0 ⊢
         clear hE
         go_wp2_with fail
         change bodyPost _ _ _ _ _ (w7.setCells bO 0 [.slice none 0 0, .string ⟨#[]⟩, .slice none 0 0, .int .i64 0])
         have HO8 := Lib.hid (HO7.out.store (vs := [.slice none 0 0, .string ⟨#[]⟩, .slice none 0 0, .int .i64 0]) rfl)
         have HB8 := Lib.hid (below_setCells HB7.out hbO1 0 [.slice none 0 0, .string ⟨#[]⟩, .slice none 0 0, .int .i64 0])
         exact bodyPost_ret (results_box rfl (by rfl) (by rfl) HO8.out Tryz.underlying30 (by rfl) (by kernel_rfl)) rfl ⟨HB8.out, .inl ⟨E, HE.out, HE0.out, rfl⟩⟩
end Go.Proofs.YtnieifdogllbfaaGreat
