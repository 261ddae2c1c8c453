/- MaO, MaQ, MaR, MaS, MaT. -/
import Derived.Test.YtnodagljaoonjaaGreatDoorC35
import Derived.Test.YtnodagljaoonjaaGreatDoorC09
import Derived.Test.YtnodagljaoonjaaGreatDoorC05
namespace Go.Proofs.YtnodagljaoonjaaGreatDoor
open Go.ChangeShapes Go.WideShapes Go.ChangeAt Go.RowKit
set_option linter.unusedVariables false
set_option maxHeartbeats 4000000
set_option maxRecDepth 100000
variable {S : Nat → Prop} {base b : Nat} {M : MatZ} {B : MatB}
def StartPost (CR : CrZ) (now : Int) (w : World) (e : Ending) (w' : World) : Prop :=
 (∃ c : Int, (c ≠ 0 ∧ ¬ clk.RuleOk CR.ps.length CR.inc CR.delay CR.ps) ∧ e = .returned (.tuple #[.agg #[.int .i64 0, .int .i64 0, .int .i64 0, .int .i64 0, .int .i64 0, .int .i64 0, .int .i64 0, .int .i64 0, .bool false, .int .i64 0], .int .i64 c]) ∧ Below w.heap.size w w') ∨ (CrG CR ∧ e = .returned (.tuple #[clkA (startC CR now), .int .i64 0]) ∧ Below w.heap.size w w')
theorem Start_any (CR : CrZ) (pa : Option Addr) (pc : Nat) (now : Int) (w : World) (hp : clk.PerAt w w.heap.size pa CR.ps.length CR.ps) (hn : CR.ps.length ≤ maxLen) (h0 : 0 ≤ now) (h1 : now ≤ 100000000) :
  Calls Tryz.prog 22 #[.agg #[.slice pa CR.ps.length pc, .int .i64 CR.inc, .int .i64 CR.delay], .int .i64 now] w (StartPost CR now w) := by
 have HP := Lib.hid hp
 have hn2 : CR.ps.length ≤ 9223372036854775807 := by unfold maxLen at hn; omega
 clear hp hn
 go_enter Tryz.func22, Tryz.ntmps22
 go_upto_region 1 with (fail)
 refine opn2 fun w0 y0_ y1_ yb_ hs_ => ?_
 have HX0 := Lib.hid y0_
 have HX1 := Lib.hid y1_
 have HB := Lib.hid yb_
 clear hs_ y0_ y1_ yb_
 refine wp_region_lit ?_
 refine wpList_load_box (by rfl) 29 (.tmp 2) (by rfl) (w.heap.size) (by rfl) HX0.out Tryz.underlying29 (by rfl) (by kernel_rfl) ?_
 go_wp2_with fail
 refine (clk.Check_any pa CR.ps.length pc CR.inc CR.delay CR.ps w0 hn2 (HP.out.below HB.out)).mono ?_
 rintro e w1 ⟨c, rfl, hc, hb1⟩
 have HB1 := Lib.hid (below_trans HB.out hb1 HB.out.size)
 have HX01 := Lib.hid (HX0.out.stays hb1)
 have HX11 := Lib.hid (HX1.out.stays hb1)
 have HC := Lib.hid hc
 clear hb1 hc HX0 HX1 HB
 by_cases hz : c = 0
 rotate_left
 ·have hzb : (c != 0) = true := by simpa using hz
  have HZ := Lib.hid (And.intro hz (fun hr => hz (HC.out.2 hr)))
  clear hz
  have y0 := HX11.out.cell 0 rfl
  have g0 := HX11.out.frozen 0
  have y1 := HX11.out.cell 1 rfl
  have g1 := HX11.out.frozen 1
  have y2 := HX11.out.cell 2 rfl
  have g2 := HX11.out.frozen 2
  have y3 := HX11.out.cell 3 rfl
  have g3 := HX11.out.frozen 3
  have y4 := HX11.out.cell 4 rfl
  have g4 := HX11.out.frozen 4
  have y5 := HX11.out.cell 5 rfl
  have g5 := HX11.out.frozen 5
  have y6 := HX11.out.cell 6 rfl
  have g6 := HX11.out.frozen 6
  have y7 := HX11.out.cell 7 rfl
  have g7 := HX11.out.frozen 7
  have y8 := HX11.out.cell 8 rfl
  have g8 := HX11.out.frozen 8
  have y9 := HX11.out.cell 9 rfl
  have g9 := HX11.out.frozen 9
  go_upto_region 3 with (fail)
  go_wp2_with fail
  have HX2 := Lib.hid (HX11.out.store (vs := [.int .i64 0, .int .i64 0, .int .i64 0, .int .i64 0, .int .i64 0, .int .i64 0, .int .i64 0, .int .i64 0, .bool false, .int .i64 0]) rfl)
  have HB2 := Lib.hid (below_setCells HB1.out (Nat.le_succ _) 0 [.int .i64 0, .int .i64 0, .int .i64 0, .int .i64 0, .int .i64 0, .int .i64 0, .int .i64 0, .int .i64 0, .bool false, .int .i64 0])
  exact bodyPost_ret (results_box rfl (by rfl) (by rfl) HX2.out Tryz.underlying44 (by rfl) (by kernel_rfl)) rfl (.inl ⟨c, HZ.out, rfl, HB2.out⟩)
 have HCG : Hid (CrG CR) := Lib.hid (CrG.of (HC.out.1 hz))
 subst hz
 obtain ⟨g, o, hpa, hgb, hcell⟩ := HP.out.2 (by have := HCG.out.n; omega)
 subst hpa
 obtain ⟨c0, c1⟩ := hcell 0 (by have := HCG.out.n; omega)
 have d1 := (HB1.out.cell (p := ⟨g, o + 0 * 2 + 1, none⟩) hgb).trans c1
 have hg1 : g < w1.heap.size := Nat.lt_of_lt_of_le hgb HB1.out.size
 have hln : (0 : Int) < (CR.ps.length : Int) := by have := HCG.out.n; omega
 have hst : Hid (startC CR now = ⟨(CR.ps.getD 0 (0, 0)).2, (CR.ps.getD 0 (0, 0)).2, 0, 0, 0, 0, 0, now, false, -1⟩) := Lib.hid rfl
 have x0 := HX01.out.cell 0 rfl
 generalize (CR.ps.getD 0 (0, 0)).2 = tm at *
 clear hcell c0 c1 HC
 have hww : clk.witB now 0 100000000 = true := clk.witB_true ⟨h0, h1⟩
 go_wp2_with fail
 refine (clk.within_any now 0 100000000 w1).mono ?_
 rintro e w2 ⟨rfl, rfl⟩
 rw [hww]
 go_upto_region 7 with (fail)
 have y0 := HX11.out.cell 0 rfl
 have g0 := HX11.out.frozen 0
 have y1 := HX11.out.cell 1 rfl
 have g1 := HX11.out.frozen 1
 have y2 := HX11.out.cell 2 rfl
 have g2 := HX11.out.frozen 2
 have y3 := HX11.out.cell 3 rfl
 have g3 := HX11.out.frozen 3
 have y4 := HX11.out.cell 4 rfl
 have g4 := HX11.out.frozen 4
 have y5 := HX11.out.cell 5 rfl
 have g5 := HX11.out.frozen 5
 have y6 := HX11.out.cell 6 rfl
 have g6 := HX11.out.frozen 6
 have y7 := HX11.out.cell 7 rfl
 have g7 := HX11.out.frozen 7
 have y8 := HX11.out.cell 8 rfl
 have g8 := HX11.out.frozen 8
 have y9 := HX11.out.cell 9 rfl
 have g9 := HX11.out.frozen 9
 go_wp2_with fail
 have HX2 := Lib.hid (HX11.out.store (vs := [.int .i64 tm, .int .i64 tm, .int .i64 0, .int .i64 0, .int .i64 0, .int .i64 0, .int .i64 0, .int .i64 now, .bool false, .int .i64 (-1)]) rfl)
 have HB2 := Lib.hid (below_setCells HB1.out (Nat.le_succ _) 0 [.int .i64 tm, .int .i64 tm, .int .i64 0, .int .i64 0, .int .i64 0, .int .i64 0, .int .i64 0, .int .i64 now, .bool false, .int .i64 (-1)])
 exact bodyPost_ret (results_box rfl (by rfl) (by rfl) HX2.out Tryz.underlying44 (by rfl) (by kernel_rfl)) rfl (.inr ⟨HCG.out, by rw [hst.out]; rfl, HB2.out⟩)
theorem offNew_any (w : World) : Calls Tryz.prog 25 #[] w fun e w' => e = .returned (offA newO) ∧ Below w.heap.size w w' := by
 go_enter Tryz.func25, Tryz.ntmps25
 go_upto_region 1 with (fail)
 refine opn1 fun w0 y0_ yb_ hs_ => ?_
 have HX0 := Lib.hid y0_
 have HB := Lib.hid yb_
 clear hs_ y0_ yb_
 have y0 := HX0.out.cell 0 rfl
 have g0 := HX0.out.frozen 0
 have y1 := HX0.out.cell 1 rfl
 have g1 := HX0.out.frozen 1
 have y2 := HX0.out.cell 2 rfl
 have g2 := HX0.out.frozen 2
 have y3 := HX0.out.cell 3 rfl
 have g3 := HX0.out.frozen 3
 have y4 := HX0.out.cell 4 rfl
 have g4 := HX0.out.frozen 4
 have y5 := HX0.out.cell 5 rfl
 have g5 := HX0.out.frozen 5
 go_wp2_with fail
 have HX2 := Lib.hid (HX0.out.store (vs := [.int .i64 (-1), .int .i64 (-1), .int .i64 (-1), .int .i64 (-1), .int .i64 (-1), .int .i64 (-1)]) rfl)
 have HB2 := Lib.hid (below_setCells HB.out (Nat.le_refl _) 0 [.int .i64 (-1), .int .i64 (-1), .int .i64 (-1), .int .i64 (-1), .int .i64 (-1), .int .i64 (-1)])
 exact bodyPost_ret (results_one rfl (by rfl) HX2.out Tryz.underlying47 (by rfl) (by kernel_rfl)) rfl ⟨rfl, HB2.out⟩
end Go.Proofs.YtnodagljaoonjaaGreatDoor
namespace Go.Proofs.YtnodagljaoonjaaGreatDoor
open Go.ChangeShapes Go.WideShapes Go.ChangeAt Go.RowKit
set_option linter.unusedVariables false
variable {S : Nat → Prop} {base b : Nat} {M : MatZ} {B : MatB}
theorem wpl_world {P : Program} {ops : Array Oper} {Q : Exit → Act → World → Prop} {rest : List Oper} {a : Act} {W : World} (h : ∀ w', w' = W → wpList P ops Q rest a w') : wpList P ops Q rest a W := h _ rfl
def StatePost (M : MatZ) (w : World) (e : Ending) (w' : World) : Prop := ∃ ma mc qa qc, e = .returned (.agg #[.slice ma M.ms.length mc, .int .i64 M.res, .int .i64 M.reason, .int .i64 M.clk.l0, .int .i64 M.clk.l1, .int .i64 M.clk.m0, .int .i64 M.clk.m1, .int .i64 M.clk.p0, .int .i64 M.clk.p1, .int .i64 M.clk.turn, .int .i64 M.clk.since, .bool M.clk.st, .int .i64 M.clk.fallen, .int .i64 M.off.b0, .int .i64 M.off.b1, .int .i64 M.off.l00, .int .i64 M.off.l01, .int .i64 M.off.l10, .int .i64 M.off.l11, .slice qa M.prem.length qc]) ∧ w'.ownsRow w.heap.size 38 3 (.slice ma M.ms.length mc) M.ms.length (flatM M.ms) ∧ w'.ownsRow w.heap.size 86 4 (.slice qa M.prem.length qc) M.prem.length (flatP M.prem) ∧ Below w.heap.size w w'
set_option maxRecDepth 100000 in
set_option maxHeartbeats 4000000 in
theorem State_any (w : World) (h : MatchAt S base w b M B) (hl : M.prem.length ≤ 1000) : Calls Tryz.prog 9 #[.pointer (some ⟨b, 0, none⟩)] w (StatePost M w) := by
 obtain ⟨vp, vs, ve, pa, pc, g, vr, vj⟩ := B
 obtain ⟨ra, rc, hvr, hr1, hr2⟩ := h.fr.pr.form
 dsimp only at hvr
 subst hvr
 have HM := Lib.hid h
 have HMx2 := Lib.hid h
 have HL := Lib.hid hl
 unfold maxLen at hr2
 clear h hl
 go_enter Tryz.func9, Tryz.ntmps9
 go_upto_region 1 with (fail)
 refine opn1 fun w0 y0_ yb_ hs_ => ?_
 have HX0 := Lib.hid y0_
 have HB := Lib.hid yb_
 clear hs_ y0_ yb_
 have HM0 := Lib.hid (HM.out.below HB.out)
 obtain ⟨bx, hbx⟩ : ∃ bx, bx = w0.heap.size := ⟨_, rfl⟩
 have HX1 : Hid (Box (w0.alloc (.cells #[.slice none 0 0, .int .i64 0, .int .i64 0, .int .i64 0, .int .i64 0, .int .i64 0, .int .i64 0, .int .i64 0, .int .i64 0, .int .i64 0, .int .i64 0, .bool false, .int .i64 0, .int .i64 0, .int .i64 0, .int .i64 0, .int .i64 0, .int .i64 0, .int .i64 0, .slice none 0 0] 50)) bx [.slice none 0 0, .int .i64 0, .int .i64 0, .int .i64 0, .int .i64 0, .int .i64 0, .int .i64 0, .int .i64 0, .int .i64 0, .int .i64 0, .int .i64 0, .bool false, .int .i64 0, .int .i64 0, .int .i64 0, .int .i64 0, .int .i64 0, .int .i64 0, .int .i64 0, .slice none 0 0] 50) := Lib.hid (Box.new' w0 bx [.slice none 0 0, .int .i64 0, .int .i64 0, .int .i64 0, .int .i64 0, .int .i64 0, .int .i64 0, .int .i64 0, .int .i64 0, .int .i64 0, .int .i64 0, .bool false, .int .i64 0, .int .i64 0, .int .i64 0, .int .i64 0, .int .i64 0, .int .i64 0, .int .i64 0, .slice none 0 0] 50 hbx.symm)
 refine wp_region_lit ?_
 refine wpList_plain (by rfl) (fun K hK => ?_)
 go_simp
 refine hK _ _ ?_
 clear hK K
 try simp only [Act.put, sAr, sZe, sSu]
 refine wpList_plain (by rfl) (fun K hK => ?_)
 go_simp
 refine hK _ _ ?_
 clear hK K
 try simp only [Act.put, sAr, sZe, sSu]
 refine wpList_plain (by rfl) (fun K hK => ?_)
 go_simp
 refine hK _ _ ?_
 clear hK K
 try simp only [Act.put, sAr, sZe, sSu]
 refine wpList_load_mid (by rfl) 50 (.tmp 6) (by rfl) b 15 (by rfl) [.slice none 0 0, .int .i64 M.res, .int .i64 M.reason, .int .i64 M.clk.l0, .int .i64 M.clk.l1, .int .i64 M.clk.m0, .int .i64 M.clk.m1, .int .i64 M.clk.p0, .int .i64 M.clk.p1, .int .i64 M.clk.turn, .int .i64 M.clk.since, .bool M.clk.st, .int .i64 M.clk.fallen, .int .i64 M.off.b0, .int .i64 M.off.b1, .int .i64 M.off.l00, .int .i64 M.off.l01, .int .i64 M.off.l10, .int .i64 M.off.l11, .slice ra M.prem.length rc] _ (HM0.out.box.mid 15 (by rfl)) Tryz.underlying50 (by rfl) (by kernel_rfl) ?_
 try simp only [Act.put, sAr, sZe, sSu]
 refine wpList_plain (by rfl) (fun K hK => ?_)
 go_simp
 refine hK _ _ ?_
 clear hK K
 try simp only [Act.put, sAr, sZe, sSu]
 refine wpl_world ?_
 intro w1 e1
 have HX2 : Hid (Box w1 bx [.slice none 0 0, .int .i64 0, .int .i64 0, .int .i64 0, .int .i64 0, .int .i64 0, .int .i64 0, .int .i64 0, .int .i64 0, .int .i64 0, .int .i64 0, .bool false, .int .i64 0, .int .i64 0, .int .i64 0, .int .i64 0, .int .i64 0, .int .i64 0, .int .i64 0, .slice none 0 0] 50) := Lib.hid (by rw [e1]; exact HX1.out)
 have HB1 : Hid (Below w.heap.size w w1) := Lib.hid (by rw [e1]; exact HB.out.alloc HB.out.size _)
 have HX3 : Hid (Box w1 w.heap.size [.slice none 0 0, .int .i64 0, .int .i64 0, .int .i64 0, .int .i64 0, .int .i64 0, .int .i64 0, .int .i64 0, .int .i64 0, .int .i64 0, .int .i64 0, .bool false, .int .i64 0, .int .i64 0, .int .i64 0, .int .i64 0, .int .i64 0, .int .i64 0, .int .i64 0, .slice none 0 0] 50) := Lib.hid (by rw [e1]; exact HX0.out.alloc _)
 have HMx : Hid (MatchAt S base w1 b _ _) := Lib.hid (HM.out.below HB1.out)
 have HNb : Hid (w.heap.size ≤ bx ∧ w.heap.size ≠ bx) := Lib.hid ⟨by rw [hbx]; exact HB.out.size, by have := HX0.out.lt; omega⟩
 rw [← hbx]
 clear e1 hbx HX1 HX0 HB HM0
 refine wpList_store_box (vs := [.slice none 0 0, .int .i64 M.res, .int .i64 M.reason, .int .i64 M.clk.l0, .int .i64 M.clk.l1, .int .i64 M.clk.m0, .int .i64 M.clk.m1, .int .i64 M.clk.p0, .int .i64 M.clk.p1, .int .i64 M.clk.turn, .int .i64 M.clk.since, .bool M.clk.st, .int .i64 M.clk.fallen, .int .i64 M.off.b0, .int .i64 M.off.b1, .int .i64 M.off.l00, .int .i64 M.off.l01, .int .i64 M.off.l10, .int .i64 M.off.l11, .slice ra M.prem.length rc]) (by rfl) 50 (.tmp 3) (.tmp 7) (by rfl) bx (by rfl) (by rfl) HX2.out rfl (by kernel_rfl) (by rfl) ?_
 have HX4 := Lib.hid (HX2.out.store (vs := [.slice none 0 0, .int .i64 M.res, .int .i64 M.reason, .int .i64 M.clk.l0, .int .i64 M.clk.l1, .int .i64 M.clk.m0, .int .i64 M.clk.m1, .int .i64 M.clk.p0, .int .i64 M.clk.p1, .int .i64 M.clk.turn, .int .i64 M.clk.since, .bool M.clk.st, .int .i64 M.clk.fallen, .int .i64 M.off.b0, .int .i64 M.off.b1, .int .i64 M.off.l00, .int .i64 M.off.l01, .int .i64 M.off.l10, .int .i64 M.off.l11, .slice ra M.prem.length rc]) rfl)
 have HX5 := Lib.hid (HX3.out.farAll HNb.out.2 0 [.slice none 0 0, .int .i64 M.res, .int .i64 M.reason, .int .i64 M.clk.l0, .int .i64 M.clk.l1, .int .i64 M.clk.m0, .int .i64 M.clk.m1, .int .i64 M.clk.p0, .int .i64 M.clk.p1, .int .i64 M.clk.turn, .int .i64 M.clk.since, .bool M.clk.st, .int .i64 M.clk.fallen, .int .i64 M.off.b0, .int .i64 M.off.b1, .int .i64 M.off.l00, .int .i64 M.off.l01, .int .i64 M.off.l10, .int .i64 M.off.l11, .slice ra M.prem.length rc])
 have HB2 := Lib.hid (below_setCells HB1.out HNb.out.1 0 [.slice none 0 0, .int .i64 M.res, .int .i64 M.reason, .int .i64 M.clk.l0, .int .i64 M.clk.l1, .int .i64 M.clk.m0, .int .i64 M.clk.m1, .int .i64 M.clk.p0, .int .i64 M.clk.p1, .int .i64 M.clk.turn, .int .i64 M.clk.since, .bool M.clk.st, .int .i64 M.clk.fallen, .int .i64 M.off.b0, .int .i64 M.off.b1, .int .i64 M.off.l00, .int .i64 M.off.l01, .int .i64 M.off.l10, .int .i64 M.off.l11, .slice ra M.prem.length rc])
 have HM2 := Lib.hid (HM.out.below HB2.out)
 generalize (w1.setCells bx 0 [.slice none 0 0, .int .i64 M.res, .int .i64 M.reason, .int .i64 M.clk.l0, .int .i64 M.clk.l1, .int .i64 M.clk.m0, .int .i64 M.clk.m1, .int .i64 M.clk.p0, .int .i64 M.clk.p1, .int .i64 M.clk.turn, .int .i64 M.clk.since, .bool M.clk.st, .int .i64 M.clk.fallen, .int .i64 M.off.b0, .int .i64 M.off.b1, .int .i64 M.off.l00, .int .i64 M.off.l01, .int .i64 M.off.l10, .int .i64 M.off.l11, .slice ra M.prem.length rc]) = w2 at *
 clear HX2 HX3 HB1 HMx
 go_upto_region 2 with (fail)
 generalize w2 = wq at *
 have Mz := HM2.out.below (below_drew' (Below.refl _ _))
 have Xz := HX4.out.drew
 have Oz := HX5.out.drew
 have Lz : Below w.heap.size w wq.drew := below_drew' HB2.out
 have HBX : Hid (bx < wq.drew.heap.size) := Lib.hid Xz.lt
 have HBY : Hid (w.heap.size < wq.drew.heap.size) := Lib.hid Oz.lt
 obtain ⟨up, us, ue, vl, vm, rows, hg⟩ := Mz.game
 have Gz := hg.plain
 clear HM2 HX4 HX5 HB2 hg
 refine wp_region_noPanic ?_
 refine beginL (S := (fun w' => w'.cell? ⟨b, 14, none⟩ = some (.pointer (some ⟨g, 0, none⟩)) ∧ w'.cell? ⟨b, 34, none⟩ = some (.slice ra M.prem.length rc))) (L := []) (by kernel_rfl) ⟨Mz.box.cell 14 rfl, Mz.box.cell 34 rfl⟩ (fun hHeld => ?_)
 refine tkW 0 ?_
 refine tkW 5 ?_
 refine tkW 1 ?_
 refine tkW 6 ?_
 refine tkW 2 ?_
 refine tkW 7 ?_
 refine tkL 3 ?_
 refine tkW 8 ?_
 refine tkL 9 ?_
 refine cnL 4 fun K hK => ?_
 go_simp
 refine (gameMoves_any _ Gz).mono ?_
 rintro e w4 ⟨vmv, rfl, ho4, hbb⟩
 obtain ⟨ma, mc, rfl⟩ := own_form2 ho4
 have L4z := hbb.size
 have M4 := Mz.below hbb
 have X4 := Xz.stays hbb
 have O4 := Oz.stays hbb
 have L4 := below_trans Lz hbb Lz.size
 have R4 := ho4
 clear hbb
 refine hK.out _ _ ⟨M4.box.cell 14 rfl, M4.box.cell 34 rfl⟩ (fun hHeld => ?_)
 clear hK K
 refine tkW 11 ?_
 refine cnL 10 fun K hK => ?_
 go_simp
 refine (clone_pm _ M.prem _ M4.fr.pr (by have := HL.out; omega)).mono ?_
 rintro e w10 ⟨vpv, rfl, ho10, hbb⟩
 obtain ⟨qa, qc, rfl⟩ := own_form2 ho10
 have M10 := M4.below hbb
 have X10 := X4.stays hbb
 have O10 := O4.stays hbb
 have L10 := below_trans L4 hbb L4.size
 have R10 := own_stays R4 hbb
 have Q10 := own_base ho10 L4z
 clear hbb
 refine hK.out _ _ ⟨M10.box.cell 14 rfl, M10.box.cell 34 rfl⟩ (fun hHeld => ?_)
 clear hK K
 refine cnL 12 fun K hK => ?_
 have dd := X10.cell 0 rfl
 have df := X10.frozen 0
 go_simp
 refine K_world ?_
 intro w12 e12
 clear dd df
 have X12 := X10.set 0 (.slice ma M.ms.length mc)
 have O12 := O10.far ⟨bx, 0, none⟩ (.slice ma M.ms.length mc) HNb.out.2
 have L12 := L10.setCell (p := ⟨bx, 0, none⟩) HNb.out.1 (.slice ma M.ms.length mc)
 have R12 : w12.ownsRow wq.drew.heap.size 38 3 (.slice ma M.ms.length mc) M.ms.length (flatM M.ms) := by rw [e12]; exact own_setCells R10 HBX.out 0 [.slice ma M.ms.length mc]
 have Q12 : w12.ownsRow wq.drew.heap.size 86 4 (.slice qa M.prem.length qc) M.prem.length (flatP M.prem) := by rw [e12]; exact own_setCells Q10 HBX.out 0 [.slice ma M.ms.length mc]
 rw [← e12] at X12 O12 L12
 clear e12
 have M12 := HMx2.out.below L12
 have HH12 : Below w10.heap.size w10 w12 ∨ True := .inr trivial
 refine hK.out _ _ ⟨M12.box.cell 14 rfl, M12.box.cell 34 rfl⟩ (fun hHeld => ?_)
 clear hK K
 refine tkW 13 ?_
 refine cnL 14 fun K hK => ?_
 have dd := X12.cell 19 rfl
 have df := X12.frozen 19
 go_simp
 refine K_world ?_
 intro w14 e14
 clear dd df
 have X14 := X12.set 19 (.slice qa M.prem.length qc)
 have O14 := O12.far ⟨bx, 19, none⟩ (.slice qa M.prem.length qc) HNb.out.2
 have L14 := L12.setCell (p := ⟨bx, 19, none⟩) HNb.out.1 (.slice qa M.prem.length qc)
 have R14 : w14.ownsRow wq.drew.heap.size 38 3 (.slice ma M.ms.length mc) M.ms.length (flatM M.ms) := by rw [e14]; exact own_setCells R12 HBX.out 19 [.slice qa M.prem.length qc]
 have Q14 : w14.ownsRow wq.drew.heap.size 86 4 (.slice qa M.prem.length qc) M.prem.length (flatP M.prem) := by rw [e14]; exact own_setCells Q12 HBX.out 19 [.slice qa M.prem.length qc]
 rw [← e14] at X14 O14 L14
 clear e14
 have M14 := HMx2.out.below L14
 have HH14 : Below w10.heap.size w10 w14 ∨ True := .inr trivial
 refine hK.out _ _ ⟨M14.box.cell 14 rfl, M14.box.cell 34 rfl⟩ (fun hHeld => ?_)
 clear hK K
 refine dnN ?_
 have HX6 := Lib.hid X14
 have HO6 := Lib.hid O14
 have HB6 := Lib.hid L14
 have HR6 := Lib.hid R14
 have HQ6 := Lib.hid Q14
 clear X14 O14 L14 M14 R14 Q14 X12 O12 L12 M12 R12 Q12 X10 O10 L10 M10 R10 Q10 X4 O4 L4 M4 R4 ho4 ho10 Xz Oz Lz Mz Gz hHeld HH12 HH14
 go_upto_region 3 with (fail)
 generalize w14 = w7 at *
 refine wp_region_lit ?_
 refine wpList_load_box (by rfl) 50 (.tmp 3) (by rfl) bx (by rfl) HX6.out Tryz.underlying50 (by rfl) (by kernel_rfl) ?_
 refine wpList_store_box (vs := [.slice ma M.ms.length mc, .int .i64 M.res, .int .i64 M.reason, .int .i64 M.clk.l0, .int .i64 M.clk.l1, .int .i64 M.clk.m0, .int .i64 M.clk.m1, .int .i64 M.clk.p0, .int .i64 M.clk.p1, .int .i64 M.clk.turn, .int .i64 M.clk.since, .bool M.clk.st, .int .i64 M.clk.fallen, .int .i64 M.off.b0, .int .i64 M.off.b1, .int .i64 M.off.l00, .int .i64 M.off.l01, .int .i64 M.off.l10, .int .i64 M.off.l11, .slice qa M.prem.length qc]) (by rfl) 50 (.tmp 2) (.tmp 21) (by rfl) w.heap.size (by rfl) (by rfl) HO6.out rfl (by kernel_rfl) (by rfl) ?_
 have HO7 := Lib.hid (HO6.out.store (vs := [.slice ma M.ms.length mc, .int .i64 M.res, .int .i64 M.reason, .int .i64 M.clk.l0, .int .i64 M.clk.l1, .int .i64 M.clk.m0, .int .i64 M.clk.m1, .int .i64 M.clk.p0, .int .i64 M.clk.p1, .int .i64 M.clk.turn, .int .i64 M.clk.since, .bool M.clk.st, .int .i64 M.clk.fallen, .int .i64 M.off.b0, .int .i64 M.off.b1, .int .i64 M.off.l00, .int .i64 M.off.l01, .int .i64 M.off.l10, .int .i64 M.off.l11, .slice qa M.prem.length qc]) rfl)
 have HB7 := Lib.hid (below_setCells HB6.out (Nat.le_refl _) 0 [.slice ma M.ms.length mc, .int .i64 M.res, .int .i64 M.reason, .int .i64 M.clk.l0, .int .i64 M.clk.l1, .int .i64 M.clk.m0, .int .i64 M.clk.m1, .int .i64 M.clk.p0, .int .i64 M.clk.p1, .int .i64 M.clk.turn, .int .i64 M.clk.since, .bool M.clk.st, .int .i64 M.clk.fallen, .int .i64 M.off.b0, .int .i64 M.off.b1, .int .i64 M.off.l00, .int .i64 M.off.l01, .int .i64 M.off.l10, .int .i64 M.off.l11, .slice qa M.prem.length qc])
 skip
 refine wpl_world ?_
 intro w8 e8
 rw [← e8] at HO7 HB7
 have HR8 : Hid (w8.ownsRow wq.drew.heap.size 38 3 (.slice ma M.ms.length mc) M.ms.length (flatM M.ms)) := Lib.hid (by rw [e8]; exact own_setCells HR6.out HBY.out 0 _)
 have HQ8 : Hid (w8.ownsRow wq.drew.heap.size 86 4 (.slice qa M.prem.length qc) M.prem.length (flatP M.prem)) := Lib.hid (by rw [e8]; exact own_setCells HQ6.out HBY.out 0 _)
 clear e8
 go_wp2_with fail
 exact bodyPost_ret (results_one rfl (by rfl) HO7.out Tryz.underlying50 (by rfl) (by kernel_rfl)) rfl ⟨_, _, _, _, rfl, own_base HR8.out (Nat.le_of_lt HBY.out), own_base HQ8.out (Nat.le_of_lt HBY.out), HB7.out⟩
end Go.Proofs.YtnodagljaoonjaaGreatDoor
namespace Go.Proofs.YtnodagljaoonjaaGreatDoor
open Go.ChangeShapes Go.WideShapes Go.ChangeAt Go.RowKit
set_option linter.unusedVariables false
variable {S : Nat → Prop} {base b : Nat} {M : MatZ} {B : MatB}
def perEl : El (Int × Int) where
 k := 2
 E := fun _ x cs => cs = [.int .i64 x.1, .int .i64 x.2]
 mono := fun h _ _ => h
 len := fun h => by subst h; rfl
theorem per_rdl {w : World} {A : Option Addr} {n pc : Nat} {ps : List (Int × Int)} (h : clk.PerAt w w.heap.size A n ps) (h1 : n ≤ pc) (h2 : pc ≤ maxLen) : RdL perEl w (.slice A n pc) ps := by
 have hl := h.1
 rcases Nat.eq_zero_or_pos n with h0 | h0
 ·subst h0
  exact .inl ⟨A, pc, rfl, h2, hl⟩
 ·obtain ⟨b, off, rfl, hlt, hc⟩ := h.2 h0
  refine .inr ⟨b, off, pc, by rw [hl], by omega, h2, hlt, fun i hi => ⟨_, rfl, fun j hj => ?_⟩⟩
  have hc' := hc i (by omega)
  rw [List.getD_eq_getElem?_getD, List.getElem?_eq_getElem hi, Option.getD_some] at hc'
  have hj2 : j = 0 ∨ j = 1 := by have : j < 2 := hj; omega
  rcases hj2 with rfl | rfl
  ·exact hc'.1
  ·exact hc'.2
theorem rdl_per {w : World} {A : Option Addr} {n pc : Nat} {ps : List (Int × Int)} (h : RdL perEl w (.slice A n pc) ps) : clk.PerAt w w.heap.size A ps.length ps := by
 refine ⟨rfl, fun h0 => ?_⟩
 obtain ⟨g, o, rfl, hg, hc⟩ := h.some h0
 refine ⟨g, o, rfl, hg, fun k hk => ?_⟩
 obtain ⟨cs, rfl, hcell⟩ := hc k hk
 rw [List.getD_eq_getElem?_getD, List.getElem?_eq_getElem hk, Option.getD_some]
 have c0 := hcell 0 (by show 0 < 2; omega)
 have c1 := hcell 1 (by show 1 < 2; omega)
 exact ⟨c0, c1⟩
theorem info_per : (Tryz.prog.info? 110).map (fun i => (i.zero, i.size, i.bytes)) = some (some (.agg #[.int .i64 0, .int .i64 0]), 2, 16) := by kernel_rfl
theorem Clone_per {α : Type} (el : El α) (hk : el.k = 2) (h1 : ∀ (w : World) (x : α) (cs : List Value), el.E w x cs → ∀ u ∈ cs, u.oneCell' = true) (v : Value) (xs : List α) (w : World) (h : RdL el w v xs) (hl : xs.length ≤ 1000000) :
  Calls Tryz.prog 51 #[v] w (ClonedPost el 110 xs w) := by
 obtain ⟨i0, hi, hz0, hz1, hz2⟩ := info_of info_per
 have hq := fun (w : World) (a : Option Addr) (n c : Nat) => Lib.run_eql_slice_nil (P := Tryz.prog) w 27 110 a n c 0 0 Tryz.underlying27
 have hown0 : (w.alloc (.cells #[] 110)).ownsRow w.heap.size 110 2 (.slice (some ⟨w.heap.size, 0, none⟩) 0 0) 0 [] := World.ownsRow_made w #[] 0 (Nat.le_refl _) (by unfold maxLen; omega) rfl
 obtain ⟨a, n, c, vs, rfl, hn, hvl, hone, hE, hcell⟩ := rdl_cells h1 h
 rw [hk] at hvl
 have HR := Lib.hid hE
 cases a with
 | none =>
  have hn0 : n = 0 := hcell.1 rfl
  subst hn0
  obtain rfl : xs = [] := List.length_eq_zero_iff.1 hn.symm
  clear h hl hE hcell hown0 hn hvl hone HR hi hz0 hz1 hz2
  go_enter Tryz.func51, Tryz.ntmps51
  go_wp2
  go_ret
  exact ⟨_, [], rfl, World.ownsRow_nil _ _ _ _, (fun i hi => by cases hi), Below.refl _ _⟩
 | some ad =>
  have hnews : ∀ j u, vs[j]? = some u → (w.alloc (.cells #[] 110)).cell? (ad.add j) = some u := fun j u hu => by
   have hc := hcell.2 ad rfl j u hu
   rw [World.cell?_of_block (w := w) (a := ad.add j) (Below.heap_alloc w _ _ (World.block_lt_of_cell? w _ hc))]
   exact hc
  have Hown0 := Lib.hid hown0
  have Hnews := Lib.hid hnews
  have Hil := Lib.hid hvl
  have Hone := Lib.hid hone
  have hnl : n ≤ 1000000 := by omega
  have HN := Lib.hid hn
  clear hown0 hnews hcell h hE hvl hone hl hn
  go_enter Tryz.func51, Tryz.ntmps51
  go_wp2_with (at_builtin; refine wpList_append_own _ rfl _ _ 27 rfl w.heap.size 110 i0 (.agg #[.int .i64 0, .int .i64 0]) 2 16 Tryz.underlying27 hi hz0 hz1 hz2 rfl (by decide) _ 0 [] rfl Hown0.out ad n c vs rfl Hil.out Hnews.out Hone.out ?c3 ?c4 ?c5 ?_)
  case c3 => unfold maxLen; omega
  case c4 => omega
  case c5 => simp
  intro v' w2 hown' hgrow _
  try simp only [Nat.zero_add, List.nil_append] at hown'
  have hb : Below w.heap.size w w2 := Below.grown ((Below.refl _ w).alloc (Nat.le_refl _) _) hgrow (by simp) (fun q hq => by simp [Value.ownBlock] at hq; omega)
  have HO := Lib.hid hown'
  have HB := Lib.hid hb
  clear hown' hgrow hb
  go_wp2
  go_ret
  exact ⟨v', vs, rfl, by rw [← HN.out, hk]; exact HO.out, fun i hi => el.mono (HR.out i hi) HB.out (Nat.le_refl _), HB.out⟩
def CopyCPost (CR : CrZ) (w : World) (e : Ending) (w' : World) : Prop := ∃ pa' pc' vs, e = .returned (.agg #[.slice pa' CR.ps.length pc', .int .i64 CR.inc, .int .i64 CR.delay]) ∧ w'.ownsRow w.heap.size 110 2 (.slice pa' CR.ps.length pc') CR.ps.length vs ∧ RdL perEl w' (.slice pa' CR.ps.length pc') CR.ps ∧ Below w.heap.size w w'
set_option maxRecDepth 100000 in
set_option maxHeartbeats 4000000 in
theorem CopyC_any (CR : CrZ) (pa : Option Addr) (pc : Nat) (w : World) (hp : clk.PerAt w w.heap.size pa CR.ps.length CR.ps) (h1 : CR.ps.length ≤ pc) (h2 : pc ≤ maxLen) (hl : CR.ps.length ≤ 1000) :
  Calls Tryz.prog 24 #[.agg #[.slice pa CR.ps.length pc, .int .i64 CR.inc, .int .i64 CR.delay]] w (CopyCPost CR w) := by
 have HR := Lib.hid (per_rdl hp h1 h2)
 have HL := Lib.hid hl
 clear hp hl
 go_enter Tryz.func24, Tryz.ntmps24
 go_upto_region 1 with (fail)
 refine opn2 fun w0 y0_ y1_ yb_ hs_ => ?_
 have HX0 := Lib.hid y0_
 have HX1 := Lib.hid y1_
 have HB := Lib.hid yb_
 clear hs_ y0_ y1_ yb_
 have c0 := HX0.out.cell 0 rfl
 have HCl := Lib.hid (Clone_per perEl rfl (fun w x cs h u hu => by subst h; simp at hu; rcases hu with rfl | rfl <;> rfl) _ CR.ps w0 (HR.out.below HB.out (Nat.le_refl _)) (by have := HL.out; omega))
 have hs0 : w.heap.size + 1 < w0.heap.size := HX1.out.lt
 go_wp2_with fail
 refine HCl.out.mono ?_
 rintro e w1 ⟨v, vs, rfl, hown, hE, hb1⟩
 have HX01 := Lib.hid (HX0.out.stays hb1)
 have HX11 := Lib.hid (HX1.out.stays hb1)
 have HB1 := Lib.hid (HB.out.trans (hb1.mono HB.out.size))
 obtain ⟨pa', pc', hv⟩ := own_form2 hown
 subst hv
 have HE1 : Hid (∀ (w : World) i (h : i < CR.ps.length), perEl.E w CR.ps[i] ((vs.drop (i * 2)).take 2)) := Lib.hid fun _ => hE
 have HO := Lib.hid hown
 have c1 := HX01.out.cell 0 rfl
 have f1 := HX01.out.frozen 0
 clear hown hE hb1 c0
 go_upto_region 2 with (fail)
 have HX2 := Lib.hid (HX01.out.set 0 (.slice pa' CR.ps.length pc'))
 have HX3 := Lib.hid (HX11.out.far ⟨w.heap.size, 0, none⟩ (.slice pa' CR.ps.length pc') (by show w.heap.size + 1 ≠ w.heap.size; omega))
 have HO2 : Hid ((w1.setCell ⟨w.heap.size, 0, none⟩ (.slice pa' CR.ps.length pc')).ownsRow w0.heap.size 110 2 (.slice pa' CR.ps.length pc') CR.ps.length vs) := Lib.hid (own_setCells HO.out (b := w.heap.size) (by omega) 0 [.slice pa' CR.ps.length pc'])
 have HB2 : Hid (Below w.heap.size w (w1.setCell ⟨w.heap.size, 0, none⟩ (.slice pa' CR.ps.length pc'))) := Lib.hid (HB1.out.setCell (Nat.le_refl _) _)
 generalize w1.setCell ⟨w.heap.size, 0, none⟩ (.slice pa' CR.ps.length pc') = w2 at *
 refine wp_region_lit ?_
 refine wpList_load_box (cs := [.slice pa' CR.ps.length pc', .int .i64 CR.inc, .int .i64 CR.delay]) (by rfl) 29 (.tmp 1) (by rfl) w.heap.size (by rfl) HX2.out Tryz.underlying29 (by rfl) (by kernel_rfl) ?_
 refine wpList_store_box (vs := [.slice pa' CR.ps.length pc', .int .i64 CR.inc, .int .i64 CR.delay]) (by rfl) 29 (.tmp 2) (.tmp 7) (by rfl) (w.heap.size + 1) (by rfl) (by rfl) HX3.out (by rfl) (by kernel_rfl) (by rfl) ?_
 have HS := Lib.hid (HX3.out.store (vs := [.slice pa' CR.ps.length pc', .int .i64 CR.inc, .int .i64 CR.delay]) rfl)
 have HLf := Lib.hid (below_setCells HB2.out (Nat.le_succ _) 0 [.slice pa' CR.ps.length pc', .int .i64 CR.inc, .int .i64 CR.delay])
 have HOf := Lib.hid (own_setCells HO2.out (b := w.heap.size + 1) hs0 0 [.slice pa' CR.ps.length pc', .int .i64 CR.inc, .int .i64 CR.delay])
 generalize w2.setCells (w.heap.size + 1) 0 [.slice pa' CR.ps.length pc', .int .i64 CR.inc, .int .i64 CR.delay] = wf at *
 go_wp2_with fail
 exact bodyPost_ret (results_one rfl (by rfl) HS.out Tryz.underlying29 (by rfl) (by kernel_rfl)) rfl ⟨pa', pc', vs, rfl, own_base HOf.out (by omega), RdL.of_own HOf.out (fun i h => HE1.out wf i h), HLf.out⟩
end Go.Proofs.YtnodagljaoonjaaGreatDoor
namespace Go.Proofs.YtnodagljaoonjaaGreatDoor
open Go.ChangeShapes Go.WideShapes Go.ChangeAt Go.RowKit
set_option linter.unusedVariables false
variable {S : Nat → Prop} {base b : Nat} {M : MatZ} {B : MatB}
end Go.Proofs.YtnodagljaoonjaaGreatDoor
namespace Go.Proofs.YtnodagljaoonjaaGreatDoor
open Go.ChangeShapes Go.WideShapes Go.ChangeAt Go.RowKit
set_option linter.unusedVariables false
variable {S : Nat → Prop} {base b : Nat} {M : MatZ} {B : MatB}
def minCR : CrZ := ⟨[(0, 60000)], 1000, 0⟩
theorem minute_any (w : World) : Calls Tryz.prog 19 #[] w fun e w' => e = .returned (.agg #[.slice (some ⟨w.heap.size + 1, 0, none⟩) 1 1, .int .i64 1000, .int .i64 0]) ∧ clk.PerAt w' w'.heap.size (some ⟨w.heap.size + 1, 0, none⟩) 1 minCR.ps ∧ Below w.heap.size w w' := by
 go_enter Tryz.func19, Tryz.ntmps19
 go_upto_region 1 with (fail)
 go_wp2_with fail
 have HX := (Box.new w [.slice (some ⟨w.heap.size + 1, 0, none⟩) 1 1, .int .i64 1000, .int .i64 0] 29).alloc (.cells #[.int .i64 0, .int .i64 60000] 110)
 have HY := Box.new' (w.alloc (.cells #[.slice (some ⟨w.heap.size + 1, 0, none⟩) 1 1, .int .i64 1000, .int .i64 0] 29)) (w.heap.size + 1) [.int .i64 0, .int .i64 60000] 110 (by simp)
 have HB : Below w.heap.size w ((w.alloc (.cells #[.slice (some ⟨w.heap.size + 1, 0, none⟩) 1 1, .int .i64 1000, .int .i64 0] 29)).alloc (.cells #[.int .i64 0, .int .i64 60000] 110)) := ((Below.refl w.heap.size w).alloc (Nat.le_refl _) _).alloc (by simp) _
 refine bodyPost_ret (results_one rfl (by rfl) HX Tryz.underlying29 (by rfl) (by kernel_rfl)) rfl ⟨rfl, ⟨rfl, fun _ => ⟨w.heap.size + 1, 0, rfl, HY.lt, fun k hk => ?_⟩⟩, HB⟩
 obtain rfl : k = 0 := by omega
 exact ⟨HY.cell 0 rfl, HY.cell 1 rfl⟩
end Go.Proofs.YtnodagljaoonjaaGreatDoor
