/- claim.Fallen; match's doClaim. -/
import Derived.Test.YtnodagljaoonjaaGreatDoorC32
import Derived.Test.YtnodagljaoonjaaGreatDoorC09
import Derived.Test.YtnodagljaoonjaaGreatDoorC05
namespace Go.Proofs.YtnodagljaoonjaaGreatDoor
open Go.ChangeShapes Go.WideShapes Go.ChangeAt Go.RowKit
set_option linter.unusedVariables false
set_option maxHeartbeats 16000000
set_option maxRecDepth 100000
variable {S : Nat → Prop} {base b : Nat} {M : MatZ} {B : MatB}
theorem Fallen_any (R : RulesZ) (vp vs ve : Value) (p : PosZ) (vc v0 v1 : Value) (pl : Int) (w : World) (hr : RdR w R vp vs ve) (hnm : R.name.size ≤ maxLen) (hp : RdP w p vc v0 v1) (K : POk R p) (hre : rulesErr R = 0) (hpl : pl = 0 ∨ pl = 1) :
  Calls Tryz.prog 92 #[(.agg #[.string R.name, .int .i64 R.width, .int .i64 R.height, vp, vs, .bool R.falls, .bool R.keeps, ve, .int .i64 R.blocked, .int .i64 R.quiet, .int .i64 R.rept]), (.agg #[vc, v0, v1, .int .i64 p.turn, .int .i64 p.quiet]), .int .i64 pl] w fun e w' => e = .returned (.tuple #[.int .i64 (fallenZ R p pl), .int .i64 0]) ∧ Below w.heap.size w w' := by
 have HR := Lib.hid hr
 have HN := Lib.hid hnm
 have HP := Lib.hid hp
 have HE0 : Hid (ableErr R p pl = 0) := Lib.hid (by unfold ableErr; rw [if_neg (by rw [pos_of hre K]; decide), if_neg (by omega)])
 have HE1 : Hid (ableErr R p (1 - pl) = 0) := Lib.hid (by unfold ableErr; rw [if_neg (by rw [pos_of hre K]; decide), if_neg (by omega)])
 have HA1 : Hid (ableR R p (1 - pl) = canZ R p (1 - pl)) := Lib.hid (by unfold ableR; rw [if_neg (by rw [HE1.out]; decide)])
 have HD : Hid (fallenZ R p pl = if canZ R p (1 - pl) = true then 2 - pl else 3) := Lib.hid rfl
 have HPl := Lib.hid hpl
 clear hr hnm hp K hre hpl
 go_enter Tryz.func92, Tryz.ntmps92
 go_upto_region 1 with (fail)
 refine opn2 fun w0 B0 B1 yb_ hs_ => ?_
 have HB := Lib.hid yb_
 have hz0 : w.heap.size + 1 < w0.heap.size := by omega
 clear hs_ yb_
 have HX0 := Lib.hid B0
 have HX1 := Lib.hid B1
 clear B0 B1 hz0
 refine wp_region_lit ?_
 refine wpList_load_box (by rfl) 26 (.tmp 3) (by rfl) (w.heap.size) (by rfl) HX0.out Tryz.underlying26 (by rfl) (by kernel_rfl) ?_
 refine wpList_load_box (by rfl) 59 (.tmp 4) (by rfl) (w.heap.size + 1) (by rfl) HX1.out Tryz.underlying59 (by rfl) (by kernel_rfl) ?_
 go_wp2_with fail
 refine (Able_any R vp vs ve p vc v0 v1 pl w0 (HR.out.below HB.out (Nat.le_refl _)) HN.out (HP.out.below HB.out (Nat.le_refl _))).mono ?_
 rintro e w1 ⟨rfl, hb1⟩
 have HB1 := Lib.hid (below_trans HB.out hb1 HB.out.size)
 have HX01 := Lib.hid (HX0.out.stays hb1)
 have HX11 := Lib.hid (HX1.out.stays hb1)
 rw [HE0.out]
 generalize ableR R p pl = ab at *
 clear hb1 HX0 HX1 HB
 go_upto_region 4 with (fail)
 refine wp_region_lit ?_
 refine wpList_load_box (by rfl) 26 (.tmp 3) (by rfl) (w.heap.size) (by rfl) HX01.out Tryz.underlying26 (by rfl) (by kernel_rfl) ?_
 refine wpList_load_box (by rfl) 59 (.tmp 4) (by rfl) (w.heap.size + 1) (by rfl) HX11.out Tryz.underlying59 (by rfl) (by kernel_rfl) ?_
 have hw1 : IntKind.i64.wrap (1 - pl) = 1 - pl := IntWalk.i64_in _ (by have := HPl.out; omega)
 have hw2 : IntKind.i64.wrap (2 - pl) = 2 - pl := IntWalk.i64_in _ (by have := HPl.out; omega)
 go_wp2_with fail
 refine (Able_any R vp vs ve p vc v0 v1 (1 - pl) w1 (HR.out.below HB1.out (Nat.le_refl _)) HN.out (HP.out.below HB1.out (Nat.le_refl _))).mono ?_
 rintro e w2 ⟨rfl, hb2⟩
 have HB2 := Lib.hid (below_trans HB1.out hb2 HB1.out.size)
 rw [HE1.out, HA1.out]
 clear hb2 HX01 HX11 HB1
 generalize canZ R p (1 - pl) = cz at *
 cases cz
 ·go_wp2_with fail
  go_ret2
  exact ⟨by rw [HD.out]; rfl, HB2.out⟩
 ·go_wp2_with fail
  go_ret2
  exact ⟨by rw [HD.out]; rfl, HB2.out⟩
theorem doClaim_any (HS : SortMvSaid) (ev : EvZ) (w : World) (h : MatchAt S base w b M B) (hb : base ≤ w.heap.size) (hcr : CrG M.CR) (hck : ClkG M.CR M.clk) (hsn : M.clk.since ≤ ev.now) (hnw : ev.now ≤ 100000000) (hnm : M.R.name.size ≤ maxLen) : Calls Tryz.prog 62 #[.pointer (some ⟨b, 0, none⟩), .agg #[.int .i64 ev.kind, .int .i64 ev.player, .int .i64 ev.n, .int .i64 ev.now, .int .i64 ev.m.src, .int .i64 ev.m.dst, .int .i64 ev.m.piece]] w fun e w' => e = .returned (.int .i64 (M.doClaim ev).2) ∧ MPost S base b w (M.doClaim ev).1 w' := by
 have HPc := Lib.hid (And.intro hcr (And.intro hck (And.intro hsn hnw)))
 have HNm := Lib.hid hnm
 clear hcr hck hsn hnw hnm
 have HSh := Lib.hid HS
 have HM := Lib.hid h
 have HBb := Lib.hid hb
 have HSX : Hid (¬ S w.heap.size) := Lib.hid (fun hk => by obtain ⟨up, us, ue, vl, vm, rows, hg⟩ := h.game; have := (hg.lo _ hk).2; omega)
 have HEb : Hid (b < w.heap.size) := Lib.hid h.box.lt
 clear h hb HS
 go_enter Tryz.func62, Tryz.ntmps62
 go_upto_region 1 with (fail)
 refine opn1 fun w0 y0_ yb_ hs_ => ?_
 have HE0 := Lib.hid y0_
 have HB0 := Lib.hid yb_
 clear hs_ y0_ yb_
 have HM0 := Lib.hid (HM.out.below HB0.out)
 have HEq : Hid (w.heap.size ≠ b) := Lib.hid (fun e => by have := HEb.out; omega)
 have e2 := HE0.out.cell 2 rfl
 by_cases hn2 : ev.n = 2
 ·have HDA : Hid (M.doClaim ev = if (lookC M.CR M.clk ev.now).fallen < 0 then (M, 10) else ({ M with clk := lookC M.CR M.clk ev.now, res := fallenZ M.R M.pos (lookC M.CR M.clk ev.now).fallen, reason := 2 }, 0)) := Lib.hid (by unfold MatZ.doClaim; rw [if_pos hn2])
  have hnb : (ev.n == 2) = true := by simpa using hn2
  clear hn2
  go_upto_region 2 with (fail)
  clear e2 hnb
  generalize w0 = wq at *
  have Mz : MatchAt S base wq.drew b M B := HM0.out.below (below_drew' (Below.refl _ _))
  have Ez := HE0.out.drew
  have Lz : Below wq.drew.heap.size wq.drew wq.drew := Below.refl _ _
  have HWq : Hid (Below w.heap.size w wq.drew) := Lib.hid (below_drew' HB0.out)
  clear HM0 HE0 HB0
  refine wp_region_noPanic ?_
  refine beginL (S := (fun w' => w'.cell? ⟨b, 11, none⟩ = some (.slice B.pa M.CR.ps.length B.pc) ∧ w'.cell? ⟨b, 12, none⟩ = some (.int .i64 M.CR.inc) ∧ w'.cell? ⟨b, 13, none⟩ = some (.int .i64 M.CR.delay) ∧ w'.cell? ⟨b, 18, none⟩ = some (.int .i64 M.clk.l0) ∧ w'.cell? ⟨b, 19, none⟩ = some (.int .i64 M.clk.l1) ∧ w'.cell? ⟨b, 20, none⟩ = some (.int .i64 M.clk.m0) ∧ w'.cell? ⟨b, 21, none⟩ = some (.int .i64 M.clk.m1) ∧ w'.cell? ⟨b, 22, none⟩ = some (.int .i64 M.clk.p0) ∧ w'.cell? ⟨b, 23, none⟩ = some (.int .i64 M.clk.p1) ∧ w'.cell? ⟨b, 24, none⟩ = some (.int .i64 M.clk.turn) ∧ w'.cell? ⟨b, 25, none⟩ = some (.int .i64 M.clk.since) ∧ w'.cell? ⟨b, 26, none⟩ = some (.bool M.clk.st) ∧ w'.cell? ⟨b, 27, none⟩ = some (.int .i64 M.clk.fallen) ∧ w'.cell? ⟨w.heap.size, 3, none⟩ = some (.int .i64 ev.now))) (L := []) (by kernel_rfl) (by and_intros <;> first | exact Mz.box.cell _ rfl | exact Ez.cell _ rfl) (fun hHeld => ?_)
  refine tkW 0 ?_
  refine tkW 4 ?_
  refine tkW 9 ?_
  refine tkW 1 ?_
  refine tkW 5 ?_
  refine tkL 10 ?_
  refine tkW 2 ?_
  refine tkW 6 ?_
  refine tkL 3 ?_
  refine tkW 7 ?_
  refine tkL 8 ?_
  refine rdL (rs := [11, 15]) ?_
  refine (AllReadyL.cons (by first | (simp only [List.getElem?_toArray, List.getElem?_cons_zero, List.getElem?_cons_succ] <;> rfl) | rfl) (fun K hK => ?_) (AllReadyL.cons (by first | (simp only [List.getElem?_toArray, List.getElem?_cons_zero, List.getElem?_cons_succ] <;> rfl) | rfl) (fun K hK => ?_) AllReadyL.nil))
  ·skip
   go_simp
   refine (lookC_any M.CR M.clk ev.now B.pa B.pc _ HPc.out.1 HPc.out.2.1 HPc.out.2.2.1 HPc.out.2.2.2 Mz.fr.per).mono ?_
   rintro e w11 ⟨rfl, hbb⟩
   unfold clkA
   have M11 := Mz.below hbb
   have E11 := Ez.stays hbb
   have L11 := below_trans Lz hbb Lz.size
   clear hbb
   refine hK.out _ _ (by and_intros <;> first | exact M11.box.cell _ rfl | exact E11.cell _ rfl) (fun hHeld => ?_)
   clear hK K
   refine tkW 12 ?_
   refine tkW 13 ?_
   refine tkW 14 ?_
   refine cnL 15 fun K hK => ?_
   go_simp
   refine K_world ?_
   intro w15 e15
   have hbb : Below w11.heap.size w11 w15 := by rw [e15]; exact (Below.refl _ _).alloc (Nat.le_refl _) _
   have X15 : Box w15 (w11.heap.size) [.int .i64 0, .int .i64 0, .int .i64 0, .int .i64 0, .int .i64 0, .int .i64 0, .int .i64 0, .int .i64 0, .bool false, .int .i64 0] 44 := by rw [e15]; exact Box.new' _ _ _ _ rfl
   have M15 := M11.below hbb
   have E15 := E11.stays hbb
   have L15 := below_trans L11 hbb L11.size
   clear hbb e15
   refine hK.out _ _ (by and_intros <;> first | exact M15.box.cell _ rfl | exact E15.cell _ rfl) (fun hHeld => ?_)
   clear hK K
   refine cnL 16 fun K hK => ?_
   rw [if_pos (by rfl)]
   refine wp_store_mid 44 (.tmp 5) (.tmp 24) (by rfl) (w11.heap.size) 0 #[.int .i64 (lookC M.CR M.clk ev.now).l0, .int .i64 (lookC M.CR M.clk ev.now).l1, .int .i64 (lookC M.CR M.clk ev.now).m0, .int .i64 (lookC M.CR M.clk ev.now).m1, .int .i64 (lookC M.CR M.clk ev.now).p0, .int .i64 (lookC M.CR M.clk ev.now).p1, .int .i64 (lookC M.CR M.clk ev.now).turn, .int .i64 (lookC M.CR M.clk ev.now).since, .bool (lookC M.CR M.clk ev.now).st, .int .i64 (lookC M.CR M.clk ev.now).fallen] (by rfl) (by rfl) (X15.has 0 10 (by simp)) (by kernel_rfl) (by simp [Value.oneCell']) ?_
   refine K_world ?_
   intro w16 e16
   have X16 : Box w16 (w11.heap.size) [.int .i64 (lookC M.CR M.clk ev.now).l0, .int .i64 (lookC M.CR M.clk ev.now).l1, .int .i64 (lookC M.CR M.clk ev.now).m0, .int .i64 (lookC M.CR M.clk ev.now).m1, .int .i64 (lookC M.CR M.clk ev.now).p0, .int .i64 (lookC M.CR M.clk ev.now).p1, .int .i64 (lookC M.CR M.clk ev.now).turn, .int .i64 (lookC M.CR M.clk ev.now).since, .bool (lookC M.CR M.clk ev.now).st, .int .i64 (lookC M.CR M.clk ev.now).fallen] 44 := by rw [e16]; exact X15.store rfl
   have hbn : wq.heap.size ≤ w11.heap.size := L11.size
   have L16 : Below wq.drew.heap.size wq.drew w16 := by rw [e16]; exact below_setCells L15 hbn 0 _
   have M16 := Mz.below L16
   have E16 := Ez.stays L16
   clear e16 hbn
   refine hK.out _ _ (by and_intros <;> first | exact M16.box.cell _ rfl | exact E16.cell _ rfl) (fun hHeld => ?_)
   clear hK K
   refine tkW 17 ?_
   refine dnN ?_
   have HM1 := Lib.hid M16
   have HE1 := Lib.hid E16
   have HB1 : Hid (Below w.heap.size w w16) := Lib.hid (below_trans HWq.out L16 HWq.out.size)
   have HX1 := Lib.hid X16
   have HNX : Hid (w11.heap.size ≠ b) := Lib.hid (fun e => by have h1 := Mz.box.lt; have h2 : wq.heap.size ≤ w11.heap.size := L11.size; have h3 : b < wq.heap.size := h1; omega)
   clear M11 E11 L11 M15 E15 L15 M16 E16 L16 Mz Ez Lz hHeld HWq X15 X16
   generalize w16 = w5 at *
   generalize w11.heap.size = bx at *
   have HFr : Hid (-1 ≤ (lookC M.CR M.clk ev.now).fallen ∧ (lookC M.CR M.clk ev.now).fallen ≤ 1) := Lib.hid (look_g HPc.out.2.1 ev.now).f
   obtain ⟨lc, hlc⟩ : ∃ lc, lc = (lookC M.CR M.clk ev.now) := ⟨_, rfl⟩
   have HLC : Hid (lc = lookC M.CR M.clk ev.now) := Lib.hid hlc
   rw [← hlc] at HX1 HFr ⊢
   clear hlc
   have x9 := HX1.out.cell 9 rfl
   go_upto_region 3 with (fail)
   by_cases hf : lc.fallen < 0
   ·have HD2 : Hid (M.doClaim ev = (M, 10)) := Lib.hid (by rw [HDA.out, ← HLC.out, if_pos hf])
    go_wp2_with fail
    go_ret
    exact ⟨by rw [HD2.out]; rfl, S, B, by rw [HD2.out]; exact HM1.out, Shr.refl _ _, MFr.new HB1.out⟩
   have HD2 : Hid (M.doClaim ev = ({ M with clk := lc, res := fallenZ M.R M.pos lc.fallen, reason := 2 }, 0)) := Lib.hid (by rw [HDA.out, ← HLC.out, if_neg hf])
   have HF01 : Hid (lc.fallen = 0 ∨ lc.fallen = 1) := Lib.hid (by have := HFr.out; omega)
   go_upto_region 5 with (fail)
   clear hf x9
   have x0 := HX1.out.cell 0 rfl
   have x1 := HX1.out.cell 1 rfl
   have x2 := HX1.out.cell 2 rfl
   have x3 := HX1.out.cell 3 rfl
   have x4 := HX1.out.cell 4 rfl
   have x5 := HX1.out.cell 5 rfl
   have x6 := HX1.out.cell 6 rfl
   have x7 := HX1.out.cell 7 rfl
   have x8 := HX1.out.cell 8 rfl
   have x9 := HX1.out.cell 9 rfl
   have d18 := HM1.out.box.cell 18 rfl
   have f18 := HM1.out.box.frozen 18
   have d19 := HM1.out.box.cell 19 rfl
   have f19 := HM1.out.box.frozen 19
   have d20 := HM1.out.box.cell 20 rfl
   have f20 := HM1.out.box.frozen 20
   have d21 := HM1.out.box.cell 21 rfl
   have f21 := HM1.out.box.frozen 21
   have d22 := HM1.out.box.cell 22 rfl
   have f22 := HM1.out.box.frozen 22
   have d23 := HM1.out.box.cell 23 rfl
   have f23 := HM1.out.box.frozen 23
   have d24 := HM1.out.box.cell 24 rfl
   have f24 := HM1.out.box.frozen 24
   have d25 := HM1.out.box.cell 25 rfl
   have f25 := HM1.out.box.frozen 25
   have d26 := HM1.out.box.cell 26 rfl
   have f26 := HM1.out.box.frozen 26
   have d27 := HM1.out.box.cell 27 rfl
   have f27 := HM1.out.box.frozen 27
   have HP := Lib.hid (HM1.out.put (M' := { M with clk := lc }) (B' := B) 18 [.int .i64 lc.l0, .int .i64 lc.l1, .int .i64 lc.m0, .int .i64 lc.m1, .int .i64 lc.p0, .int .i64 lc.p1, .int .i64 lc.turn, .int .i64 lc.since, .bool lc.st, .int .i64 lc.fallen] (by simp) rfl rfl rfl rfl (HM1.out.rd.imp (fun _ h => ⟨h.rd, h.per, h.pc, h.pr, h.jr⟩)))
   go_upto_region 6 with (fail)
   clear d18 f18 d19 f19 d20 f20 d21 f21 d22 f22 d23 f23 d24 f24 d25 f25 d26 f26 d27 f27 x0 x1 x2 x3 x4 x5 x6 x7 x8 x9
   refine wp_world ?_
   intro w6 e6
   have HM2 : Hid (MatchAt S base w6 b ({ M with clk := lc } : MatZ) B) := Lib.hid (by rw [e6]; exact HP.out.1)
   have HF2 : Hid (MFr S b w w6) := Lib.hid (by rw [e6]; exact (MFr.new HB1.out).trans HP.out.2 (Shr.refl _ _))
   have HX2 : Hid (Box w6 bx [.int .i64 lc.l0, .int .i64 lc.l1, .int .i64 lc.m0, .int .i64 lc.m1, .int .i64 lc.p0, .int .i64 lc.p1, .int .i64 lc.turn, .int .i64 lc.since, .bool lc.st, .int .i64 lc.fallen] 44) := Lib.hid (by rw [e6]; exact HX1.out.farAll HNX.out 18 [.int .i64 lc.l0, .int .i64 lc.l1, .int .i64 lc.m0, .int .i64 lc.m1, .int .i64 lc.p0, .int .i64 lc.p1, .int .i64 lc.turn, .int .i64 lc.since, .bool lc.st, .int .i64 lc.fallen])
   clear HP HM1 HE1 HX1 e6
   generalize w6 = wq at *
   have Mz : MatchAt S base wq.drew b ({ M with clk := lc } : MatZ) B := HM2.out.below (below_drew' (Below.refl _ _))
   have Ez := HX2.out.drew
   have Lz : Below wq.drew.heap.size wq.drew wq.drew := Below.refl _ _
   have HWq : Hid (MFr S b w wq.drew) := Lib.hid (Fr.drew HF2.out)
   have HK6 : Hid (POk M.R M.pos) := Lib.hid (by obtain ⟨up, us, ue, vl, vm, rows, hg⟩ := Mz.game; exact hg.nok)
   have HR6 : Hid (rulesErr M.R = 0) := Lib.hid (by obtain ⟨up, us, ue, vl, vm, rows, hg⟩ := Mz.game; exact hg.re)
   clear HM2 HX2
   refine wp_region_noPanic ?_
   refine beginL (S := (fun w' => w'.cell? ⟨b, 0, none⟩ = some (.string ({ M with clk := lc } : MatZ).R.name) ∧ w'.cell? ⟨b, 1, none⟩ = some (.int .i64 ({ M with clk := lc } : MatZ).R.width) ∧ w'.cell? ⟨b, 2, none⟩ = some (.int .i64 ({ M with clk := lc } : MatZ).R.height) ∧ w'.cell? ⟨b, 3, none⟩ = some B.vp ∧ w'.cell? ⟨b, 4, none⟩ = some B.vs ∧ w'.cell? ⟨b, 5, none⟩ = some (.bool ({ M with clk := lc } : MatZ).R.falls) ∧ w'.cell? ⟨b, 6, none⟩ = some (.bool ({ M with clk := lc } : MatZ).R.keeps) ∧ w'.cell? ⟨b, 7, none⟩ = some B.ve ∧ w'.cell? ⟨b, 8, none⟩ = some (.int .i64 ({ M with clk := lc } : MatZ).R.blocked) ∧ w'.cell? ⟨b, 9, none⟩ = some (.int .i64 ({ M with clk := lc } : MatZ).R.quiet) ∧ w'.cell? ⟨b, 10, none⟩ = some (.int .i64 ({ M with clk := lc } : MatZ).R.rept) ∧ w'.cell? ⟨b, 14, none⟩ = some (.pointer (some ⟨B.g, 0, none⟩)) ∧ w'.cell? ⟨bx, 9, none⟩ = some (.int .i64 lc.fallen))) (L := []) (by kernel_rfl) (by and_intros <;> first | exact Mz.box.cell _ rfl | exact Ez.cell _ rfl) (fun hHeld => ?_)
   refine tkW 0 ?_
   refine tkW 1 ?_
   refine tkW 5 ?_
   refine tkW 10 ?_
   refine tkW 2 ?_
   refine tkW 6 ?_
   refine tkL 11 ?_
   refine tkW 3 ?_
   refine tkW 7 ?_
   refine tkL 4 ?_
   refine tkL 8 ?_
   refine cnL 9 fun K hK => ?_
   go_simp
   obtain ⟨up', us', ue', vl', vm', rows', hgp⟩ := Mz.game
   refine (gamePos_any _ hgp.plain).mono ?_
   clear hgp
   rintro e w9 ⟨vc, v0, v1, rfl, ho9, hbb⟩
   have M9 := Mz.below hbb
   have E9 := Ez.stays hbb
   have L9 := below_trans Lz hbb Lz.size
   have P9 := ho9.rd
   clear hbb
   refine hK.out _ _ (by and_intros <;> first | exact M9.box.cell _ rfl | exact E9.cell _ rfl) (fun hHeld => ?_)
   clear hK K
   refine cnL 12 fun K hK => ?_
   go_simp
   refine (Fallen_any M.R B.vp B.vs B.ve M.pos vc v0 v1 lc.fallen _ M9.fr.rd HNm.out P9 HK6.out HR6.out HF01.out).mono ?_
   rintro e w12 ⟨rfl, hbb⟩
   have M12 := M9.below hbb
   have E12 := E9.stays hbb
   have L12 := below_trans L9 hbb L9.size
   have P12 := P9.below hbb (Nat.le_refl _)
   clear hbb
   refine hK.out _ _ (by and_intros <;> first | exact M12.box.cell _ rfl | exact E12.cell _ rfl) (fun hHeld => ?_)
   clear hK K
   refine tkW 13 ?_
   refine tkW 14 ?_
   refine tkW 15 ?_
   refine tkW 16 ?_
   refine tkW 17 ?_
   refine tkW 18 ?_
   refine cnL 19 fun K hK => ?_
   have dd := M12.box.cell 16 rfl
   have df := M12.box.frozen 16
   go_simp
   refine K_world ?_
   intro w19 e19
   clear dd df
   have P19 := M12.put (M' := { M with clk := lc, res := (fallenZ M.R M.pos lc.fallen) }) (B' := B) 16 [.int .i64 (fallenZ M.R M.pos lc.fallen)] (by simp) rfl rfl rfl rfl (M12.rd.imp (fun _ h => ⟨h.rd, h.per, h.pc, h.pr, h.jr⟩))
   have M19 : MatchAt S base w19 b { M with clk := lc, res := (fallenZ M.R M.pos lc.fallen) } B := by rw [e19]; exact P19.1
   have FF19 : MFr S b wq.drew w19 := by rw [e19]; exact (MFr.new L12).trans P19.2 (Shr.refl _ _)
   have E19 : Box w19 (bx) [.int .i64 lc.l0, .int .i64 lc.l1, .int .i64 lc.m0, .int .i64 lc.m1, .int .i64 lc.p0, .int .i64 lc.p1, .int .i64 lc.turn, .int .i64 lc.since, .bool lc.st, .int .i64 lc.fallen] 44 := by rw [e19]; exact E12.far ⟨b, 16, none⟩ _ (fun e => HNX.out e)
   clear P19 e19
   refine hK.out _ _ (by and_intros <;> first | exact M19.box.cell _ rfl | exact E19.cell _ rfl) (fun hHeld => ?_)
   clear hK K
   refine dnN ?_
   have HM3 := Lib.hid M19
   have HF3 : Hid (MFr S b w w19) := Lib.hid (HWq.out.trans FF19 (Shr.refl _ _))
   clear M9 E9 L9 M12 E12 L12 P9 P12 ho9 M19 E19 FF19 Mz Ez Lz hHeld HWq
   generalize w19 = w7 at *
   have d17 := HM3.out.box.cell 17 rfl
   have f17 := HM3.out.box.frozen 17
   have HP := Lib.hid (HM3.out.put (M' := { M with clk := lc, res := (fallenZ M.R M.pos lc.fallen), reason := 2 }) (B' := B) 17 [.int .i64 2] (by simp) rfl rfl rfl rfl (HM3.out.rd.imp (fun _ h => ⟨h.rd, h.per, h.pc, h.pr, h.jr⟩)))
   go_wp2_with fail
   go_ret
   exact ⟨by rw [HD2.out]; rfl, S, B, by rw [HD2.out]; exact HP.out.1, Shr.refl _ _, HF3.out.trans HP.out.2 (Shr.refl _ _)⟩
  ·skip
   go_simp
   refine K_world ?_
   intro w15 e15
   have hbb : Below wq.drew.heap.size wq.drew w15 := by rw [e15]; exact (Below.refl _ _).alloc (Nat.le_refl _) _
   have X15 : Box w15 (wq.heap.size) [.int .i64 0, .int .i64 0, .int .i64 0, .int .i64 0, .int .i64 0, .int .i64 0, .int .i64 0, .int .i64 0, .bool false, .int .i64 0] 44 := by rw [e15]; exact Box.new' _ _ _ _ rfl
   have M15 := Mz.below hbb
   have E15 := Ez.stays hbb
   have L15 := below_trans Lz hbb Lz.size
   clear hbb e15
   refine hK.out _ _ (by and_intros <;> first | exact M15.box.cell _ rfl | exact E15.cell _ rfl) (fun hHeld => ?_)
   clear hK K
   refine cnL 11 fun K hK => ?_
   go_simp
   refine (lookC_any M.CR M.clk ev.now B.pa B.pc _ HPc.out.1 HPc.out.2.1 HPc.out.2.2.1 HPc.out.2.2.2 M15.fr.per).mono ?_
   rintro e w11 ⟨rfl, hbb⟩
   unfold clkA
   have M11 := M15.below hbb
   have E11 := E15.stays hbb
   have L11 := below_trans L15 hbb L15.size
   have X11 := X15.stays hbb
   clear hbb
   refine hK.out _ _ (by and_intros <;> first | exact M11.box.cell _ rfl | exact E11.cell _ rfl) (fun hHeld => ?_)
   clear hK K
   refine tkW 12 ?_
   refine tkW 13 ?_
   refine tkW 14 ?_
   refine cnL 16 fun K hK => ?_
   rw [if_pos (by rfl)]
   refine wp_store_mid 44 (.tmp 5) (.tmp 24) (by rfl) (wq.heap.size) 0 #[.int .i64 (lookC M.CR M.clk ev.now).l0, .int .i64 (lookC M.CR M.clk ev.now).l1, .int .i64 (lookC M.CR M.clk ev.now).m0, .int .i64 (lookC M.CR M.clk ev.now).m1, .int .i64 (lookC M.CR M.clk ev.now).p0, .int .i64 (lookC M.CR M.clk ev.now).p1, .int .i64 (lookC M.CR M.clk ev.now).turn, .int .i64 (lookC M.CR M.clk ev.now).since, .bool (lookC M.CR M.clk ev.now).st, .int .i64 (lookC M.CR M.clk ev.now).fallen] (by rfl) (by rfl) (X11.has 0 10 (by simp)) (by kernel_rfl) (by simp [Value.oneCell']) ?_
   refine K_world ?_
   intro w16 e16
   have X16 : Box w16 (wq.heap.size) [.int .i64 (lookC M.CR M.clk ev.now).l0, .int .i64 (lookC M.CR M.clk ev.now).l1, .int .i64 (lookC M.CR M.clk ev.now).m0, .int .i64 (lookC M.CR M.clk ev.now).m1, .int .i64 (lookC M.CR M.clk ev.now).p0, .int .i64 (lookC M.CR M.clk ev.now).p1, .int .i64 (lookC M.CR M.clk ev.now).turn, .int .i64 (lookC M.CR M.clk ev.now).since, .bool (lookC M.CR M.clk ev.now).st, .int .i64 (lookC M.CR M.clk ev.now).fallen] 44 := by rw [e16]; exact X11.store rfl
   have hbn : wq.heap.size ≤ wq.heap.size := Nat.le_refl _
   have L16 : Below wq.drew.heap.size wq.drew w16 := by rw [e16]; exact below_setCells L11 hbn 0 _
   have M16 := Mz.below L16
   have E16 := Ez.stays L16
   clear e16 hbn
   refine hK.out _ _ (by and_intros <;> first | exact M16.box.cell _ rfl | exact E16.cell _ rfl) (fun hHeld => ?_)
   clear hK K
   refine tkW 17 ?_
   refine dnN ?_
   have HM1 := Lib.hid M16
   have HE1 := Lib.hid E16
   have HB1 : Hid (Below w.heap.size w w16) := Lib.hid (below_trans HWq.out L16 HWq.out.size)
   have HX1 := Lib.hid X16
   have HNX : Hid (wq.heap.size ≠ b) := Lib.hid (fun e => by have h1 := Mz.box.lt; have h2 : wq.heap.size ≤ wq.heap.size := Nat.le_refl _; have h3 : b < wq.heap.size := h1; omega)
   clear M11 E11 L11 M15 E15 L15 M16 E16 L16 Mz Ez Lz hHeld HWq X15 X11 X16
   generalize w16 = w5 at *
   obtain ⟨bx, hbx⟩ : ∃ bx, bx = wq.heap.size := ⟨_, rfl⟩
   rw [← hbx] at HX1 HNX ⊢
   clear hbx
   have HFr : Hid (-1 ≤ (lookC M.CR M.clk ev.now).fallen ∧ (lookC M.CR M.clk ev.now).fallen ≤ 1) := Lib.hid (look_g HPc.out.2.1 ev.now).f
   obtain ⟨lc, hlc⟩ : ∃ lc, lc = (lookC M.CR M.clk ev.now) := ⟨_, rfl⟩
   have HLC : Hid (lc = lookC M.CR M.clk ev.now) := Lib.hid hlc
   rw [← hlc] at HX1 HFr ⊢
   clear hlc
   have x9 := HX1.out.cell 9 rfl
   go_upto_region 3 with (fail)
   by_cases hf : lc.fallen < 0
   ·have HD2 : Hid (M.doClaim ev = (M, 10)) := Lib.hid (by rw [HDA.out, ← HLC.out, if_pos hf])
    go_wp2_with fail
    go_ret
    exact ⟨by rw [HD2.out]; rfl, S, B, by rw [HD2.out]; exact HM1.out, Shr.refl _ _, MFr.new HB1.out⟩
   have HD2 : Hid (M.doClaim ev = ({ M with clk := lc, res := fallenZ M.R M.pos lc.fallen, reason := 2 }, 0)) := Lib.hid (by rw [HDA.out, ← HLC.out, if_neg hf])
   have HF01 : Hid (lc.fallen = 0 ∨ lc.fallen = 1) := Lib.hid (by have := HFr.out; omega)
   go_upto_region 5 with (fail)
   clear hf x9
   have x0 := HX1.out.cell 0 rfl
   have x1 := HX1.out.cell 1 rfl
   have x2 := HX1.out.cell 2 rfl
   have x3 := HX1.out.cell 3 rfl
   have x4 := HX1.out.cell 4 rfl
   have x5 := HX1.out.cell 5 rfl
   have x6 := HX1.out.cell 6 rfl
   have x7 := HX1.out.cell 7 rfl
   have x8 := HX1.out.cell 8 rfl
   have x9 := HX1.out.cell 9 rfl
   have d18 := HM1.out.box.cell 18 rfl
   have f18 := HM1.out.box.frozen 18
   have d19 := HM1.out.box.cell 19 rfl
   have f19 := HM1.out.box.frozen 19
   have d20 := HM1.out.box.cell 20 rfl
   have f20 := HM1.out.box.frozen 20
   have d21 := HM1.out.box.cell 21 rfl
   have f21 := HM1.out.box.frozen 21
   have d22 := HM1.out.box.cell 22 rfl
   have f22 := HM1.out.box.frozen 22
   have d23 := HM1.out.box.cell 23 rfl
   have f23 := HM1.out.box.frozen 23
   have d24 := HM1.out.box.cell 24 rfl
   have f24 := HM1.out.box.frozen 24
   have d25 := HM1.out.box.cell 25 rfl
   have f25 := HM1.out.box.frozen 25
   have d26 := HM1.out.box.cell 26 rfl
   have f26 := HM1.out.box.frozen 26
   have d27 := HM1.out.box.cell 27 rfl
   have f27 := HM1.out.box.frozen 27
   have HP := Lib.hid (HM1.out.put (M' := { M with clk := lc }) (B' := B) 18 [.int .i64 lc.l0, .int .i64 lc.l1, .int .i64 lc.m0, .int .i64 lc.m1, .int .i64 lc.p0, .int .i64 lc.p1, .int .i64 lc.turn, .int .i64 lc.since, .bool lc.st, .int .i64 lc.fallen] (by simp) rfl rfl rfl rfl (HM1.out.rd.imp (fun _ h => ⟨h.rd, h.per, h.pc, h.pr, h.jr⟩)))
   go_upto_region 6 with (fail)
   clear d18 f18 d19 f19 d20 f20 d21 f21 d22 f22 d23 f23 d24 f24 d25 f25 d26 f26 d27 f27 x0 x1 x2 x3 x4 x5 x6 x7 x8 x9
   refine wp_world ?_
   intro w6 e6
   have HM2 : Hid (MatchAt S base w6 b ({ M with clk := lc } : MatZ) B) := Lib.hid (by rw [e6]; exact HP.out.1)
   have HF2 : Hid (MFr S b w w6) := Lib.hid (by rw [e6]; exact (MFr.new HB1.out).trans HP.out.2 (Shr.refl _ _))
   have HX2 : Hid (Box w6 bx [.int .i64 lc.l0, .int .i64 lc.l1, .int .i64 lc.m0, .int .i64 lc.m1, .int .i64 lc.p0, .int .i64 lc.p1, .int .i64 lc.turn, .int .i64 lc.since, .bool lc.st, .int .i64 lc.fallen] 44) := Lib.hid (by rw [e6]; exact HX1.out.farAll HNX.out 18 [.int .i64 lc.l0, .int .i64 lc.l1, .int .i64 lc.m0, .int .i64 lc.m1, .int .i64 lc.p0, .int .i64 lc.p1, .int .i64 lc.turn, .int .i64 lc.since, .bool lc.st, .int .i64 lc.fallen])
   clear HP HM1 HE1 HX1 e6
   generalize w6 = wq at *
   have Mz : MatchAt S base wq.drew b ({ M with clk := lc } : MatZ) B := HM2.out.below (below_drew' (Below.refl _ _))
   have Ez := HX2.out.drew
   have Lz : Below wq.drew.heap.size wq.drew wq.drew := Below.refl _ _
   have HWq : Hid (MFr S b w wq.drew) := Lib.hid (Fr.drew HF2.out)
   have HK6 : Hid (POk M.R M.pos) := Lib.hid (by obtain ⟨up, us, ue, vl, vm, rows, hg⟩ := Mz.game; exact hg.nok)
   have HR6 : Hid (rulesErr M.R = 0) := Lib.hid (by obtain ⟨up, us, ue, vl, vm, rows, hg⟩ := Mz.game; exact hg.re)
   clear HM2 HX2
   refine wp_region_noPanic ?_
   refine beginL (S := (fun w' => w'.cell? ⟨b, 0, none⟩ = some (.string ({ M with clk := lc } : MatZ).R.name) ∧ w'.cell? ⟨b, 1, none⟩ = some (.int .i64 ({ M with clk := lc } : MatZ).R.width) ∧ w'.cell? ⟨b, 2, none⟩ = some (.int .i64 ({ M with clk := lc } : MatZ).R.height) ∧ w'.cell? ⟨b, 3, none⟩ = some B.vp ∧ w'.cell? ⟨b, 4, none⟩ = some B.vs ∧ w'.cell? ⟨b, 5, none⟩ = some (.bool ({ M with clk := lc } : MatZ).R.falls) ∧ w'.cell? ⟨b, 6, none⟩ = some (.bool ({ M with clk := lc } : MatZ).R.keeps) ∧ w'.cell? ⟨b, 7, none⟩ = some B.ve ∧ w'.cell? ⟨b, 8, none⟩ = some (.int .i64 ({ M with clk := lc } : MatZ).R.blocked) ∧ w'.cell? ⟨b, 9, none⟩ = some (.int .i64 ({ M with clk := lc } : MatZ).R.quiet) ∧ w'.cell? ⟨b, 10, none⟩ = some (.int .i64 ({ M with clk := lc } : MatZ).R.rept) ∧ w'.cell? ⟨b, 14, none⟩ = some (.pointer (some ⟨B.g, 0, none⟩)) ∧ w'.cell? ⟨bx, 9, none⟩ = some (.int .i64 lc.fallen))) (L := []) (by kernel_rfl) (by and_intros <;> first | exact Mz.box.cell _ rfl | exact Ez.cell _ rfl) (fun hHeld => ?_)
   refine tkW 0 ?_
   refine tkW 1 ?_
   refine tkW 5 ?_
   refine tkW 10 ?_
   refine tkW 2 ?_
   refine tkW 6 ?_
   refine tkL 11 ?_
   refine tkW 3 ?_
   refine tkW 7 ?_
   refine tkL 4 ?_
   refine tkL 8 ?_
   refine cnL 9 fun K hK => ?_
   go_simp
   obtain ⟨up', us', ue', vl', vm', rows', hgp⟩ := Mz.game
   refine (gamePos_any _ hgp.plain).mono ?_
   clear hgp
   rintro e w9 ⟨vc, v0, v1, rfl, ho9, hbb⟩
   have M9 := Mz.below hbb
   have E9 := Ez.stays hbb
   have L9 := below_trans Lz hbb Lz.size
   have P9 := ho9.rd
   clear hbb
   refine hK.out _ _ (by and_intros <;> first | exact M9.box.cell _ rfl | exact E9.cell _ rfl) (fun hHeld => ?_)
   clear hK K
   refine cnL 12 fun K hK => ?_
   go_simp
   refine (Fallen_any M.R B.vp B.vs B.ve M.pos vc v0 v1 lc.fallen _ M9.fr.rd HNm.out P9 HK6.out HR6.out HF01.out).mono ?_
   rintro e w12 ⟨rfl, hbb⟩
   have M12 := M9.below hbb
   have E12 := E9.stays hbb
   have L12 := below_trans L9 hbb L9.size
   have P12 := P9.below hbb (Nat.le_refl _)
   clear hbb
   refine hK.out _ _ (by and_intros <;> first | exact M12.box.cell _ rfl | exact E12.cell _ rfl) (fun hHeld => ?_)
   clear hK K
   refine tkW 13 ?_
   refine tkW 14 ?_
   refine tkW 15 ?_
   refine tkW 16 ?_
   refine tkW 17 ?_
   refine tkW 18 ?_
   refine cnL 19 fun K hK => ?_
   have dd := M12.box.cell 16 rfl
   have df := M12.box.frozen 16
   go_simp
   refine K_world ?_
   intro w19 e19
   clear dd df
   have P19 := M12.put (M' := { M with clk := lc, res := (fallenZ M.R M.pos lc.fallen) }) (B' := B) 16 [.int .i64 (fallenZ M.R M.pos lc.fallen)] (by simp) rfl rfl rfl rfl (M12.rd.imp (fun _ h => ⟨h.rd, h.per, h.pc, h.pr, h.jr⟩))
   have M19 : MatchAt S base w19 b { M with clk := lc, res := (fallenZ M.R M.pos lc.fallen) } B := by rw [e19]; exact P19.1
   have FF19 : MFr S b wq.drew w19 := by rw [e19]; exact (MFr.new L12).trans P19.2 (Shr.refl _ _)
   have E19 : Box w19 (bx) [.int .i64 lc.l0, .int .i64 lc.l1, .int .i64 lc.m0, .int .i64 lc.m1, .int .i64 lc.p0, .int .i64 lc.p1, .int .i64 lc.turn, .int .i64 lc.since, .bool lc.st, .int .i64 lc.fallen] 44 := by rw [e19]; exact E12.far ⟨b, 16, none⟩ _ (fun e => HNX.out e)
   clear P19 e19
   refine hK.out _ _ (by and_intros <;> first | exact M19.box.cell _ rfl | exact E19.cell _ rfl) (fun hHeld => ?_)
   clear hK K
   refine dnN ?_
   have HM3 := Lib.hid M19
   have HF3 : Hid (MFr S b w w19) := Lib.hid (HWq.out.trans FF19 (Shr.refl _ _))
   clear M9 E9 L9 M12 E12 L12 P9 P12 ho9 M19 E19 FF19 Mz Ez Lz hHeld HWq
   generalize w19 = w7 at *
   have d17 := HM3.out.box.cell 17 rfl
   have f17 := HM3.out.box.frozen 17
   have HP := Lib.hid (HM3.out.put (M' := { M with clk := lc, res := (fallenZ M.R M.pos lc.fallen), reason := 2 }) (B' := B) 17 [.int .i64 2] (by simp) rfl rfl rfl rfl (HM3.out.rd.imp (fun _ h => ⟨h.rd, h.per, h.pc, h.pr, h.jr⟩)))
   go_wp2_with fail
   go_ret
   exact ⟨by rw [HD2.out]; rfl, S, B, by rw [HD2.out]; exact HP.out.1, Shr.refl _ _, HF3.out.trans HP.out.2 (Shr.refl _ _)⟩
 have hnb2 : (ev.n == 2) = false := by simpa using hn2
 have HN2 := Lib.hid hn2
 have HG0 : Hid (∃ up us ue vl vm rows, GameAt S base w0 B.g M.R M.ms up us ue vl vm rows) := Lib.hid (by obtain ⟨up, us, ue, vl, vm, rows, hg⟩ := HM0.out.game; exact ⟨_, _, _, _, _, _, hg.plain⟩)
 by_cases hn0 : ev.n = 0
 ·have hnb0 : (ev.n == 0) = true := by simpa using hn0
  have hnc0 : (ev.n != 0) = false := by simpa using hn0
  have hnb1 : (ev.n == 1) = false := by simp; omega
  have HDB : Hid (M.doClaim ev = if M.pos.turn ≠ ev.player then (M, 12) else if ¬ (ev.n = 0 ∧ 3 ≤ countZ M.R M.ms ∨ ev.n = 1 ∧ 20 ≤ M.pos.quiet) then (M, 10) else ({ M with res := 3, reason := 5 }, 0)) := Lib.hid (by unfold MatZ.doClaim; rw [if_neg HN2.out, if_neg (by omega)])
  have HN0 := Lib.hid hn0
  clear hn2 hn0
  have c14 := HM0.out.box.cell 14 rfl
  go_wp2_with fail
  obtain ⟨up, us, ue, vl, vm, rows, hgk⟩ := HG0.out
  refine (count_any w0 hgk).mono ?_
  rintro e w5 ⟨rfl, hb5⟩
  have HM5 := Lib.hid (HM0.out.below hb5)
  have HE5 := Lib.hid (HE0.out.stays hb5)
  have HB5 := Lib.hid (below_trans HB0.out hb5 HB0.out.size)
  have e2' := HE5.out.cell 2 rfl
  clear hb5 hgk c14 HM0 HE0 HB0 e2 HG0
  by_cases hc : 3 ≤ countZ M.R M.ms
  ·have HRT : Hid (ev.n = 0 ∧ 3 ≤ countZ M.R M.ms ∨ ev.n = 1 ∧ 20 ≤ M.pos.quiet) := Lib.hid (.inl ⟨HN0.out, hc⟩)
   have HcD : Hid (decide ((3 : Int) ≤ (countZ M.R M.ms : Int)) = true) := Lib.hid (decide_eq_true (by first | exact hc | omega))
   have hcI : (3 : Int) ≤ (countZ M.R M.ms : Int) := by omega
   clear hc
   generalize (countZ M.R M.ms : Int) = cnt at *
   have HM0 := HM5
   have HE0 := HE5
   have HB0 := HB5
   go_upto_region 12 with (fail)
   generalize w5 = wq at *
   have Mz : MatchAt S base wq.drew b M B := HM0.out.below (below_drew' (Below.refl _ _))
   have Ez := HE0.out.drew
   have Lz : Below wq.drew.heap.size wq.drew wq.drew := Below.refl _ _
   have HWq : Hid (Below w.heap.size w wq.drew) := Lib.hid (below_drew' HB0.out)
   clear HM0 HE0 HB0 HM5 HE5 HB5
   refine wp_region_noPanic ?_
   refine beginL (S := (fun w' => w'.cell? ⟨w.heap.size, 1, none⟩ = some (.int .i64 ev.player))) (L := []) (by kernel_rfl) (Ez.cell 1 rfl) (fun hHeld => ?_)
   refine tkW 0 ?_
   refine tkW 2 ?_
   refine tkL 3 ?_
   refine cnL 1 fun K hK => ?_
   go_simp
   refine (turn_any _ Mz).mono ?_
   rintro e w1 ⟨rfl, hbb⟩
   have M1 := Mz.below hbb
   have E1 := Ez.stays hbb
   have L1 := below_trans Lz hbb Lz.size
   clear hbb
   refine hK.out _ _ (E1.cell 1 rfl) (fun hHeld => ?_)
   clear hK K
   refine tkW 4 ?_
   refine tkW 5 ?_
   refine dnN ?_
   have HM4 := Lib.hid M1
   have HB4 : Hid (Below w.heap.size w w1) := Lib.hid (below_trans HWq.out L1 HWq.out.size)
   clear M1 E1 L1 Mz Ez Lz hHeld HWq
   generalize w1 = w7 at *
   by_cases ht : M.pos.turn = ev.player
   rotate_left
   ·have HD2 : Hid (M.doClaim ev = (M, 12)) := Lib.hid (by rw [HDB.out, if_pos ht])
    have htb : (M.pos.turn != ev.player) = true := by simpa using ht
    clear ht
    generalize M.pos.turn = tt at *
    go_wp2_with fail
    go_ret
    exact ⟨by rw [HD2.out]; rfl, S, B, by rw [HD2.out]; exact HM4.out, Shr.refl _ _, MFr.new HB4.out⟩
   have htb : (M.pos.turn != ev.player) = false := by simpa using ht
   have HT := Lib.hid ht
   clear ht
   generalize M.pos.turn = tt at *
   try rw [HcD.out]
   have HD2 : Hid (M.doClaim ev = ({ M with res := 3, reason := 5 }, 0)) := Lib.hid (by rw [HDB.out, if_neg (fun h => h HT.out), if_neg (fun h => h HRT.out)])
   have d16 := HM4.out.box.cell 16 rfl
   have f16 := HM4.out.box.frozen 16
   have d17 := HM4.out.box.cell 17 rfl
   have f17 := HM4.out.box.frozen 17
   have HP := Lib.hid (HM4.out.put (M' := { M with res := 3, reason := 5 }) (B' := B) 16 [.int .i64 3, .int .i64 5] (by simp) rfl rfl rfl rfl (HM4.out.rd.imp (fun _ h => ⟨h.rd, h.per, h.pc, h.pr, h.jr⟩)))
   go_wp2_with fail
   go_ret
   exact ⟨by rw [HD2.out]; rfl, S, B, by rw [HD2.out]; exact HP.out.1, Shr.refl _ _, (MFr.new HB4.out).trans HP.out.2 (Shr.refl _ _)⟩
  ·have HRT : Hid (¬ (ev.n = 0 ∧ 3 ≤ countZ M.R M.ms ∨ ev.n = 1 ∧ 20 ≤ M.pos.quiet)) := Lib.hid (fun h => by have := HN0.out; omega)
   have HcD : Hid (decide ((3 : Int) ≤ (countZ M.R M.ms : Int)) = false) := Lib.hid (decide_eq_false (by first | exact hc | omega))
   have hcI : ¬ (3 : Int) ≤ (countZ M.R M.ms : Int) := by omega
   clear hc
   generalize (countZ M.R M.ms : Int) = cnt at *
   have HM0 := HM5
   have HE0 := HE5
   have HB0 := HB5
   go_upto_region 12 with (fail)
   generalize w5 = wq at *
   have Mz : MatchAt S base wq.drew b M B := HM0.out.below (below_drew' (Below.refl _ _))
   have Ez := HE0.out.drew
   have Lz : Below wq.drew.heap.size wq.drew wq.drew := Below.refl _ _
   have HWq : Hid (Below w.heap.size w wq.drew) := Lib.hid (below_drew' HB0.out)
   clear HM0 HE0 HB0 HM5 HE5 HB5
   refine wp_region_noPanic ?_
   refine beginL (S := (fun w' => w'.cell? ⟨w.heap.size, 1, none⟩ = some (.int .i64 ev.player))) (L := []) (by kernel_rfl) (Ez.cell 1 rfl) (fun hHeld => ?_)
   refine tkW 0 ?_
   refine tkW 2 ?_
   refine tkL 3 ?_
   refine cnL 1 fun K hK => ?_
   go_simp
   refine (turn_any _ Mz).mono ?_
   rintro e w1 ⟨rfl, hbb⟩
   have M1 := Mz.below hbb
   have E1 := Ez.stays hbb
   have L1 := below_trans Lz hbb Lz.size
   clear hbb
   refine hK.out _ _ (E1.cell 1 rfl) (fun hHeld => ?_)
   clear hK K
   refine tkW 4 ?_
   refine tkW 5 ?_
   refine dnN ?_
   have HM4 := Lib.hid M1
   have HB4 : Hid (Below w.heap.size w w1) := Lib.hid (below_trans HWq.out L1 HWq.out.size)
   clear M1 E1 L1 Mz Ez Lz hHeld HWq
   generalize w1 = w7 at *
   by_cases ht : M.pos.turn = ev.player
   rotate_left
   ·have HD2 : Hid (M.doClaim ev = (M, 12)) := Lib.hid (by rw [HDB.out, if_pos ht])
    have htb : (M.pos.turn != ev.player) = true := by simpa using ht
    clear ht
    generalize M.pos.turn = tt at *
    go_wp2_with fail
    go_ret
    exact ⟨by rw [HD2.out]; rfl, S, B, by rw [HD2.out]; exact HM4.out, Shr.refl _ _, MFr.new HB4.out⟩
   have htb : (M.pos.turn != ev.player) = false := by simpa using ht
   have HT := Lib.hid ht
   clear ht
   generalize M.pos.turn = tt at *
   try rw [HcD.out]
   have HD2 : Hid (M.doClaim ev = (M, 10)) := Lib.hid (by rw [HDB.out, if_neg (fun h => h HT.out), if_pos HRT.out])
   go_wp2_with fail
   go_ret
   exact ⟨by rw [HD2.out]; rfl, S, B, by rw [HD2.out]; exact HM4.out, Shr.refl _ _, MFr.new HB4.out⟩
 have hnb0 : (ev.n == 0) = false := by simpa using hn0
 have hnc0 : (ev.n != 0) = true := by simpa using hn0
 by_cases hn1 : ev.n = 1
 ·have hnb1 : (ev.n == 1) = true := by simpa using hn1
  have hnc1 : (ev.n != 1) = false := by simpa using hn1
  have HDB : Hid (M.doClaim ev = if M.pos.turn ≠ ev.player then (M, 12) else if ¬ (ev.n = 0 ∧ 3 ≤ countZ M.R M.ms ∨ ev.n = 1 ∧ 20 ≤ M.pos.quiet) then (M, 10) else ({ M with res := 3, reason := 5 }, 0)) := Lib.hid (by unfold MatZ.doClaim; rw [if_neg HN2.out, if_neg (by omega)])
  have HN0 := Lib.hid hn1
  clear hn2 hn0 hn1
  have c14 := HM0.out.box.cell 14 rfl
  have HQ : Hid ((nowZ M.R M.ms).quiet = M.pos.quiet) := Lib.hid rfl
  go_wp2_with fail
  obtain ⟨up, us, ue, vl, vm, rows, hgk⟩ := HG0.out
  refine (gamePos_any w0 hgk).mono ?_
  rintro e w5 ⟨vc, v0, v1, rfl, ho5, hb5⟩
  have HM5 := Lib.hid (HM0.out.below hb5)
  have HE5 := Lib.hid (HE0.out.stays hb5)
  have HB5 := Lib.hid (below_trans HB0.out hb5 HB0.out.size)
  have e2' := HE5.out.cell 2 rfl
  have hfq := fieldQuiet vc v0 v1 (nowZ M.R M.ms).turn (nowZ M.R M.ms).quiet
  clear hb5 hgk c14 HM0 HE0 HB0 e2 HG0 ho5
  by_cases hc : 20 ≤ M.pos.quiet
  ·have HRT : Hid (ev.n = 0 ∧ 3 ≤ countZ M.R M.ms ∨ ev.n = 1 ∧ 20 ≤ M.pos.quiet) := Lib.hid (.inr ⟨HN0.out, hc⟩)
   have HcD : Hid (decide ((20 : Int) ≤ (nowZ M.R M.ms).quiet) = true) := Lib.hid (decide_eq_true (by first | exact hc | omega))
   have hcI : (20 : Int) ≤ (nowZ M.R M.ms).quiet := hc
   clear hc
   generalize (nowZ M.R M.ms).quiet = cnt at *
   have HM0 := HM5
   have HE0 := HE5
   have HB0 := HB5
   go_upto_region 12 with (fail)
   generalize w5 = wq at *
   have Mz : MatchAt S base wq.drew b M B := HM0.out.below (below_drew' (Below.refl _ _))
   have Ez := HE0.out.drew
   have Lz : Below wq.drew.heap.size wq.drew wq.drew := Below.refl _ _
   have HWq : Hid (Below w.heap.size w wq.drew) := Lib.hid (below_drew' HB0.out)
   clear HM0 HE0 HB0 HM5 HE5 HB5
   refine wp_region_noPanic ?_
   refine beginL (S := (fun w' => w'.cell? ⟨w.heap.size, 1, none⟩ = some (.int .i64 ev.player))) (L := []) (by kernel_rfl) (Ez.cell 1 rfl) (fun hHeld => ?_)
   refine tkW 0 ?_
   refine tkW 2 ?_
   refine tkL 3 ?_
   refine cnL 1 fun K hK => ?_
   go_simp
   refine (turn_any _ Mz).mono ?_
   rintro e w1 ⟨rfl, hbb⟩
   have M1 := Mz.below hbb
   have E1 := Ez.stays hbb
   have L1 := below_trans Lz hbb Lz.size
   clear hbb
   refine hK.out _ _ (E1.cell 1 rfl) (fun hHeld => ?_)
   clear hK K
   refine tkW 4 ?_
   refine tkW 5 ?_
   refine dnN ?_
   have HM4 := Lib.hid M1
   have HB4 : Hid (Below w.heap.size w w1) := Lib.hid (below_trans HWq.out L1 HWq.out.size)
   clear M1 E1 L1 Mz Ez Lz hHeld HWq
   generalize w1 = w7 at *
   by_cases ht : M.pos.turn = ev.player
   rotate_left
   ·have HD2 : Hid (M.doClaim ev = (M, 12)) := Lib.hid (by rw [HDB.out, if_pos ht])
    have htb : (M.pos.turn != ev.player) = true := by simpa using ht
    clear ht
    generalize M.pos.turn = tt at *
    go_wp2_with fail
    go_ret
    exact ⟨by rw [HD2.out]; rfl, S, B, by rw [HD2.out]; exact HM4.out, Shr.refl _ _, MFr.new HB4.out⟩
   have htb : (M.pos.turn != ev.player) = false := by simpa using ht
   have HT := Lib.hid ht
   clear ht
   generalize M.pos.turn = tt at *
   try rw [HcD.out]
   have HD2 : Hid (M.doClaim ev = ({ M with res := 3, reason := 5 }, 0)) := Lib.hid (by rw [HDB.out, if_neg (fun h => h HT.out), if_neg (fun h => h HRT.out)])
   have d16 := HM4.out.box.cell 16 rfl
   have f16 := HM4.out.box.frozen 16
   have d17 := HM4.out.box.cell 17 rfl
   have f17 := HM4.out.box.frozen 17
   have HP := Lib.hid (HM4.out.put (M' := { M with res := 3, reason := 5 }) (B' := B) 16 [.int .i64 3, .int .i64 5] (by simp) rfl rfl rfl rfl (HM4.out.rd.imp (fun _ h => ⟨h.rd, h.per, h.pc, h.pr, h.jr⟩)))
   go_wp2_with fail
   go_ret
   exact ⟨by rw [HD2.out]; rfl, S, B, by rw [HD2.out]; exact HP.out.1, Shr.refl _ _, (MFr.new HB4.out).trans HP.out.2 (Shr.refl _ _)⟩
  ·have HRT : Hid (¬ (ev.n = 0 ∧ 3 ≤ countZ M.R M.ms ∨ ev.n = 1 ∧ 20 ≤ M.pos.quiet)) := Lib.hid (fun h => by have := HN0.out; omega)
   have HcD : Hid (decide ((20 : Int) ≤ (nowZ M.R M.ms).quiet) = false) := Lib.hid (decide_eq_false (by first | exact hc | omega))
   have hcI : ¬ (20 : Int) ≤ (nowZ M.R M.ms).quiet := hc
   clear hc
   generalize (nowZ M.R M.ms).quiet = cnt at *
   have HM0 := HM5
   have HE0 := HE5
   have HB0 := HB5
   go_upto_region 12 with (fail)
   generalize w5 = wq at *
   have Mz : MatchAt S base wq.drew b M B := HM0.out.below (below_drew' (Below.refl _ _))
   have Ez := HE0.out.drew
   have Lz : Below wq.drew.heap.size wq.drew wq.drew := Below.refl _ _
   have HWq : Hid (Below w.heap.size w wq.drew) := Lib.hid (below_drew' HB0.out)
   clear HM0 HE0 HB0 HM5 HE5 HB5
   refine wp_region_noPanic ?_
   refine beginL (S := (fun w' => w'.cell? ⟨w.heap.size, 1, none⟩ = some (.int .i64 ev.player))) (L := []) (by kernel_rfl) (Ez.cell 1 rfl) (fun hHeld => ?_)
   refine tkW 0 ?_
   refine tkW 2 ?_
   refine tkL 3 ?_
   refine cnL 1 fun K hK => ?_
   go_simp
   refine (turn_any _ Mz).mono ?_
   rintro e w1 ⟨rfl, hbb⟩
   have M1 := Mz.below hbb
   have E1 := Ez.stays hbb
   have L1 := below_trans Lz hbb Lz.size
   clear hbb
   refine hK.out _ _ (E1.cell 1 rfl) (fun hHeld => ?_)
   clear hK K
   refine tkW 4 ?_
   refine tkW 5 ?_
   refine dnN ?_
   have HM4 := Lib.hid M1
   have HB4 : Hid (Below w.heap.size w w1) := Lib.hid (below_trans HWq.out L1 HWq.out.size)
   clear M1 E1 L1 Mz Ez Lz hHeld HWq
   generalize w1 = w7 at *
   by_cases ht : M.pos.turn = ev.player
   rotate_left
   ·have HD2 : Hid (M.doClaim ev = (M, 12)) := Lib.hid (by rw [HDB.out, if_pos ht])
    have htb : (M.pos.turn != ev.player) = true := by simpa using ht
    clear ht
    generalize M.pos.turn = tt at *
    go_wp2_with fail
    go_ret
    exact ⟨by rw [HD2.out]; rfl, S, B, by rw [HD2.out]; exact HM4.out, Shr.refl _ _, MFr.new HB4.out⟩
   have htb : (M.pos.turn != ev.player) = false := by simpa using ht
   have HT := Lib.hid ht
   clear ht
   generalize M.pos.turn = tt at *
   try rw [HcD.out]
   have HD2 : Hid (M.doClaim ev = (M, 10)) := Lib.hid (by rw [HDB.out, if_neg (fun h => h HT.out), if_pos HRT.out])
   go_wp2_with fail
   go_ret
   exact ⟨by rw [HD2.out]; rfl, S, B, by rw [HD2.out]; exact HM4.out, Shr.refl _ _, MFr.new HB4.out⟩
 have hnb1 : (ev.n == 1) = false := by simpa using hn1
 have hnc1 : (ev.n != 1) = true := by simpa using hn1
 have HD2 : Hid (M.doClaim ev = (M, 1)) := Lib.hid (by unfold MatZ.doClaim; rw [if_neg HN2.out, if_pos ⟨hn0, hn1⟩])
 clear hn2 hn0 hn1
 go_wp2_with fail
 go_ret
 exact ⟨by rw [HD2.out]; rfl, S, B, by rw [HD2.out]; exact HM0.out, Shr.refl _ _, MFr.new HB0.out⟩
end Go.Proofs.YtnodagljaoonjaaGreatDoor
