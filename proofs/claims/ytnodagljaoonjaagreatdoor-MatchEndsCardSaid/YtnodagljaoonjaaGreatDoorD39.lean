/- MaPo, MaEn. -/
import Derived.Test.YtnodagljaoonjaaGreatDoorD37
import Derived.Test.YtnodagljaoonjaaGreatDoorD38
import Derived.Test.YtnodagljaoonjaaGreatDoorC05
import Derived.Test.YtnodagljaoonjaaGreatDoorC09
namespace Go.Proofs.YtnodagljaoonjaaGreatDoor
open Go.ChangeShapes Go.WideShapes Go.ChangeAt Go.RowKit
set_option linter.unusedVariables false
set_option maxRecDepth 100000 in
set_option maxHeartbeats 4000000 in
theorem MPos_any {S : Nat → Prop} {base b : Nat} {M : MatZ} {B : MatB} (w : World) (h : MatchAt S base w b M B) : Calls Tryz.prog 15 #[.pointer (some ⟨b, 0, none⟩)] w fun e w' => ∃ vc v0 v1, e = .returned (.agg #[vc, v0, v1, .int .i64 (nowZ M.R M.ms).turn, .int .i64 (nowZ M.R M.ms).quiet]) ∧ OwnP w.heap.size w' (nowZ M.R M.ms) vc v0 v1 ∧ Below w.heap.size w w' := by
 have HM := Lib.hid h
 have HBn := Lib.hid (Box.new w [.slice none 0 0, .slice none 0 0, .slice none 0 0, .int .i64 0, .int .i64 0] 59)
 have HLn := Lib.hid ((Below.refl w.heap.size w).alloc (Nat.le_refl _) (.cells #[.slice none 0 0, .slice none 0 0, .slice none 0 0, .int .i64 0, .int .i64 0] 59))
 clear h
 go_enter Tryz.func15, Tryz.ntmps15
 go_upto_region 1 with (fail)
 generalize (w.alloc (.cells #[.slice none 0 0, .slice none 0 0, .slice none 0 0, .int .i64 0, .int .i64 0] 59)) = w0 at *
 have HM0 := Lib.hid (HM.out.below HLn.out)
 have c14 := HM0.out.box.cell 14 rfl
 obtain ⟨up, us, ue, vl, vm, rows, hg⟩ := HM0.out.game
 have HG := Lib.hid hg.plain
 clear hg
 go_wp2_with fail
 refine (gamePos_any w0 HG.out).mono ?_
 rintro e w2 ⟨c, c0, c1, rfl, ho2, hb2⟩
 obtain ⟨pa, pn, rfl⟩ := own_form2 ho2.1
 obtain ⟨pa0, pn0, rfl⟩ := own_form2 ho2.2.1
 obtain ⟨pa1, pn1, rfl⟩ := own_form2 ho2.2.2.1
 have HB2 := Lib.hid (HBn.out.stays hb2)
 have HL2 := Lib.hid (below_trans HLn.out hb2 HLn.out.size)
 have hz := HBn.out.lt
 have HO2 := Lib.hid ho2
 clear hb2 ho2 c14
 go_wp2_with (refine wpList_store_box (vs := [.slice pa (nowZ M.R M.ms).cells.length pn, .slice pa0 (nowZ M.R M.ms).h0.length pn0, .slice pa1 (nowZ M.R M.ms).h1.length pn1, .int .i64 (nowZ M.R M.ms).turn, .int .i64 (nowZ M.R M.ms).quiet]) (by rfl) 59 (.tmp 2) (.tmp 7) (by rfl) (w.heap.size) (by rfl) (by rfl) HB2.out rfl (by kernel_rfl) (by rfl) ?_)
 exact bodyPost_ret (results_one rfl (by rfl) (HB2.out.store rfl) Tryz.underlying59 (by rfl) (by kernel_rfl)) rfl ⟨_, _, _, rfl, (HO2.out.setCells hz 0 _).base (by have := HLn.out.size; omega), below_setCells HL2.out (Nat.le_refl _) 0 _⟩
end Go.Proofs.YtnodagljaoonjaaGreatDoor
namespace Go.Proofs.YtnodagljaoonjaaGreatDoor
open Go.ChangeShapes Go.WideShapes Go.ChangeAt Go.RowKit
set_option linter.unusedVariables false
variable {S : Nat → Prop} {base b : Nat} {M : MatZ} {B : MatB}
theorem sameZ_rf (p : PosZ) : sameZ p p = true := by unfold sameZ; simp
theorem go_jr (M : MatZ) (e : EvZ) : (M.go e).1.jr.length ≤ M.jr.length + 1 := by
 by_cases h : (M.go e).2 = 0
 ·rw [go_len M e h]; exact Nat.le_refl _
 ·rw [go_bad M e h]; exact Nat.le_succ _
def MidE (R : RulesZ) (base b : Nat) (w3 : World) (k : Nat) (wr : World) : Prop := ∃ M S B, MatchAt S base wr b M B ∧ RInv M ∧ gx.runErr M.R M.ms = 0 ∧ M.R = R ∧ MInv M ∧ M.ms.length ≤ 400 ∧ M.jr.length ≤ k + 1 ∧ Tab base wr ∧ base ≤ wr.heap.size ∧ Below base w3 wr
set_option maxRecDepth 100000 in
set_option maxHeartbeats 16000000 in
theorem ends_walk (HSo : SortMvSaid) (HI : ItoaSaid) (HJ : JoinSaidM) (R : RulesZ) (vp vs ve : Value) (CR : CrZ) (pa : Option Addr) (pc : Nat) (vl : Value) (evs0 : List EvZ) (y : EvZ) (hy : evOk y) (w : World) (hr : RdR w R vp vs ve) (hnm : R.name.size ≤ maxLen) (hp : clk.PerAt w w.heap.size pa CR.ps.length CR.ps) (h1 : CR.ps.length ≤ pc) (h2 : pc ≤ maxLen) (hl : RdL evEl w vl evs0) (ht : Tab w.heap.size w) :
  Calls Tryz.prog 4 #[(.agg #[.string R.name, .int .i64 R.width, .int .i64 R.height, vp, vs, .bool R.falls, .bool R.keeps, ve, .int .i64 R.blocked, .int .i64 R.quiet, .int .i64 R.rept]), (.agg #[.slice pa CR.ps.length pc, .int .i64 CR.inc, .int .i64 CR.delay]), vl, .agg #[.int .i64 y.kind, .int .i64 y.player, .int .i64 y.n, .int .i64 y.now, .int .i64 y.m.src, .int .i64 y.m.dst, .int .i64 y.m.piece]] w fun e w' => e = .returned (.bool true) ∧ Below w.heap.size w w' := by
 have HS := Lib.hid HSo
 have HIt := Lib.hid HI
 have HJo := Lib.hid HJ
 have HR := Lib.hid hr
 have HNm := Lib.hid hnm
 have HP := Lib.hid hp
 have HPc := Lib.hid (And.intro h1 h2)
 have HTab := Lib.hid ht
 obtain ⟨ea, ec, rfl, he1, he2⟩ := hl.form
 unfold maxLen at he2
 obtain ⟨L, hL⟩ : ∃ L, L = min evs0.length 25 := ⟨_, rfl⟩
 have m1 : L ≤ evs0.length := by omega
 have m2 : L ≤ 25 := by omega
 have hmin : (if (25 : Int) < (evs0.length : Int) then (25 : Int) else (evs0.length : Int)) = (L : Int) := by split <;> omega
 have m3 : L ≤ ec := by omega
 have HE0 := Lib.hid (hl.take L m1)
 have hgl : (evs0.take L).length = L := by rw [List.length_take]; omega
 clear HSo HI HJ hr hnm hp h1 h2 hl ht hL
 generalize evs0.take L = evs at HE0 hgl
 have HY := Lib.hid hy
 clear hy
 go_enter Tryz.func4, Tryz.ntmps4
 go_upto_region 1 with (fail)
 refine opn3 fun w0 b0_ b1_ b2_ hb_ hs_ => ?_
 have HX0 := Lib.hid b0_
 have HX1 := Lib.hid b1_
 have HX2 := Lib.hid b2_
 have HB := Lib.hid hb_
 clear b0_ b1_ b2_ hb_ hs_
 go_wp2_with fail
 refine (plays_any HS.out HIt.out HJo.out w0 (HTab.out.mono HB.out.size HB.out)).mono ?_
 rintro e w1 ⟨rfl, hb1⟩
 have HB1 := Lib.hid (HB.out.trans (hb1.mono HB.out.size))
 have HY0 := Lib.hid (HX0.out.stays hb1)
 have HY1 := Lib.hid (HX1.out.stays hb1)
 have HY2 := Lib.hid (HX2.out.stays hb1)
 clear hb1 HX0 HX1 HX2 HB
 go_upto_region 4 with (fail)
 clear hmin
 refine wp_region_lit ?_
 refine wpList_load_box (by rfl) 26 (.tmp 4) (by rfl) (w.heap.size) (by rfl) HY0.out Tryz.underlying26 (by rfl) (by kernel_rfl) ?_
 go_wp2_with fail
 refine (great_anyG R vp vs ve w1 (HR.out.2.1.below HB1.out (Nat.le_refl _))).mono ?_
 rintro e w2 ⟨rfl, hb2⟩
 have HB2 := Lib.hid (HB1.out.trans (hb2.mono HB1.out.size))
 have HZ0 := Lib.hid (HY0.out.stays hb2)
 have HZ1 := Lib.hid (HY1.out.stays hb2)
 have HZ2 := Lib.hid (HY2.out.stays hb2)
 clear hb2 HB1 HY0 HY1 HY2
 by_cases hgr : 20 < (R.start.length : Int)
 ·have hd : decide (20 < (R.start.length : Int)) = true := by simpa using hgr
  rw [hd]
  clear hgr hd
  go_wp2_with fail
  go_ret
  exact ⟨rfl, HB2.out⟩
 have hd : decide (20 < (R.start.length : Int)) = false := by simpa using hgr
 rw [hd]
 clear hgr hd
 go_upto_region 6 with (fail)
 refine wp_region_lit ?_
 refine wpList_load_box (by rfl) 26 (.tmp 4) (by rfl) (w.heap.size) (by rfl) HZ0.out Tryz.underlying26 (by rfl) (by kernel_rfl) ?_
 refine wpList_load_box (by rfl) 29 (.tmp 5) (by rfl) (w.heap.size + 1) (by rfl) HZ1.out Tryz.underlying29 (by rfl) (by kernel_rfl) ?_
 go_wp2_with fail
 refine (NewM_any HS.out HIt.out R CR vp vs ve pa pc 0 w2 (HR.out.below HB2.out (Nat.le_refl _)) HNm.out (HP.out.below HB2.out) HPc.out.1 HPc.out.2 (by decide) (by decide) (HTab.out.mono HB2.out.size HB2.out)).mono ?_
 rintro e w3 (⟨c, ⟨hc0, hbad⟩, rfl, hb3⟩ | ⟨hre0, hcg, base, S0, b, B0, rfl, hm, hb0, hb1, hb3⟩)
 ·have HB3 := Lib.hid (HB2.out.trans (hb3.mono HB2.out.size))
  have hcb : (c != 0) = true := by simpa using hc0
  clear hb3 hbad hc0
  go_wp2_with fail
  go_ret
  exact ⟨rfl, HB3.out⟩
 have hbw : w.heap.size ≤ base := Nat.le_trans HB2.out.size hb0
 have HU0 := Lib.hid (HZ0.out.stays hb3)
 have HU2 := Lib.hid (HZ2.out.stays hb3)
 have HbU : Hid (w.heap.size + 1 + 1 < base) := Lib.hid (Nat.lt_of_lt_of_le HZ2.out.lt hb0)
 have HB3 := Lib.hid (HB2.out.trans (hb3.mono HB2.out.size))
 have HM0 : Hid (MidE R base b w3 0 w3) := Lib.hid ⟨_, S0, B0, hm, RInv_new R CR 0, by rw [new_R, show (newM R CR 0).ms = [] from List.length_eq_zero_iff.1 (new_ms R CR 0)]; unfold gx.runErr; rw [if_neg (fun h => h hre0)]; rfl, new_R R CR 0, MInv_new R CR 0 HNm.out hcg (by decide) (by decide), by rw [new_ms]; decide, by rw [new_jr]; decide, (HTab.out.mono HB2.out.size HB2.out).mono hb0 hb3, hb1, Below.refl _ _⟩
 clear hm hb0 hb1 hb3 hcg hre0
 clear HZ0 HZ1 HZ2 HB2
 subst hgl
 have HEv := Lib.hid (fun (W : World) (hb : Below w.heap.size w W) => HE0.out.below hb (Nat.le_refl _))
 have HLe : Hid (evs.length ≤ 25) := Lib.hid m2
 have HRn := Lib.hid (fun (W : World) (hb : Below w.heap.size w W) => HR.out.below hb (Nat.le_refl _))
 clear HE0 HR HP HTab HPc m1 m3 he1
 go_wp2_with fail
 go_loopw [36] (fun i wr => ∃ k : Nat, k ≤ evs.length ∧ i = .int .i64 k ∧ MidE R base b w3 k wr) (fun i _ => evs.length - (intOf i).toNat)
 case atStart => exact ⟨0, Nat.zero_le _, rfl, HM0.out⟩
 case round =>
  obtain ⟨k, hk, rfl, M, S, B, hm, hri, hrn, hR, hi, hml, hjl, ht, hbr, hbl⟩ := hrel
  have HBl3 := Lib.hid hbl
  have HBl : Hid (Below w.heap.size w wr) := Lib.hid (HB3.out.trans (hbl.mono hbw))
  have HM := Lib.hid hm
  have HI0 := Lib.hid hi
  have HMl := Lib.hid hml
  have HJl := Lib.hid hjl
  have HT := Lib.hid ht
  have HBr := Lib.hid hbr
  have HRi := Lib.hid hri
  have HRu := Lib.hid hrn
  have HRR := Lib.hid hR
  clear hri hrn
  by_cases hlt : k < evs.length
  ·have hlz : (k : Int) < (evs.length : Int) := by omega
   obtain ⟨g, o, rfl, hg, hok, a0, a1, a2, a3, a4, a5, a6⟩ := evs_at (HEv.out wr HBl.out) k hlt
   have HOk := Lib.hid hok
   clear hm hi hml hjl ht hbr hbl hok
   generalize evs[k] = x at *
   go_upto_region 12 with (fail)
   have HE1 := Box.new wr [.int .i64 x.kind, .int .i64 x.player, .int .i64 x.n, .int .i64 x.now, .int .i64 x.m.src, .int .i64 x.m.dst, .int .i64 x.m.piece] 40
   have HB1 : Hid (Below wr.heap.size wr (wr.alloc (.cells #[.int .i64 x.kind, .int .i64 x.player, .int .i64 x.n, .int .i64 x.now, .int .i64 x.m.src, .int .i64 x.m.dst, .int .i64 x.m.piece] 40))) := Lib.hid ((Below.refl wr.heap.size wr).alloc (Nat.le_refl _) _)
   generalize (wr.alloc (.cells #[.int .i64 x.kind, .int .i64 x.player, .int .i64 x.n, .int .i64 x.now, .int .i64 x.m.src, .int .i64 x.m.dst, .int .i64 x.m.piece] 40)) = wA at *
   have HMA := Lib.hid (HM.out.below HB1.out)
   have e0 := HE1.cell 0 rfl
   have e1 := HE1.cell 1 rfl
   have e2 := HE1.cell 2 rfl
   have e3 := HE1.cell 3 rfl
   have e4 := HE1.cell 4 rfl
   have e5 := HE1.cell 5 rfl
   have e6 := HE1.cell 6 rfl
   clear hg a0 a1 a2 a3 a4 a5 a6 HE1
   go_wp2_with fail
   refine (Do_any HS.out HIt.out HJo.out x wA HMA.out (Nat.le_trans HBr.out HB1.out.size) HI0.out (by have := HJl.out; have := HLe.out; omega) (HT.out.below (HB1.out.mono HBr.out)) HOk.out).mono ?_
   rintro e w6 ⟨rfl, S6, B6, hm6, hs6, hf6⟩
   have HM6 := Lib.hid hm6
   have HB6 : Hid (Below base wr w6) := Lib.hid ((HB1.out.mono HBr.out).trans (HMA.out.base' hf6 (Nat.le_trans HBr.out HB1.out.size)))
   have HRel : Hid (MidE R base b w3 (k + 1) w6) := Lib.hid ⟨(M.go x).1, S6, B6, HM6.out, RInv_go HRi.out HI0.out, by rw [go_R]; exact go_run HRu.out HRi.out, by rw [go_R]; exact HRR.out, MInv_go HI0.out HMl.out HOk.out, go_ms M x HMl.out, by have := go_jr M x; have := HJl.out; omega, HT.out.below HB6.out, Nat.le_trans HBr.out HB6.out.size, HBl3.out.trans HB6.out⟩
   clear hm6 hs6 hf6 e0 e1 e2 e3 e4 e5 e6 HM6 HB6
   generalize (M.go x).2 = cc at *
   go_wp2_with fail
   exact ⟨⟨k + 1, hlt, rfl, HRel.out⟩, by simp [intOf]; omega⟩
  ·obtain rfl : k = evs.length := by omega
   clear hm hi hml hjl ht hbr hbl
   subst hR
   go_upto_region 14 with (fail)
   have HV0 := Lib.hid (HU0.out.below HBl3.out (by have := HbU.out; omega))
   have HV2 := Lib.hid (HU2.out.below HBl3.out HbU.out)
   go_wp2_with fail
   refine (State_any wr HM.out (by have := HI0.out.pr.len; omega)).mono ?_
   rintro e w6 ⟨ma, mc, qa, qc, rfl, ho1, ho2, hb6⟩
   have HM6 := Lib.hid (HM.out.below hb6)
   have HO1 := Lib.hid ho1
   have HB6 := Lib.hid hb6
   clear ho1 ho2 hb6
   rename_i K1 q1 K2 q2
   refine q2 _ _ ?_
   clear q2 K2
   refine wpList_plain (by rfl) (fun K hK => ?_)
   go_simp
   refine hK _ _ ?_
   clear hK K
   try simp only [Act.put, sAr, sZe, sSu]
   refine wpl_world ?_
   intro w7 e7
   have HX7 : Hid (Box w7 w6.heap.size [.slice none 0 0, .int .i64 0, .int .i64 0, .int .i64 0, .int .i64 0, .int .i64 0, .int .i64 0, .int .i64 0, .int .i64 0, .int .i64 0, .int .i64 0, .bool false, .int .i64 0, .int .i64 0, .int .i64 0, .int .i64 0, .int .i64 0, .int .i64 0, .int .i64 0, .slice none 0 0] 50) := Lib.hid (by rw [e7]; exact Box.new w6 _ _)
   have HB7 : Hid (Below w6.heap.size w6 w7) := Lib.hid (by rw [e7]; exact (Below.refl _ _).alloc (Nat.le_refl _) _)
   clear e7
   refine wpList_store_box (vs := [.slice ma M.ms.length mc, .int .i64 M.res, .int .i64 M.reason, .int .i64 M.clk.l0, .int .i64 M.clk.l1, .int .i64 M.clk.m0, .int .i64 M.clk.m1, .int .i64 M.clk.p0, .int .i64 M.clk.p1, .int .i64 M.clk.turn, .int .i64 M.clk.since, .bool M.clk.st, .int .i64 M.clk.fallen, .int .i64 M.off.b0, .int .i64 M.off.b1, .int .i64 M.off.l00, .int .i64 M.off.l01, .int .i64 M.off.l10, .int .i64 M.off.l11, .slice qa M.prem.length qc]) (by rfl) 50 (.tmp 13) (.tmp 45) (by rfl) w6.heap.size (by rfl) (by rfl) HX7.out rfl (by kernel_rfl) (by rfl) ?_
   have HX8 := Lib.hid (HX7.out.store (vs := [.slice ma M.ms.length mc, .int .i64 M.res, .int .i64 M.reason, .int .i64 M.clk.l0, .int .i64 M.clk.l1, .int .i64 M.clk.m0, .int .i64 M.clk.m1, .int .i64 M.clk.p0, .int .i64 M.clk.p1, .int .i64 M.clk.turn, .int .i64 M.clk.since, .bool M.clk.st, .int .i64 M.clk.fallen, .int .i64 M.off.b0, .int .i64 M.off.b1, .int .i64 M.off.l00, .int .i64 M.off.l01, .int .i64 M.off.l10, .int .i64 M.off.l11, .slice qa M.prem.length qc]) rfl)
   have hb8 := below_setCells HB7.out (Nat.le_refl _) 0 [.slice ma M.ms.length mc, .int .i64 M.res, .int .i64 M.reason, .int .i64 M.clk.l0, .int .i64 M.clk.l1, .int .i64 M.clk.m0, .int .i64 M.clk.m1, .int .i64 M.clk.p0, .int .i64 M.clk.p1, .int .i64 M.clk.turn, .int .i64 M.clk.since, .bool M.clk.st, .int .i64 M.clk.fallen, .int .i64 M.off.b0, .int .i64 M.off.b1, .int .i64 M.off.l00, .int .i64 M.off.l01, .int .i64 M.off.l10, .int .i64 M.off.l11, .slice qa M.prem.length qc]
   refine wpl_world ?_
   intro w8 e8
   rw [← e8] at HX8 hb8
   clear e8 HX7 HB7
   have HM8 := Lib.hid (HM6.out.below hb8)
   have HO8 := Lib.hid (own_stays HO1.out hb8)
   have HB8 := Lib.hid (HB6.out.trans (hb8.mono HB6.out.size))
   have HS8 : Hid (wr.heap.size ≤ w6.heap.size) := Lib.hid HB6.out.size
   have HW0 := HV0.out.stays HB8.out
   have HW2 := Lib.hid (HV2.out.stays HB8.out)
   clear hb8 HM6 HO1 HB6
   have z0 := HX8.out.cell 0 rfl
   have r0 := HW0.cell 0 rfl
   have r1 := HW0.cell 1 rfl
   have r2 := HW0.cell 2 rfl
   have r3 := HW0.cell 3 rfl
   have r4 := HW0.cell 4 rfl
   have r5 := HW0.cell 5 rfl
   have r6 := HW0.cell 6 rfl
   have r7 := HW0.cell 7 rfl
   have r8 := HW0.cell 8 rfl
   have r9 := HW0.cell 9 rfl
   have r10 := HW0.cell 10 rfl
   clear HW0
   have HB08 := Lib.hid (HBl.out.trans (HB8.out.mono HBl.out.size))
   go_wp2_with fail
   refine (gx.PRun_any HS.out M.R vp vs ve (.slice ma M.ms.length mc) M.ms w8 (HRn.out w8 HB08.out) HNm.out (rdM_of_own HO8.out)).mono ?_
   rintro e w9 (⟨hbad, -⟩ | ⟨-, -, -, -, vc, v0, v1, rfl, hop, hb9⟩)
   ·exact absurd HRu.out hbad
   clear z0 r0 r1 r2 r3 r4 r5 r6 r7 r8 r9 r10
   obtain ⟨pa', pn, rfl⟩ := own_form2 hop.1
   obtain ⟨pa0, pn0, rfl⟩ := own_form2 hop.2.1
   obtain ⟨pa1, pn1, rfl⟩ := own_form2 hop.2.2.1
   unfold posV
   have HM9 := Lib.hid (HM8.out.below hb9)
   have HX9 := Lib.hid (HX8.out.stays hb9)
   have HW9 := Lib.hid (HW2.out.stays hb9)
   have HB9 := Lib.hid (HB8.out.trans (hb9.mono HB8.out.size))
   have HP9 := Lib.hid hop.rd
   clear hb9 hop HM8 HX8 HW2 HB8 HB08 HO8
   go_upto_region 16 with (fail)
   have HP10 := Lib.hid (Box.new w9 [.slice pa' (nowZ M.R M.ms).cells.length pn, .slice pa0 (nowZ M.R M.ms).h0.length pn0, .slice pa1 (nowZ M.R M.ms).h1.length pn1, .int .i64 (nowZ M.R M.ms).turn, .int .i64 (nowZ M.R M.ms).quiet] 59)
   have hb10 : Below w9.heap.size w9 (w9.alloc (.cells #[.slice pa' (nowZ M.R M.ms).cells.length pn, .slice pa0 (nowZ M.R M.ms).h0.length pn0, .slice pa1 (nowZ M.R M.ms).h1.length pn1, .int .i64 (nowZ M.R M.ms).turn, .int .i64 (nowZ M.R M.ms).quiet] 59)) := (Below.refl _ _).alloc (Nat.le_refl _) _
   have HZ10 : Hid (w9.heap.size < (w9.alloc (.cells #[.slice pa' (nowZ M.R M.ms).cells.length pn, .slice pa0 (nowZ M.R M.ms).h0.length pn0, .slice pa1 (nowZ M.R M.ms).h1.length pn1, .int .i64 (nowZ M.R M.ms).turn, .int .i64 (nowZ M.R M.ms).quiet] 59)).heap.size) := Lib.hid (by simp)
   have HM10 := Lib.hid (HM9.out.below hb10)
   have HX10 := Lib.hid (HX9.out.stays hb10)
   have HW10 := Lib.hid (HW9.out.stays hb10)
   have HB10 := Lib.hid (HB9.out.trans (hb10.mono HB9.out.size))
   have HQ10 := Lib.hid (RdP.below HP9.out hb10 (Nat.le_refl _))
   clear hb10 HM9 HX9 HW9 HB9 HP9
   generalize (w9.alloc (.cells #[.slice pa' (nowZ M.R M.ms).cells.length pn, .slice pa0 (nowZ M.R M.ms).h0.length pn0, .slice pa1 (nowZ M.R M.ms).h1.length pn1, .int .i64 (nowZ M.R M.ms).turn, .int .i64 (nowZ M.R M.ms).quiet] 59)) = wq at *
   have Mz := HM10.out.below (below_drew' (Below.refl _ _))
   have Lz : Below wr.heap.size wr wq.drew := below_drew' HB10.out
   have Pz := HP10.out.drew
   have Qz : RdP wq.drew (nowZ M.R M.ms) (.slice pa' (nowZ M.R M.ms).cells.length pn) (.slice pa0 (nowZ M.R M.ms).h0.length pn0) (.slice pa1 (nowZ M.R M.ms).h1.length pn1) := RdP.below HQ10.out (below_drew' (Below.refl _ _)) (Nat.le_refl _)
   have Xz := HX10.out.drew
   have Wz := HW10.out.drew
   clear HM10 HX10 HW10 HB10 HQ10 HP10
   refine wp_region_noPanic ?_
   refine beginL (S := (fun w' => w'.cell? ⟨w9.heap.size, 0, none⟩ = some (.slice pa' (nowZ M.R M.ms).cells.length pn) ∧ w'.cell? ⟨w9.heap.size, 1, none⟩ = some (.slice pa0 (nowZ M.R M.ms).h0.length pn0) ∧ w'.cell? ⟨w9.heap.size, 2, none⟩ = some (.slice pa1 (nowZ M.R M.ms).h1.length pn1) ∧ w'.cell? ⟨w9.heap.size, 3, none⟩ = some (.int .i64 (nowZ M.R M.ms).turn) ∧ w'.cell? ⟨w9.heap.size, 4, none⟩ = some (.int .i64 (nowZ M.R M.ms).quiet))) (L := []) (by kernel_rfl) (by and_intros <;> exact Pz.cell _ rfl) (fun hHeld => ?_)
   refine tkW 0 ?_
   refine tkW 1 ?_
   refine tkW 2 ?_
   refine tkL 3 ?_
   refine tkW 4 ?_
   refine cnL 5 fun K hK => ?_
   go_simp
   refine (MPos_any _ Mz).mono ?_
   rintro e w5 ⟨uc, u0, u1, rfl, hop, hbb⟩
   have R5 := hop.rd
   have M5 := Mz.below hbb
   have L5 := Lz.trans (hbb.mono Lz.size)
   have X5 := Xz.stays hbb
   have W5 := Wz.stays hbb
   have P5 := Pz.stays hbb
   have Q5 := RdP.below Qz hbb (Nat.le_refl _)
   clear hbb hop
   refine hK.out _ _ (by and_intros <;> exact P5.cell _ rfl) (fun hHeld => ?_)
   clear hK K
   refine cnL 6 fun K hK => ?_
   go_simp
   refine (Same_any (nowZ M.R M.ms) (nowZ M.R M.ms) _ _ _ uc u0 u1 _ Q5 R5).mono ?_
   rintro e w16 ⟨rfl, hbb⟩
   rw [sameZ_rf]
   have M6 := M5.below hbb
   have L6 := L5.trans (hbb.mono L5.size)
   have X6 := X5.stays hbb
   have W6 := W5.stays hbb
   have P6 := P5.stays hbb
   have Q6 := RdP.below Q5 hbb (Nat.le_refl _)
   clear hbb
   refine hK.out _ _ (by and_intros <;> exact P6.cell _ rfl) (fun hHeld => ?_)
   clear hK K
   refine tkW 7 ?_
   refine tkW 8 ?_
   refine dnN ?_
   have HM16 := Lib.hid M6
   have HX16 := Lib.hid X6
   have HW16 := Lib.hid W6
   have HB16 := Lib.hid L6
   clear hHeld M6 X6 W6 L6 P6 Q6 M5 X5 W5 L5 P5 Q5 R5 Mz Lz Pz Qz Xz Wz HZ10
   have x1 := HX16.out.cell 1 rfl
   have x2 := HX16.out.cell 2 rfl
   have hlo : ∀ k, S k ∨ one1 b k → k < wr.heap.size := HM.out.lows
   by_cases hr0 : M.res = 0
   ·obtain ⟨q1, q2⟩ := HRi.out.op hr0
    have q3 : gameRes M.R M.ms = 0 := q2
    rw [hr0] at x1
    rw [q1] at x2
    rw [q3]
    clear hr0 q1 q2 q3 hlo
    go_wp2_with fail
    go_ret
    exact ⟨rfl, HBl.out.trans (HB16.out.mono HBl.out.size)⟩
   ·obtain ⟨q1, q2⟩ := HRi.out.cl hr0
    have q1' : M.reason = 1 ↔ gameRes M.R M.ms ≠ 0 := q1
    have q2' : gameRes M.R M.ms ≠ 0 → gameRes M.R M.ms = M.res := q2
    have hrb : (M.res == 0) = false := by simpa using hr0
    have HDo := Lib.hid (go_over y hr0)
    clear q1 q2
    have e0 := HW16.out.cell 0 rfl
    have e1 := HW16.out.cell 1 rfl
    have e2 := HW16.out.cell 2 rfl
    have e3 := HW16.out.cell 3 rfl
    have e4 := HW16.out.cell 4 rfl
    have e5 := HW16.out.cell 5 rfl
    have e6 := HW16.out.cell 6 rfl
    have HQ1 := Lib.hid q1'
    have HQ2 := Lib.hid q2'
    have HLo := Lib.hid hlo
    clear q1' q2' hlo hr0
    go_upto_region 20 with (fail)
    clear hrb
    go_wp2_with fail
    refine (Do_any HS.out HIt.out HJo.out y w16 HM16.out (Nat.le_trans HBr.out HB16.out.size) HI0.out (by have := HJl.out; have := HLe.out; omega) (HT.out.below (HB16.out.mono HBr.out)) HY.out).mono ?_
    rintro e w20 ⟨rfl, S20, B20, hm20, hs20, hf20⟩
    have HX20 := Lib.hid (box_match HLo.out HX16.out HS8.out hf20)
    have HB20 : Hid (Below base wr w20) := Lib.hid ((HB16.out.mono HBr.out).trans (HM16.out.base' hf20 (Nat.le_trans HBr.out HB16.out.size)))
    have hdo : ((M.go y).2 != 0) = true := by simpa using HDo.out
    clear hm20 hs20 hf20 x1 x2 e0 e1 e2 e3 e4 e5 e6
    generalize (M.go y).2 = cc at *
    have x1 := HX20.out.cell 1 rfl
    have x2 := HX20.out.cell 2 rfl
    by_cases hg : gameRes M.R M.ms = 0
    ·have hn : (M.reason == 1) = false := by simpa using fun h => HQ1.out.1 h hg
     rw [hg]
     clear hg
     generalize M.reason = rs at *
     go_wp2_with fail
     go_ret
     exact ⟨rfl, HBl.out.trans (HB20.out.mono hbw) |> fun _ => HBl.out.trans (HB20.out.mono hbw)⟩
    ·have hn : M.reason = 1 := HQ1.out.2 hg
     have hgn : (M.res != 0) = true := by rw [← HQ2.out hg]; simpa using hg
     have hgm : (M.res == 0) = false := by rw [← HQ2.out hg]; simpa using hg
     rw [HQ2.out hg]
     rw [hn] at x2
     clear hg hn
     generalize M.res = rr at *
     go_wp2_with fail
     go_ret
     exact ⟨rfl, HBl.out.trans (HB20.out.mono hbw)⟩
end Go.Proofs.YtnodagljaoonjaaGreatDoor
