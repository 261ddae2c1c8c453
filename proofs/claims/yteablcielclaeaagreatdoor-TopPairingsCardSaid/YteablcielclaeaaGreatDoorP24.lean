/- MaO, MaQ, MaR, MaS, MaT, MaU, MaV. -/
import Derived.Test.YteablcielclaeaaGreatDoorP23
namespace Go.Proofs.YteablcielclaeaaGreatDoor
open Go.ChangeShapes Go.WideShapes Go.ChangeAt Go.RowKit
set_option linter.unusedVariables false
set_option maxHeartbeats 4000000
set_option maxRecDepth 100000
open Go.Lib (hid)
variable {X S:Nat→Prop} {base b:Nat} {M:aP} {B:kM}
def Uw (CR:qW) (now:Int) (w:World) (e:Ending) (w':World):Prop:=
 (∃ c:Int,(c≠0∧¬ clk.dR CR.ps.length CR.inc CR.delay CR.ps)∧e=.returned (.tuple #[.agg #[.int .i64 0,.int .i64 0,.int .i64 0,.int .i64 0,.int .i64 0,.int .i64 0,.int .i64 0,.int .i64 0,.bool false,.int .i64 0],.int .i64 c])∧Below w.heap.size w w')∨(BX CR∧e=.returned (.tuple #[IZ (aI CR now),.int .i64 0])∧Below w.heap.size w w')
theorem Ux (CR:qW) (pa:Option Addr) (pc:Nat) (now:Int) (w:World) (hp:clk.gG w w.heap.size pa CR.ps.length CR.ps) (hn:CR.ps.length≤maxLen) (h0:0≤now) (h1:now≤100000000) :
  Calls Tryz.prog 41 #[.agg #[.slice pa CR.ps.length pc,.int .i64 CR.inc,.int .i64 CR.delay],.int .i64 now] w (Uw CR now w):=by
 have HP:=hid hp
 have hn2:CR.ps.length≤9223372036854775807:=by unfold maxLen at hn; omega
 clear hp hn
 go_enter Tryz.func41,Tryz.ntmps41
 go_upto_region 1 with (fail)
 refine qQ fun w0 vZ Yd fJ hs_=>?_
 have HX0:=hid vZ
 have lu:=hid Yd
 have HB:=hid fJ
 clear hs_ vZ Yd fJ
 refine wp_region_lit ?_
 refine aH (by rfl) 65 (.tmp 2) (by rfl) (w.heap.size) (by rfl) HX0.out Tryz.underlying65 (by rfl) (by kernel_rfl) ?_
 go_wp2_with fail
 refine (clk.gK pa CR.ps.length pc CR.inc CR.delay CR.ps w0 hn2 (HP.out.below HB.out)).mono ?_
 rintro e w1 ⟨c,rfl,hc,hb1⟩
 have HB1:=hid (ak HB.out hb1 HB.out.size)
 have Ja:=hid (HX0.out.stays hb1)
 have gJ:=hid (lu.out.stays hb1)
 have HC:=hid hc
 clear hb1 hc HX0 lu HB
 by_cases hz:c=0
 rotate_left
 ·have hzb:(c != 0)=true:=by simpa using hz
  have HZ:=hid (And.intro hz (fun hr=>hz (HC.out.2 hr)))
  clear hz
  have y0:=gJ.out.cell 0 rfl
  have g0:=gJ.out.frozen 0
  have y1:=gJ.out.cell 1 rfl
  have g1:=gJ.out.frozen 1
  have y2:=gJ.out.cell 2 rfl
  have g2:=gJ.out.frozen 2
  have y3:=gJ.out.cell 3 rfl
  have g3:=gJ.out.frozen 3
  have y4:=gJ.out.cell 4 rfl
  have g4:=gJ.out.frozen 4
  have y5:=gJ.out.cell 5 rfl
  have g5:=gJ.out.frozen 5
  have y6:=gJ.out.cell 6 rfl
  have g6:=gJ.out.frozen 6
  have y7:=gJ.out.cell 7 rfl
  have g7:=gJ.out.frozen 7
  have y8:=gJ.out.cell 8 rfl
  have g8:=gJ.out.frozen 8
  have y9:=gJ.out.cell 9 rfl
  have g9:=gJ.out.frozen 9
  go_upto_region 3 with (fail)
  go_wp2_with fail
  have mZ:=hid (gJ.out.store (vs:=[.int .i64 0,.int .i64 0,.int .i64 0,.int .i64 0,.int .i64 0,.int .i64 0,.int .i64 0,.int .i64 0,.bool false,.int .i64 0]) rfl)
  have HB2:=hid (below_setCells HB1.out (Nat.le_succ _) 0 [.int .i64 0,.int .i64 0,.int .i64 0,.int .i64 0,.int .i64 0,.int .i64 0,.int .i64 0,.int .i64 0,.bool false,.int .i64 0])
  exact bodyPost_ret (kE rfl (by rfl) (by rfl) mZ.out Tryz.underlying83 (by rfl) (by kernel_rfl)) rfl (.inl ⟨c,HZ.out,rfl,HB2.out⟩)
 have HCG:Hid (BX CR):=hid (BX.of (HC.out.1 hz))
 subst hz
 obtain ⟨g,o,hpa,hgb,hcell⟩:=HP.out.2 (by have:=HCG.out.n; omega)
 subst hpa
 obtain ⟨c0,c1⟩:=hcell 0 (by have:=HCG.out.n; omega)
 have d1:=(HB1.out.cell (p:=⟨g,o+0 * 2+1,none⟩) hgb).trans c1
 have hg1:g<w1.heap.size:=Nat.lt_of_lt_of_le hgb HB1.out.size
 have hln:(0:Int)<(CR.ps.length:Int):=by have:=HCG.out.n; omega
 have hst:Hid (aI CR now=⟨(CR.ps.getD 0 (0,0)).2,(CR.ps.getD 0 (0,0)).2,0,0,0,0,0,now,false,-1⟩):=hid rfl
 have x0:=Ja.out.cell 0 rfl
 generalize (CR.ps.getD 0 (0,0)).2=tm at *
 clear hcell c0 c1 HC
 have hww:clk.dD now 0 100000000=true:=clk.eU ⟨h0,h1⟩
 go_wp2_with fail
 refine (clk.au now 0 100000000 w1).mono ?_
 rintro e w2 ⟨rfl,rfl⟩
 rw [hww]
 go_upto_region 7 with (fail)
 have y0:=gJ.out.cell 0 rfl
 have g0:=gJ.out.frozen 0
 have y1:=gJ.out.cell 1 rfl
 have g1:=gJ.out.frozen 1
 have y2:=gJ.out.cell 2 rfl
 have g2:=gJ.out.frozen 2
 have y3:=gJ.out.cell 3 rfl
 have g3:=gJ.out.frozen 3
 have y4:=gJ.out.cell 4 rfl
 have g4:=gJ.out.frozen 4
 have y5:=gJ.out.cell 5 rfl
 have g5:=gJ.out.frozen 5
 have y6:=gJ.out.cell 6 rfl
 have g6:=gJ.out.frozen 6
 have y7:=gJ.out.cell 7 rfl
 have g7:=gJ.out.frozen 7
 have y8:=gJ.out.cell 8 rfl
 have g8:=gJ.out.frozen 8
 have y9:=gJ.out.cell 9 rfl
 have g9:=gJ.out.frozen 9
 go_wp2_with fail
 have mZ:=hid (gJ.out.store (vs:=[.int .i64 tm,.int .i64 tm,.int .i64 0,.int .i64 0,.int .i64 0,.int .i64 0,.int .i64 0,.int .i64 now,.bool false,.int .i64 (-1)]) rfl)
 have HB2:=hid (below_setCells HB1.out (Nat.le_succ _) 0 [.int .i64 tm,.int .i64 tm,.int .i64 0,.int .i64 0,.int .i64 0,.int .i64 0,.int .i64 0,.int .i64 now,.bool false,.int .i64 (-1)])
 exact bodyPost_ret (kE rfl (by rfl) (by rfl) mZ.out Tryz.underlying83 (by rfl) (by kernel_rfl)) rfl (.inr ⟨HCG.out,by rw [hst.out]; rfl,HB2.out⟩)
theorem Qd (w:World):Calls Tryz.prog 44 #[] w fun e w'=>e=.returned (Yk qC)∧Below w.heap.size w w':=by
 go_enter Tryz.func44,Tryz.ntmps44
 go_upto_region 1 with (fail)
 refine lX fun w0 vZ fJ hs_=>?_
 have HX0:=hid vZ
 have HB:=hid fJ
 clear hs_ vZ fJ
 have y0:=HX0.out.cell 0 rfl
 have g0:=HX0.out.frozen 0
 have y1:=HX0.out.cell 1 rfl
 have g1:=HX0.out.frozen 1
 have y2:=HX0.out.cell 2 rfl
 have g2:=HX0.out.frozen 2
 have y3:=HX0.out.cell 3 rfl
 have g3:=HX0.out.frozen 3
 have y4:=HX0.out.cell 4 rfl
 have g4:=HX0.out.frozen 4
 have y5:=HX0.out.cell 5 rfl
 have g5:=HX0.out.frozen 5
 go_wp2_with fail
 have mZ:=hid (HX0.out.store (vs:=[.int .i64 (-1),.int .i64 (-1),.int .i64 (-1),.int .i64 (-1),.int .i64 (-1),.int .i64 (-1)]) rfl)
 have HB2:=hid (below_setCells HB.out (Nat.le_refl _) 0 [.int .i64 (-1),.int .i64 (-1),.int .i64 (-1),.int .i64 (-1),.int .i64 (-1),.int .i64 (-1)])
 exact bodyPost_ret (dJ rfl (by rfl) mZ.out Tryz.underlying86 (by rfl) (by kernel_rfl)) rfl ⟨rfl,HB2.out⟩
end Go.Proofs.YteablcielclaeaaGreatDoor
namespace Go.Proofs.YteablcielclaeaaGreatDoor
open Go.ChangeShapes Go.WideShapes Go.ChangeAt Go.RowKit
set_option linter.unusedVariables false
open Go.Lib (hid)
variable {X S:Nat→Prop} {base b:Nat} {M:aP} {B:kM}
theorem uK {P:Program} {ops:Array Oper} {Q:Exit→Act→World→Prop} {rest:List Oper} {a:Act} {W:World} (h:∀ w',w'=W→wpList P ops Q rest a w'):wpList P ops Q rest a W:=h _ rfl
def Uy (M:aP) (w:World) (e:Ending) (w':World):Prop:=∃ ma mc qa qc,e=.returned (.agg #[.slice ma M.ms.length mc,.int .i64 M.res,.int .i64 M.reason,.int .i64 M.clk.l0,.int .i64 M.clk.l1,.int .i64 M.clk.m0,.int .i64 M.clk.m1,.int .i64 M.clk.p0,.int .i64 M.clk.p1,.int .i64 M.clk.turn,.int .i64 M.clk.since,.bool M.clk.st,.int .i64 M.clk.ay,.int .i64 M.off.b0,.int .i64 M.off.b1,.int .i64 M.off.lC,.int .i64 M.off.lD,.int .i64 M.off.l10,.int .i64 M.off.lF,.slice qa M.aX.length qc])∧w'.ownsRow w.heap.size 68 3 (.slice ma M.ms.length mc) M.ms.length (bK M.ms)∧w'.ownsRow w.heap.size 173 4 (.slice qa M.aX.length qc) M.aX.length (jy M.aX)∧Below w.heap.size w w'
set_option maxRecDepth 100000 in
set_option maxHeartbeats 4000000 in
theorem GI (w:World) (h:aY X S base w b M B) (hl:M.aX.length≤1000):Calls Tryz.prog 18 #[.pointer (some ⟨b,0,none⟩)] w (Uy M w):=by
 obtain ⟨vp,vs,ve,pa,pc,g,vr,vj⟩:=B
 obtain ⟨ra,rc,hvr,hr1,hr2⟩:=h.fr.pr.form
 dsimp only at hvr
 subst hvr
 have HM:=hid h
 have aiw:=hid h
 have HL:=hid hl
 unfold maxLen at hr2
 clear h hl
 go_enter Tryz.func18,Tryz.ntmps18
 go_upto_region 1 with (fail)
 refine lX fun w0 vZ fJ hs_=>?_
 have HX0:=hid vZ
 have HB:=hid fJ
 clear hs_ vZ fJ
 have Aa:=hid (HM.out.below HB.out)
 obtain ⟨bx,hbx⟩:∃ bx,bx=w0.heap.size:=⟨_,rfl⟩
 have lu:Hid (Box (w0.alloc (.cells #[.slice none 0 0,.int .i64 0,.int .i64 0,.int .i64 0,.int .i64 0,.int .i64 0,.int .i64 0,.int .i64 0,.int .i64 0,.int .i64 0,.int .i64 0,.bool false,.int .i64 0,.int .i64 0,.int .i64 0,.int .i64 0,.int .i64 0,.int .i64 0,.int .i64 0,.slice none 0 0] 89)) bx [.slice none 0 0,.int .i64 0,.int .i64 0,.int .i64 0,.int .i64 0,.int .i64 0,.int .i64 0,.int .i64 0,.int .i64 0,.int .i64 0,.int .i64 0,.bool false,.int .i64 0,.int .i64 0,.int .i64 0,.int .i64 0,.int .i64 0,.int .i64 0,.int .i64 0,.slice none 0 0] 89):=hid (Box.new' w0 bx [.slice none 0 0,.int .i64 0,.int .i64 0,.int .i64 0,.int .i64 0,.int .i64 0,.int .i64 0,.int .i64 0,.int .i64 0,.int .i64 0,.int .i64 0,.bool false,.int .i64 0,.int .i64 0,.int .i64 0,.int .i64 0,.int .i64 0,.int .i64 0,.int .i64 0,.slice none 0 0] 89 hbx.symm)
 refine wp_region_lit ?_
 refine wpList_plain (by rfl) (fun K hK=>?_)
 go_simp
 refine hK _ _ ?_
 clear hK K
 try simp only [Act.put,vO,vP,vS]
 refine wpList_plain (by rfl) (fun K hK=>?_)
 go_simp
 refine hK _ _ ?_
 clear hK K
 try simp only [Act.put,vO,vP,vS]
 refine wpList_plain (by rfl) (fun K hK=>?_)
 go_simp
 refine hK _ _ ?_
 clear hK K
 try simp only [Act.put,vO,vP,vS]
 refine wpList_load_mid (by rfl) 89 (.tmp 6) (by rfl) b 15 (by rfl) [.slice none 0 0,.int .i64 M.res,.int .i64 M.reason,.int .i64 M.clk.l0,.int .i64 M.clk.l1,.int .i64 M.clk.m0,.int .i64 M.clk.m1,.int .i64 M.clk.p0,.int .i64 M.clk.p1,.int .i64 M.clk.turn,.int .i64 M.clk.since,.bool M.clk.st,.int .i64 M.clk.ay,.int .i64 M.off.b0,.int .i64 M.off.b1,.int .i64 M.off.lC,.int .i64 M.off.lD,.int .i64 M.off.l10,.int .i64 M.off.lF,.slice ra M.aX.length rc] _ (Aa.out.box.mid 15 (by rfl)) Tryz.underlying89 (by rfl) (by kernel_rfl) ?_
 try simp only [Act.put,vO,vP,vS]
 refine wpList_plain (by rfl) (fun K hK=>?_)
 go_simp
 refine hK _ _ ?_
 clear hK K
 try simp only [Act.put,vO,vP,vS]
 refine uK ?_
 intro w1 e1
 have mZ:Hid (Box w1 bx [.slice none 0 0,.int .i64 0,.int .i64 0,.int .i64 0,.int .i64 0,.int .i64 0,.int .i64 0,.int .i64 0,.int .i64 0,.int .i64 0,.int .i64 0,.bool false,.int .i64 0,.int .i64 0,.int .i64 0,.int .i64 0,.int .i64 0,.int .i64 0,.int .i64 0,.slice none 0 0] 89):=hid (by rw [e1]; exact lu.out)
 have HB1:Hid (Below w.heap.size w w1):=hid (by rw [e1]; exact HB.out.alloc HB.out.size _)
 have zW:Hid (Box w1 w.heap.size [.slice none 0 0,.int .i64 0,.int .i64 0,.int .i64 0,.int .i64 0,.int .i64 0,.int .i64 0,.int .i64 0,.int .i64 0,.int .i64 0,.int .i64 0,.bool false,.int .i64 0,.int .i64 0,.int .i64 0,.int .i64 0,.int .i64 0,.int .i64 0,.int .i64 0,.slice none 0 0] 89):=hid (by rw [e1]; exact HX0.out.alloc _)
 have HMx:Hid (aY X S base w1 b _ _):=hid (HM.out.below HB1.out)
 have Ox:Hid (w.heap.size≤bx∧w.heap.size≠bx):=hid ⟨by rw [hbx]; exact HB.out.size,by have:=HX0.out.lt; omega⟩
 rw [← hbx]
 clear e1 hbx lu HX0 HB Aa
 refine aT (vs:=[.slice none 0 0,.int .i64 M.res,.int .i64 M.reason,.int .i64 M.clk.l0,.int .i64 M.clk.l1,.int .i64 M.clk.m0,.int .i64 M.clk.m1,.int .i64 M.clk.p0,.int .i64 M.clk.p1,.int .i64 M.clk.turn,.int .i64 M.clk.since,.bool M.clk.st,.int .i64 M.clk.ay,.int .i64 M.off.b0,.int .i64 M.off.b1,.int .i64 M.off.lC,.int .i64 M.off.lD,.int .i64 M.off.l10,.int .i64 M.off.lF,.slice ra M.aX.length rc]) (by rfl) 89 (.tmp 3) (.tmp 7) (by rfl) bx (by rfl) (by rfl) mZ.out rfl (by kernel_rfl) (by rfl) ?_
 have Ov:=hid (mZ.out.store (vs:=[.slice none 0 0,.int .i64 M.res,.int .i64 M.reason,.int .i64 M.clk.l0,.int .i64 M.clk.l1,.int .i64 M.clk.m0,.int .i64 M.clk.m1,.int .i64 M.clk.p0,.int .i64 M.clk.p1,.int .i64 M.clk.turn,.int .i64 M.clk.since,.bool M.clk.st,.int .i64 M.clk.ay,.int .i64 M.off.b0,.int .i64 M.off.b1,.int .i64 M.off.lC,.int .i64 M.off.lD,.int .i64 M.off.l10,.int .i64 M.off.lF,.slice ra M.aX.length rc]) rfl)
 have Ye:=hid (zW.out.OV Ox.out.2 0 [.slice none 0 0,.int .i64 M.res,.int .i64 M.reason,.int .i64 M.clk.l0,.int .i64 M.clk.l1,.int .i64 M.clk.m0,.int .i64 M.clk.m1,.int .i64 M.clk.p0,.int .i64 M.clk.p1,.int .i64 M.clk.turn,.int .i64 M.clk.since,.bool M.clk.st,.int .i64 M.clk.ay,.int .i64 M.off.b0,.int .i64 M.off.b1,.int .i64 M.off.lC,.int .i64 M.off.lD,.int .i64 M.off.l10,.int .i64 M.off.lF,.slice ra M.aX.length rc])
 have HB2:=hid (below_setCells HB1.out Ox.out.1 0 [.slice none 0 0,.int .i64 M.res,.int .i64 M.reason,.int .i64 M.clk.l0,.int .i64 M.clk.l1,.int .i64 M.clk.m0,.int .i64 M.clk.m1,.int .i64 M.clk.p0,.int .i64 M.clk.p1,.int .i64 M.clk.turn,.int .i64 M.clk.since,.bool M.clk.st,.int .i64 M.clk.ay,.int .i64 M.off.b0,.int .i64 M.off.b1,.int .i64 M.off.lC,.int .i64 M.off.lD,.int .i64 M.off.l10,.int .i64 M.off.lF,.slice ra M.aX.length rc])
 have sD:=hid (HM.out.below HB2.out)
 generalize (w1.setCells bx 0 [.slice none 0 0,.int .i64 M.res,.int .i64 M.reason,.int .i64 M.clk.l0,.int .i64 M.clk.l1,.int .i64 M.clk.m0,.int .i64 M.clk.m1,.int .i64 M.clk.p0,.int .i64 M.clk.p1,.int .i64 M.clk.turn,.int .i64 M.clk.since,.bool M.clk.st,.int .i64 M.clk.ay,.int .i64 M.off.b0,.int .i64 M.off.b1,.int .i64 M.off.lC,.int .i64 M.off.lD,.int .i64 M.off.l10,.int .i64 M.off.lF,.slice ra M.aX.length rc])=w2 at *
 clear mZ zW HB1 HMx
 go_upto_region 2 with (fail)
 generalize w2=wq at *
 have Mz:=sD.out.below (aK (Below.refl _ _))
 have Xz:=Ov.out.drew
 have Oz:=Ye.out.drew
 have Lz:Below w.heap.size w wq.drew:=aK HB2.out
 have Me:Hid (bx<wq.drew.heap.size):=hid Xz.lt
 have HBY:Hid (w.heap.size<wq.drew.heap.size):=hid Oz.lt
 obtain ⟨up,us,ue,vl,vm,rows,hg⟩:=Mz.game
 have Gz:=hg.plain
 clear sD Ov Ye HB2 hg
 refine wp_region_noPanic ?_
 refine bI (S:=(fun w'=>w'.cell? ⟨b,14,none⟩=some (.pointer (some ⟨g,0,none⟩))∧w'.cell? ⟨b,34,none⟩=some (.slice ra M.aX.length rc))) (L:=[]) (by kernel_rfl) ⟨Mz.box.cell 14 rfl,Mz.box.cell 34 rfl⟩ (fun hHeld=>?_)
 refine aC 0 ?_
 refine aC 5 ?_
 refine aC 1 ?_
 refine aC 6 ?_
 refine aC 2 ?_
 refine aC 7 ?_
 refine dV 3 ?_
 refine aC 8 ?_
 refine dV 9 ?_
 refine fH 4 fun K hK=>?_
 go_simp
 refine (vV _ Gz).mono ?_
 rintro e w4 ⟨vmv,rfl,ho4,hbb⟩
 obtain ⟨ma,mc,rfl⟩:=aG ho4
 have L4z:=hbb.size
 have M4:=Mz.below hbb
 have X4:=Xz.stays hbb
 have O4:=Oz.stays hbb
 have L4:=ak Lz hbb Lz.size
 have R4:=ho4
 clear hbb
 refine hK.out _ _ ⟨M4.box.cell 14 rfl,M4.box.cell 34 rfl⟩ (fun hHeld=>?_)
 clear hK K
 refine aC 11 ?_
 refine fH 10 fun K hK=>?_
 go_simp
 refine (LC _ M.aX _ M4.fr.pr (by have:=HL.out; omega)).mono ?_
 rintro e w10 ⟨vpv,rfl,qY,hbb⟩
 obtain ⟨qa,qc,rfl⟩:=aG qY
 have M10:=M4.below hbb
 have X10:=X4.stays hbb
 have Gw:=O4.stays hbb
 have zU:=ak L4 hbb L4.size
 have R10:=aS R4 hbb
 have Q10:=own_base qY L4z
 clear hbb
 refine hK.out _ _ ⟨M10.box.cell 14 rfl,M10.box.cell 34 rfl⟩ (fun hHeld=>?_)
 clear hK K
 refine fH 12 fun K hK=>?_
 have dd:=X10.cell 0 rfl
 have df:=X10.frozen 0
 go_simp
 refine aQ ?_
 intro w12 e12
 clear dd df
 have X12:=X10.set 0 (.slice ma M.ms.length mc)
 have O12:=Gw.far ⟨bx,0,none⟩ (.slice ma M.ms.length mc) Ox.out.2
 have Yb:=zU.setCell (p:=⟨bx,0,none⟩) Ox.out.1 (.slice ma M.ms.length mc)
 have R12:w12.ownsRow wq.drew.heap.size 68 3 (.slice ma M.ms.length mc) M.ms.length (bK M.ms):=by rw [e12]; exact aN R10 Me.out 0 [.slice ma M.ms.length mc]
 have Q12:w12.ownsRow wq.drew.heap.size 173 4 (.slice qa M.aX.length qc) M.aX.length (jy M.aX):=by rw [e12]; exact aN Q10 Me.out 0 [.slice ma M.ms.length mc]
 rw [← e12] at X12 O12 Yb
 clear e12
 have M12:=aiw.out.below Yb
 have anH:Below w10.heap.size w10 w12∨True:=.inr trivial
 refine hK.out _ _ ⟨M12.box.cell 14 rfl,M12.box.cell 34 rfl⟩ (fun hHeld=>?_)
 clear hK K
 refine aC 13 ?_
 refine fH 14 fun K hK=>?_
 have dd:=X12.cell 19 rfl
 have df:=X12.frozen 19
 go_simp
 refine aQ ?_
 intro wS e14
 clear dd df
 have Yt:=X12.set 19 (.slice qa M.aX.length qc)
 have JZ:=O12.far ⟨bx,19,none⟩ (.slice qa M.aX.length qc) Ox.out.2
 have MC:=Yb.setCell (p:=⟨bx,19,none⟩) Ox.out.1 (.slice qa M.aX.length qc)
 have R14:wS.ownsRow wq.drew.heap.size 68 3 (.slice ma M.ms.length mc) M.ms.length (bK M.ms):=by rw [e14]; exact aN R12 Me.out 19 [.slice qa M.aX.length qc]
 have Q14:wS.ownsRow wq.drew.heap.size 173 4 (.slice qa M.aX.length qc) M.aX.length (jy M.aX):=by rw [e14]; exact aN Q12 Me.out 19 [.slice qa M.aX.length qc]
 rw [← e14] at Yt JZ MC
 clear e14
 have M14:=aiw.out.below MC
 have anI:Below w10.heap.size w10 wS∨True:=.inr trivial
 refine hK.out _ _ ⟨M14.box.cell 14 rfl,M14.box.cell 34 rfl⟩ (fun hHeld=>?_)
 clear hK K
 refine jC ?_
 have DT:=hid Yt
 have VZ:=hid JZ
 have Oo:=hid MC
 have HR6:=hid R14
 have HQ6:=hid Q14
 clear Yt JZ MC M14 R14 Q14 X12 O12 Yb M12 R12 Q12 X10 Gw zU M10 R10 Q10 X4 O4 L4 M4 R4 ho4 qY Xz Oz Lz Mz Gz hHeld anH anI
 go_upto_region 3 with (fail)
 generalize wS=w7 at *
 refine wp_region_lit ?_
 refine aH (by rfl) 89 (.tmp 3) (by rfl) bx (by rfl) DT.out Tryz.underlying89 (by rfl) (by kernel_rfl) ?_
 refine aT (vs:=[.slice ma M.ms.length mc,.int .i64 M.res,.int .i64 M.reason,.int .i64 M.clk.l0,.int .i64 M.clk.l1,.int .i64 M.clk.m0,.int .i64 M.clk.m1,.int .i64 M.clk.p0,.int .i64 M.clk.p1,.int .i64 M.clk.turn,.int .i64 M.clk.since,.bool M.clk.st,.int .i64 M.clk.ay,.int .i64 M.off.b0,.int .i64 M.off.b1,.int .i64 M.off.lC,.int .i64 M.off.lD,.int .i64 M.off.l10,.int .i64 M.off.lF,.slice qa M.aX.length qc]) (by rfl) 89 (.tmp 2) (.tmp 21) (by rfl) w.heap.size (by rfl) (by rfl) VZ.out rfl (by kernel_rfl) (by rfl) ?_
 have Pm:=hid (VZ.out.store (vs:=[.slice ma M.ms.length mc,.int .i64 M.res,.int .i64 M.reason,.int .i64 M.clk.l0,.int .i64 M.clk.l1,.int .i64 M.clk.m0,.int .i64 M.clk.m1,.int .i64 M.clk.p0,.int .i64 M.clk.p1,.int .i64 M.clk.turn,.int .i64 M.clk.since,.bool M.clk.st,.int .i64 M.clk.ay,.int .i64 M.off.b0,.int .i64 M.off.b1,.int .i64 M.off.lC,.int .i64 M.off.lD,.int .i64 M.off.l10,.int .i64 M.off.lF,.slice qa M.aX.length qc]) rfl)
 have TN:=hid (below_setCells Oo.out (Nat.le_refl _) 0 [.slice ma M.ms.length mc,.int .i64 M.res,.int .i64 M.reason,.int .i64 M.clk.l0,.int .i64 M.clk.l1,.int .i64 M.clk.m0,.int .i64 M.clk.m1,.int .i64 M.clk.p0,.int .i64 M.clk.p1,.int .i64 M.clk.turn,.int .i64 M.clk.since,.bool M.clk.st,.int .i64 M.clk.ay,.int .i64 M.off.b0,.int .i64 M.off.b1,.int .i64 M.off.lC,.int .i64 M.off.lD,.int .i64 M.off.l10,.int .i64 M.off.lF,.slice qa M.aX.length qc])
 skip
 refine uK ?_
 intro w8 e8
 rw [← e8] at Pm TN
 have HR8:Hid (w8.ownsRow wq.drew.heap.size 68 3 (.slice ma M.ms.length mc) M.ms.length (bK M.ms)):=hid (by rw [e8]; exact aN HR6.out HBY.out 0 _)
 have HQ8:Hid (w8.ownsRow wq.drew.heap.size 173 4 (.slice qa M.aX.length qc) M.aX.length (jy M.aX)):=hid (by rw [e8]; exact aN HQ6.out HBY.out 0 _)
 clear e8
 go_wp2_with fail
 exact bodyPost_ret (dJ rfl (by rfl) Pm.out Tryz.underlying89 (by rfl) (by kernel_rfl)) rfl ⟨_,_,_,_,rfl,own_base HR8.out (Nat.le_of_lt HBY.out),own_base HQ8.out (Nat.le_of_lt HBY.out),TN.out⟩
end Go.Proofs.YteablcielclaeaaGreatDoor
namespace Go.Proofs.YteablcielclaeaaGreatDoor
open Go.ChangeShapes Go.WideShapes Go.ChangeAt Go.RowKit
set_option linter.unusedVariables false
open Go.Lib (hid)
variable {S:Nat→Prop} {base b:Nat} {M:aP} {B:kM}
def MF:El (Int×Int) where
 k:=2
 E:=fun _ x cs=>cs=[.int .i64 x.1,.int .i64 x.2]
 mono:=fun h _ _=>h
 len:=fun h=>by subst h; rfl
theorem ab6 {w:World} {A:Option Addr} {n pc:Nat} {ps:List (Int×Int)} (h:clk.gG w w.heap.size A n ps) (h1:n≤pc) (h2:pc≤maxLen):iC MF w (.slice A n pc) ps:=by
 have hl:=h.1
 rcases Nat.eq_zero_or_pos n with h0 | h0
 ·subst h0
  exact .inl ⟨A,pc,rfl,h2,hl⟩
 ·obtain ⟨b,off,rfl,hlt,hc⟩:=h.2 h0
  refine .inr ⟨b,off,pc,by rw [hl],by omega,h2,hlt,fun i hi=>⟨_,rfl,fun j hj=>?_⟩⟩
  have hc':=hc i (by omega)
  rw [List.getD_eq_getElem?_getD,List.getElem?_eq_getElem hi,Option.getD_some] at hc'
  have hj2:j=0∨j=1:=by have:j<2:=hj; omega
  rcases hj2 with rfl | rfl
  ·exact hc'.1
  ·exact hc'.2
theorem ab7 {w:World} {A:Option Addr} {n pc:Nat} {ps:List (Int×Int)} (h:iC MF w (.slice A n pc) ps):clk.gG w w.heap.size A ps.length ps:=by
 refine ⟨rfl,fun h0=>?_⟩
 obtain ⟨g,o,rfl,hg,hc⟩:=h.some h0
 refine ⟨g,o,rfl,hg,fun k hk=>?_⟩
 obtain ⟨cs,rfl,hcell⟩:=hc k hk
 rw [List.getD_eq_getElem?_getD,List.getElem?_eq_getElem hk,Option.getD_some]
 have c0:=hcell 0 (by show 0<2; omega)
 have c1:=hcell 1 (by show 1<2; omega)
 exact ⟨c0,c1⟩
theorem Yu:(Tryz.prog.info? 141).map (fun i=>(i.zero,i.size,i.bytes))=some (some (.agg #[.int .i64 0,.int .i64 0]),2,16):=by kernel_rfl
theorem Uz {α:Type} (el:El α) (hk:el.k=2) (h1:∀ (w:World) (x:α) (cs:List Value),el.E w x cs→∀ u∈cs,u.oneCell'=true) (v:Value) (xs:List α) (w:World) (h:iC el w v xs) (hl:xs.length≤1000000) :
  Calls Tryz.prog 83 #[v] w (jw el 141 xs w):=by
 obtain ⟨i0,hi,hz0,hz1,hz2⟩:=nC Yu
 have hq:=fun (w:World) (a:Option Addr) (n c:Nat)=>Lib.run_eql_slice_nil (P:=Tryz.prog) w 63 141 a n c 0 0 Tryz.underlying63
 have hown0:(w.alloc (.cells #[] 141)).ownsRow w.heap.size 141 2 (.slice (some ⟨w.heap.size,0,none⟩) 0 0) 0 []:=World.ownsRow_made w #[] 0 (Nat.le_refl _) (by unfold maxLen; omega) rfl
 obtain ⟨a,n,c,vs,rfl,hn,hvl,hone,hE,hcell⟩:=qy h1 h
 rw [hk] at hvl
 have HR:=hid hE
 cases a with
 | none =>
  have hn0:n=0:=hcell.1 rfl
  subst hn0
  obtain rfl:xs=[]:=List.length_eq_zero_iff.1 hn.symm
  clear h hl hE hcell hown0 hn hvl hone HR hi hz0 hz1 hz2
  go_enter Tryz.func83,Tryz.ntmps83
  go_wp2
  go_ret
  exact ⟨_,[],rfl,World.ownsRow_nil _ _ _ _,(fun i hi=>by cases hi),Below.refl _ _⟩
 | some ad =>
  have hnews:∀ j u,vs[j]?=some u→(w.alloc (.cells #[] 141)).cell? (ad.add j)=some u:=fun j u hu=>by
   have hc:=hcell.2 ad rfl j u hu
   rw [World.cell?_of_block (w:=w) (a:=ad.add j) (Below.heap_alloc w _ _ (World.block_lt_of_cell? w _ hc))]
   exact hc
  have nX:=hid hown0
  have nY:=hid hnews
  have OU:=hid hvl
  have IC:=hid hone
  have hnl:n≤1000000:=by omega
  have HN:=hid hn
  clear hown0 hnews hcell h hE hvl hone hl hn
  go_enter Tryz.func83,Tryz.ntmps83
  go_wp2_with (at_builtin; refine wpList_append_own _ rfl _ _ 63 rfl w.heap.size 141 i0 (.agg #[.int .i64 0,.int .i64 0]) 2 16 Tryz.underlying63 hi hz0 hz1 hz2 rfl (by decide) _ 0 [] rfl nX.out ad n c vs rfl OU.out nY.out IC.out ?c3 ?c4 ?c5 ?_)
  case c3=>unfold maxLen; omega
  case c4=>omega
  case c5=>simp
  intro v' w2 hown' hgrow _
  try simp only [Nat.zero_add,List.nil_append] at hown'
  have hb:Below w.heap.size w w2:=Below.grown ((Below.refl _ w).alloc (Nat.le_refl _) _) hgrow (by simp) (fun q hq=>by simp [Value.ownBlock] at hq; omega)
  have HO:=hid hown'
  have HB:=hid hb
  clear hown' hgrow hb
  go_wp2
  go_ret
  exact ⟨v',vs,rfl,by rw [← HN.out,hk]; exact HO.out,fun i hi=>el.mono (HR.out i hi) HB.out (Nat.le_refl _),HB.out⟩
def UA (CR:qW) (w:World) (e:Ending) (w':World):Prop:=∃ pa' pc' vs,e=.returned (.agg #[.slice pa' CR.ps.length pc',.int .i64 CR.inc,.int .i64 CR.delay])∧w'.ownsRow w.heap.size 141 2 (.slice pa' CR.ps.length pc') CR.ps.length vs∧iC MF w' (.slice pa' CR.ps.length pc') CR.ps∧Below w.heap.size w w'
set_option maxRecDepth 100000 in
set_option maxHeartbeats 4000000 in
theorem UC (CR:qW) (pa:Option Addr) (pc:Nat) (w:World) (hp:clk.gG w w.heap.size pa CR.ps.length CR.ps) (h1:CR.ps.length≤pc) (h2:pc≤maxLen) (hl:CR.ps.length≤1000) :
  Calls Tryz.prog 43 #[.agg #[.slice pa CR.ps.length pc,.int .i64 CR.inc,.int .i64 CR.delay]] w (UA CR w):=by
 have HR:=hid (ab6 hp h1 h2)
 have HL:=hid hl
 clear hp hl
 go_enter Tryz.func43,Tryz.ntmps43
 go_upto_region 1 with (fail)
 refine qQ fun w0 vZ Yd fJ hs_=>?_
 have HX0:=hid vZ
 have lu:=hid Yd
 have HB:=hid fJ
 clear hs_ vZ Yd fJ
 have c0:=HX0.out.cell 0 rfl
 have HCl:=hid (Uz MF rfl (fun w x cs h u hu=>by subst h; simp at hu; rcases hu with rfl | rfl <;> rfl) _ CR.ps w0 (HR.out.below HB.out (Nat.le_refl _)) (by have:=HL.out; omega))
 have hs0:w.heap.size+1<w0.heap.size:=lu.out.lt
 go_wp2_with fail
 refine HCl.out.mono ?_
 rintro e w1 ⟨v,vs,rfl,hown,hE,hb1⟩
 have Ja:=hid (HX0.out.stays hb1)
 have gJ:=hid (lu.out.stays hb1)
 have HB1:=hid (HB.out.trans (hb1.mono HB.out.size))
 obtain ⟨pa',pc',hv⟩:=aG hown
 subst hv
 have nO:Hid (∀ (w:World) i (h:i<CR.ps.length),MF.E w CR.ps[i] ((vs.drop (i * 2)).take 2)):=hid fun _=>hE
 have HO:=hid hown
 have c1:=Ja.out.cell 0 rfl
 have f1:=Ja.out.frozen 0
 clear hown hE hb1 c0
 go_upto_region 2 with (fail)
 have mZ:=hid (Ja.out.set 0 (.slice pa' CR.ps.length pc'))
 have zW:=hid (gJ.out.far ⟨w.heap.size,0,none⟩ (.slice pa' CR.ps.length pc') (by show w.heap.size+1≠w.heap.size; omega))
 have xH:Hid ((w1.setCell ⟨w.heap.size,0,none⟩ (.slice pa' CR.ps.length pc')).ownsRow w0.heap.size 141 2 (.slice pa' CR.ps.length pc') CR.ps.length vs):=hid (aN HO.out (b:=w.heap.size) (by omega) 0 [.slice pa' CR.ps.length pc'])
 have HB2:Hid (Below w.heap.size w (w1.setCell ⟨w.heap.size,0,none⟩ (.slice pa' CR.ps.length pc'))):=hid (HB1.out.setCell (Nat.le_refl _) _)
 generalize w1.setCell ⟨w.heap.size,0,none⟩ (.slice pa' CR.ps.length pc')=w2 at *
 refine wp_region_lit ?_
 refine aH (cs:=[.slice pa' CR.ps.length pc',.int .i64 CR.inc,.int .i64 CR.delay]) (by rfl) 65 (.tmp 1) (by rfl) w.heap.size (by rfl) mZ.out Tryz.underlying65 (by rfl) (by kernel_rfl) ?_
 refine aT (vs:=[.slice pa' CR.ps.length pc',.int .i64 CR.inc,.int .i64 CR.delay]) (by rfl) 65 (.tmp 2) (.tmp 7) (by rfl) (w.heap.size+1) (by rfl) (by rfl) zW.out (by rfl) (by kernel_rfl) (by rfl) ?_
 have HS:=hid (zW.out.store (vs:=[.slice pa' CR.ps.length pc',.int .i64 CR.inc,.int .i64 CR.delay]) rfl)
 have Ir:=hid (below_setCells HB2.out (Nat.le_succ _) 0 [.slice pa' CR.ps.length pc',.int .i64 CR.inc,.int .i64 CR.delay])
 have HOf:=hid (aN xH.out (b:=w.heap.size+1) hs0 0 [.slice pa' CR.ps.length pc',.int .i64 CR.inc,.int .i64 CR.delay])
 generalize w2.setCells (w.heap.size+1) 0 [.slice pa' CR.ps.length pc',.int .i64 CR.inc,.int .i64 CR.delay]=wf at *
 go_wp2_with fail
 exact bodyPost_ret (dJ rfl (by rfl) HS.out Tryz.underlying65 (by rfl) (by kernel_rfl)) rfl ⟨pa',pc',vs,rfl,own_base HOf.out (by omega),iC.dB HOf.out (fun i h=>nO.out wf i h),Ir.out⟩
end Go.Proofs.YteablcielclaeaaGreatDoor
namespace Go.Proofs.YteablcielclaeaaGreatDoor
open Go.ChangeShapes Go.WideShapes Go.ChangeAt Go.RowKit
set_option linter.unusedVariables false
variable {S:Nat→Prop} {base b:Nat} {M:aP} {B:kM}
end Go.Proofs.YteablcielclaeaaGreatDoor
namespace Go.Proofs.YteablcielclaeaaGreatDoor
open Go.ChangeShapes Go.WideShapes Go.ChangeAt Go.RowKit
set_option linter.unusedVariables false
variable {S:Nat→Prop} {base b:Nat} {M:aP} {B:kM}
def fG:qW:=⟨[(0,60000)],1000,0⟩
end Go.Proofs.YteablcielclaeaaGreatDoor
namespace Go.Proofs.YteablcielclaeaaGreatDoor
open Go.ChangeShapes Go.WideShapes Go.ChangeAt Go.RowKit
set_option linter.unusedVariables false
open Go.Lib (hid)
variable {X S:Nat→Prop} {base b:Nat} {M:aP} {B:kM}
theorem DY (now:Int) (h0 : -9223372036854775808≤now) (h1:now≤9223372036854775807):textE (oH now)=0∧(oH now).size≤200:=by
 have hl:=I7 now h0 h1
 have hle:(([115,116,97,114,116,32]:List UInt8)++Lib.itoa now).length≤200:=by simp; omega
 refine ⟨DW _ hle (fun c hc=>?_),?_⟩
 ·rcases List.mem_append.1 hc with h | h
  ·simp only [List.mem_cons,List.not_mem_nil,or_false] at h
   rcases h with rfl | rfl | rfl | rfl | rfl | rfl <;> exact ⟨by decide,by decide⟩
  ·exact Yr now c h
 ·show (([115,116,97,114,116,32]:List UInt8)++Lib.itoa now).toArray.size≤200
  rw [List.size_toArray]; exact hle
def Jb (R:aA) (CR:qW):Prop:=¬ (aJ R=0∧clk.dR CR.ps.length CR.inc CR.delay CR.ps)
def GK (X:Nat→Prop) (R:aA) (CR:qW) (now:Int) (w:World) (e:Ending) (w':World):Prop:=
 (∃ c:Int,(c≠0∧Jb R CR)∧e=.returned (.tuple #[.pointer none,.int .i64 c])∧Below w.heap.size w w') ∨
 (aJ R=0∧BX CR∧∃ base S b B,e=.returned (.tuple #[.pointer (some ⟨b,0,none⟩),.int .i64 0])∧aY X S base w' b (jW R CR now) B∧w.heap.size≤base∧base≤w'.heap.size∧Below w.heap.size w w')
theorem UD {w w':World} {bb n sz:Nat} {e:TypeId} {v:Value} {xs:List Value} (h:w.ownsRow bb e sz v n xs) (hb:∀ k,v.ownBlock=some k→w'.heap[k]?=w.heap[k]?):w'.ownsRow bb e sz v n xs:=by
 refine ⟨h.1,?_⟩
 rcases h.2 with h0 | ⟨g,c,cur,hv,hg,hbk,r⟩
 ·exact .inl h0
 ·exact .inr ⟨g,c,cur,hv,hg,by rw [hb g (by rw [hv]; rfl)]; exact hbk,r⟩
set_option maxRecDepth 100000 in
set_option maxHeartbeats 8000000 in
theorem UE (X:Nat→Prop) (HSo:SortMvSaid) (HI:ItoaSaid) (R:aA) (CR:qW) (vp vs ve:Value) (pa:Option Addr) (pc:Nat) (now:Int) (w:World) (hr:pV w R vp vs ve) (hnm:R.name.size≤maxLen) (hp:clk.gG w w.heap.size pa CR.ps.length CR.ps) (h1:CR.ps.length≤pc) (h2:pc≤maxLen) (h0:0≤now) (MG:now≤100000000) (ht:Tab w.heap.size w) (hX:∀ k,X k→k<w.heap.size) :
  Calls Tryz.prog 13 #[.agg #[.string R.name,.int .i64 R.width,.int .i64 R.height,vp,vs,.bool R.falls,.bool R.keeps,ve,.int .i64 R.blocked,.int .i64 R.quiet,.int .i64 R.bC],.agg #[.slice pa CR.ps.length pc,.int .i64 CR.inc,.int .i64 CR.delay],.int .i64 now] w (GK X R CR now w):=by
 have HS:=hid HSo
 have HIt:=hid HI
 have HR:=hid hr
 have EX:=hid hnm
 have HP:=hid hp
 have kQ:=hid (And.intro h1 h2)
 have Fz:=hid ht
 have HXo:=hid hX
 clear HSo HI hr hnm hp h1 h2 ht hX
 go_enter Tryz.func13,Tryz.ntmps13
 go_upto_region 1 with (fail)
 refine qQ fun w0 vZ Yd fJ hs_=>?_
 have HX0:=hid vZ
 have lu:=hid Yd
 have HB:=hid fJ
 have HW0:Hid (w0.heap.size=w.heap.size+2):=hid (by omega)
 clear hs_ vZ Yd fJ
 have HN:=hid (gx.BZ R vp vs ve w0 (HR.out.below HB.out (Nat.le_refl _)) EX.out)
 refine wp_region_lit ?_
 refine aH (by rfl) 61 (.tmp 3) (by rfl) (w.heap.size) (by rfl) HX0.out Tryz.underlying61 (by rfl) (by kernel_rfl) ?_
 go_wp2_with fail
 refine HN.out.mono ?_
 rintro e w1 (⟨hre,rfl,hb1⟩ | ⟨hre,S,g,gp,gs,ge,vl,vm,rows,rfl,adP,hb1⟩)
 ·have HB1:=hid (HB.out.trans (hb1.mono HB.out.size))
  have HE:=hid hre
  have Ox:Hid (Jb R CR):=hid (fun hc=>hre hc.1)
  have auL:(aJ R != 0)=true:=by simpa using hre
  generalize aJ R=er at *
  clear hre hb1
  go_wp2_with fail
  go_ret2
  exact .inl ⟨er,⟨HE.out,Ox.out⟩,rfl,HB1.out⟩
 have HB1:=hid (HB.out.trans (hb1.mono HB.out.size))
 have Ja:=hid (HX0.out.stays hb1)
 have gJ:=hid (lu.out.stays hb1)
 have Ou:=hid adP
 have Gv:=hid hre
 have Gi:=hid (Ux CR pa pc now w1 (HP.out.below HB1.out) (by have:=kQ.out; omega) h0 MG)
 clear hb1 adP hre HN
 go_upto_region 4 with (fail)
 refine wp_region_lit ?_
 refine aH (by rfl) 65 (.tmp 4) (by rfl) (w.heap.size+1) (by rfl) gJ.out Tryz.underlying65 (by rfl) (by kernel_rfl) ?_
 try simp only [Act.put,vO,vP,vS]
 refine wpList_plain (by rfl) (fun K hK=>?_)
 go_simp
 refine hK _ _ ?_
 clear hK K
 try simp only [Act.put,vO,vP,vS]
 refine wpList_plain (by rfl) (fun K hK=>?_)
 go_simp
 refine Gi.out.mono ?_
 rintro e w2 (⟨c,⟨hcz,hnr⟩,rfl,hb2⟩ | ⟨hcg,rfl,hb2⟩)
 ·have HB2:=hid (HB1.out.trans (hb2.mono HB1.out.size))
  have HE:=hid hcz
  have Ox:Hid (Jb R CR):=hid (fun hc=>hnr hc.2)
  clear hnr
  have hcb:(c != 0)=true:=by simpa using hcz
  clear hcz hb2
  refine hK _ _ ?_
  clear hK K
  try simp only [Act.put,vO,vP,vS]
  refine wpList_plain (by rfl) (fun K hK=>?_)
  go_simp
  refine hK _ _ ?_
  clear hK K
  try simp only [Act.put,vO,vP,vS]
  refine wpList_plain (by rfl) (fun K hK=>?_)
  go_simp
  refine hK _ _ ?_
  clear hK K
  try simp only [Act.put,vO,vP,vS]
  refine wpList_plain (by rfl) (fun K hK=>?_)
  go_simp
  refine hK _ _ ?_
  clear hK K
  try simp only [Act.put,vO,vP,vS]
  refine wpList_plain (by rfl) (fun K hK=>?_)
  go_simp
  refine hK _ _ ?_
  clear hK K
  try simp only [Act.put,vO,vP,vS]
  refine uK ?_
  intro w3 e3
  have zW:Hid (Box w3 w2.heap.size [.int .i64 0,.int .i64 0,.int .i64 0,.int .i64 0,.int .i64 0,.int .i64 0,.int .i64 0,.int .i64 0,.bool false,.int .i64 0] 83):=hid (by rw [e3]; exact Box.new' _ _ _ _ rfl)
  have HB3:Hid (Below w.heap.size w w3):=hid (by rw [e3]; exact HB2.out.alloc HB2.out.size _)
  clear e3
  refine aT (vs:=[.int .i64 0,.int .i64 0,.int .i64 0,.int .i64 0,.int .i64 0,.int .i64 0,.int .i64 0,.int .i64 0,.bool false,.int .i64 0]) (by rfl) 83 (.tmp 10) (.tmp 24) (by rfl) w2.heap.size (by rfl) (by rfl) zW.out (by rfl) (by kernel_rfl) (by rfl) ?_
  have HB4:=hid (below_setCells HB3.out HB2.out.size 0 [.int .i64 0,.int .i64 0,.int .i64 0,.int .i64 0,.int .i64 0,.int .i64 0,.int .i64 0,.int .i64 0,.bool false,.int .i64 0])
  generalize w3.setCells w2.heap.size 0 [.int .i64 0,.int .i64 0,.int .i64 0,.int .i64 0,.int .i64 0,.int .i64 0,.int .i64 0,.int .i64 0,.bool false,.int .i64 0]=w4 at *
  go_wp2_with fail
  go_ret2
  exact .inl ⟨c,⟨HE.out,Ox.out⟩,rfl,HB4.out⟩
 have HB2:=hid (HB1.out.trans (hb2.mono HB1.out.size))
 have HCG:=hid hcg
 have anJ:=hid (Ja.out.stays hb2)
 have anK:=hid (gJ.out.stays hb2)
 have Hb2:=hid hb2
 clear hcg hb2 Gi
 refine hK _ _ ?_
 clear hK K
 unfold IZ
 try simp only [Act.put,vO,vP,vS]
 refine wpList_plain (by rfl) (fun K hK=>?_)
 go_simp
 refine hK _ _ ?_
 clear hK K
 try simp only [Act.put,vO,vP,vS]
 refine wpList_plain (by rfl) (fun K hK=>?_)
 go_simp
 refine hK _ _ ?_
 clear hK K
 try simp only [Act.put,vO,vP,vS]
 refine wpList_plain (by rfl) (fun K hK=>?_)
 go_simp
 refine hK _ _ ?_
 clear hK K
 try simp only [Act.put,vO,vP,vS]
 refine wpList_plain (by rfl) (fun K hK=>?_)
 go_simp
 refine hK _ _ ?_
 clear hK K
 try simp only [Act.put,vO,vP,vS]
 refine uK ?_
 intro w3 e3
 have zW:Hid (Box w3 w2.heap.size [.int .i64 0,.int .i64 0,.int .i64 0,.int .i64 0,.int .i64 0,.int .i64 0,.int .i64 0,.int .i64 0,.bool false,.int .i64 0] 83):=hid (by rw [e3]; exact Box.new' _ _ _ _ rfl)
 have anL:Hid (Below w2.heap.size w2 w3):=hid (by rw [e3]; exact (Below.refl _ _).alloc (Nat.le_refl _) _)
 have Hb3:Hid (Below w1.heap.size w1 w3):=hid (by rw [e3]; exact Hb2.out.alloc Hb2.out.size _)
 clear e3
 refine aT (vs:=[.int .i64 (aI CR now).l0,.int .i64 (aI CR now).l1,.int .i64 (aI CR now).m0,.int .i64 (aI CR now).m1,.int .i64 (aI CR now).p0,.int .i64 (aI CR now).p1,.int .i64 (aI CR now).turn,.int .i64 (aI CR now).since,.bool (aI CR now).st,.int .i64 (aI CR now).ay]) (by rfl) 83 (.tmp 10) (.tmp 24) (by rfl) w2.heap.size (by rfl) (by rfl) zW.out (by rfl) (by kernel_rfl) (by rfl) ?_
 have HXc:=hid (zW.out.store (vs:=[.int .i64 (aI CR now).l0,.int .i64 (aI CR now).l1,.int .i64 (aI CR now).m0,.int .i64 (aI CR now).m1,.int .i64 (aI CR now).p0,.int .i64 (aI CR now).p1,.int .i64 (aI CR now).turn,.int .i64 (aI CR now).since,.bool (aI CR now).st,.int .i64 (aI CR now).ay]) rfl)
 have Hb4:=hid (below_setCells Hb3.out Hb2.out.size 0 [.int .i64 (aI CR now).l0,.int .i64 (aI CR now).l1,.int .i64 (aI CR now).m0,.int .i64 (aI CR now).m1,.int .i64 (aI CR now).p0,.int .i64 (aI CR now).p1,.int .i64 (aI CR now).turn,.int .i64 (aI CR now).since,.bool (aI CR now).st,.int .i64 (aI CR now).ay])
 have aiz:Hid (Below w2.heap.size w2 (w3.setCells w2.heap.size 0 [.int .i64 (aI CR now).l0,.int .i64 (aI CR now).l1,.int .i64 (aI CR now).m0,.int .i64 (aI CR now).m1,.int .i64 (aI CR now).p0,.int .i64 (aI CR now).p1,.int .i64 (aI CR now).turn,.int .i64 (aI CR now).since,.bool (aI CR now).st,.int .i64 (aI CR now).ay])):=hid (below_setCells anL.out (Nat.le_refl _) 0 [.int .i64 (aI CR now).l0,.int .i64 (aI CR now).l1,.int .i64 (aI CR now).m0,.int .i64 (aI CR now).m1,.int .i64 (aI CR now).p0,.int .i64 (aI CR now).p1,.int .i64 (aI CR now).turn,.int .i64 (aI CR now).since,.bool (aI CR now).st,.int .i64 (aI CR now).ay])
 generalize w3.setCells w2.heap.size 0 [.int .i64 (aI CR now).l0,.int .i64 (aI CR now).l1,.int .i64 (aI CR now).m0,.int .i64 (aI CR now).m1,.int .i64 (aI CR now).p0,.int .i64 (aI CR now).p1,.int .i64 (aI CR now).turn,.int .i64 (aI CR now).since,.bool (aI CR now).st,.int .i64 (aI CR now).ay]=w4 at *
 have anM:=hid (anJ.out.stays aiz.out)
 have anN:=hid (anK.out.stays aiz.out)
 go_upto_region 7 with (fail)
 have HB4:=hid (HB1.out.trans (Hb4.out.mono HB1.out.size))
 have hrk:=Ik Gv.out
 have hl1:R.pieces.length≤1000:=by have:=hrk.np; omega
 have hl2:R.start.length≤1000:=by have:=CW Gv.out; omega
 have hl3:R.ends.length≤1000:=by have:=hrk.en; omega
 have HWL:Hid (∀ i,i<R.pieces.length→(R.pieces.getD i default).ways.length≤1000):=hid (fun i hi=>by have:=(hrk.pc i hi).2.2.1; omega)
 have Bz:Box w4.drew w.heap.size [.string R.name,.int .i64 R.width,.int .i64 R.height,vp,vs,.bool R.falls,.bool R.keeps,ve,.int .i64 R.blocked,.int .i64 R.quiet,.int .i64 R.bC] 61:=anM.out.drew
 have Cz:Box w4.drew (w.heap.size+1) [.slice pa CR.ps.length pc,.int .i64 CR.inc,.int .i64 CR.delay] 65:=anN.out.drew
 have Lz:Below w4.drew.heap.size w4.drew w4.drew:=Below.refl _ _
 refine wp_region_noPanic ?_
 refine bI (S:=(fun w'=>w'.cell? ⟨w.heap.size,0,none⟩=some (.string R.name)∧w'.cell? ⟨w.heap.size,1,none⟩=some (.int .i64 R.width)∧w'.cell? ⟨w.heap.size,2,none⟩=some (.int .i64 R.height)∧w'.cell? ⟨w.heap.size,3,none⟩=some vp∧w'.cell? ⟨w.heap.size,4,none⟩=some vs∧w'.cell? ⟨w.heap.size,5,none⟩=some (.bool R.falls)∧w'.cell? ⟨w.heap.size,6,none⟩=some (.bool R.keeps)∧w'.cell? ⟨w.heap.size,7,none⟩=some ve∧w'.cell? ⟨w.heap.size,8,none⟩=some (.int .i64 R.blocked)∧w'.cell? ⟨w.heap.size,9,none⟩=some (.int .i64 R.quiet)∧w'.cell? ⟨w.heap.size,10,none⟩=some (.int .i64 R.bC)∧w'.cell? ⟨w.heap.size+1,0,none⟩=some (.slice pa CR.ps.length pc)∧w'.cell? ⟨w.heap.size+1,1,none⟩=some (.int .i64 CR.inc)∧w'.cell? ⟨w.heap.size+1,2,none⟩=some (.int .i64 CR.delay))) (L:=[]) (by kernel_rfl) (by and_intros <;> first | exact Bz.cell _ rfl | exact Cz.cell _ rfl) (fun hHeld=>?_)
 refine dV 0 ?_
 refine dV 2 ?_
 refine aC 4 ?_
 refine aC 5 ?_
 refine fH 1 fun K hK=>?_
 go_simp
 refine (zQ R vp vs ve w4.drew (HR.out.below HB4.out.drew (Nat.le_refl _)) hl1 hl2 hl3 HWL.out).mono ?_
 rintro e wa ⟨up,us,ue,rfl,adQ,hbb⟩
 have aiA:=hid adQ
 have Hba:=hid hbb
 have B1:=Bz.stays hbb
 have C1:=Cz.stays hbb
 have L1:=ak Lz hbb Lz.size
 clear hbb adQ
 refine hK.out _ _ (by and_intros <;> first | exact B1.cell _ rfl | exact C1.cell _ rfl) (fun hHeld=>?_)
 clear hK K
 refine fH 3 fun K hK=>?_
 go_simp
 refine (UC CR pa pc wa (HP.out.below (HB4.out.drew.trans (Hba.out.mono HB4.out.drew.size))) kQ.out.1 kQ.out.2 (by have:=HCG.out.n; omega)).mono ?_
 rintro e wb ⟨pa',pc',vs',rfl,hown,hrd,hbb⟩
 have HOw:=hid hown
 have HRl:=hid hrd
 have ab9:=hid hbb
 have aiB:CR.ps.length≤pc'∧pc'≤maxLen:=by obtain ⟨a9,c9,e9,q1,q2⟩:=hrd.form; simp only [Value.slice.injEq,true_and] at e9; omega
 have anP:=hid aiB
 have B3:=B1.stays hbb
 have C3:=C1.stays hbb
 have L3:=ak L1 hbb L1.size
 clear hbb hown hrd aiB
 refine hK.out _ _ (by and_intros <;> first | exact B3.cell _ rfl | exact C3.cell _ rfl) (fun hHeld=>?_)
 clear hK K
 refine aC 6 ?_
 refine fH 7 fun K hK=>?_
 go_simp
 refine aQ ?_
 intro wc ec
 have hbb:Below wb.heap.size wb wc:=by rw [ec]; exact (Below.refl _ _).alloc (Nat.le_refl _) _
 have HXm:=hid (show Box wc wb.heap.size _ 130 by rw [ec]; exact Box.new' _ _ _ _ rfl)
 have Hbc:=hid hbb
 have B7:=B3.stays hbb
 have C7:=C3.stays hbb
 have L7:=ak L3 hbb L3.size
 clear hbb ec
 refine hK.out _ _ (by and_intros <;> first | exact B7.cell _ rfl | exact C7.cell _ rfl) (fun hHeld=>?_)
 clear hK K
 refine aC 8 ?_
 refine jC ?_
 go_upto_region 8 with (fail)
 have hs1:=Hb4.out.size
 have hs2:w4.heap.size≤wa.heap.size:=Hba.out.size
 have hs3:=ab9.out.size
 have hs4:=Hbc.out.size
 have hbm:=HXm.out.lt
 have H1c:Hid (Below w1.heap.size w1 wc):=hid ((Hb4.out.drew.trans (Hba.out.mono hs1)).trans ((ab9.out.mono (by omega)).trans (Hbc.out.mono (by omega))))
 have Yv:∀ k,S k→k<w1.heap.size:=fun k hk=>((Ou.out (fun _=>False) (fun _ h=>h.elim)).lo k hk).2
 have ae6:∀ k,S k→w0.heap.size≤k:=fun k hk=>((Ou.out (fun _=>False) (fun _ h=>h.elim)).lo k hk).1
 have HMa:Hid (aY X S w0.heap.size wc wb.heap.size ⟨R,CR,[],0,0,⟨0,0,0,0,0,0,0,0,false,0⟩,⟨0,0,0,0,0,0⟩,[],now,[]⟩ ⟨up,us,ue,pa',pc',g,.slice none 0 0,.slice none 0 0⟩):=hid ⟨HXm.out,fun hk=>by have:=Yv _ hk; omega,by have:=HB1.out.size; have:=HW0.out; have:=(Ou.out (fun _=>False) (fun _ h=>h.elim)); have:=ae6 _ this.sb; have:=Yv _ (Ou.out (fun _=>False) (fun _ h=>h.elim)).sb; omega,
  ⟨_,_,_,_,_,_,(Ou.out (out1 X wb.heap.size) (fun k hk=>by rcases hk with hk | hk; (right; rw [hk]; omega); (left; have:=HXo.out k hk; have:=HW0.out; omega))).below H1c.out⟩,fun w' hw=>by
   have XK:∀ k,w4.heap.size≤k→k<wb.heap.size→w'.heap[k]?=wb.heap[k]?:=fun k hk1 hk2=>by
    rw [hw.block k (by omega) (fun h=>by rcases h with h | h; exact absurd (Yv k h) (by omega); (rcases h with h | h; exact absurd h (by omega); have:=HXo.out k h; have:=HW0.out; have:=HB1.out.size; omega)),Hbc.out.block k hk2]
   refine ⟨aiA.out w' (fun k hk1 hk2=>?_),⟨rfl,fun hn=>?_⟩,anP.out,iC.nil _ _,Rd.nil _ _⟩
   ·rw [XK k hk1 (by omega),ab9.out.block k hk2]
   ·obtain ⟨b',off,hA,hlt,hc⟩:=(ab7 HRl.out).2 hn
    subst hA
    have hbl:=HOw.out.lt b' rfl
    have he:=XK b' (by omega) hbl.2
    refine ⟨b',off,rfl,by have:=hw.size; omega,fun k hk=>?_⟩
    rw [World.cell?_of_block (w:=wb) (a:=⟨b',off+k * 2,none⟩) he,World.cell?_of_block (w:=wb) (a:=⟨b',off+k * 2+1,none⟩) he]
    exact hc k hk,fun k hk=>⟨fun h=>by have:=ae6 k h; have:=HXo.out k hk; have:=HW0.out; omega,by have:=HXo.out k hk; have:=HB1.out.size; omega⟩⟩
 have H4c:Hid (Below w4.heap.size w4 wc):=hid (((Below.refl w4.heap.size w4).drew.trans (Hba.out.mono (Nat.le_refl _))).trans ((ab9.out.mono (by omega)).trans (Hbc.out.mono (by omega))))
 have Kz:Box wc.drew w2.heap.size [.int .i64 (aI CR now).l0,.int .i64 (aI CR now).l1,.int .i64 (aI CR now).m0,.int .i64 (aI CR now).m1,.int .i64 (aI CR now).p0,.int .i64 (aI CR now).p1,.int .i64 (aI CR now).turn,.int .i64 (aI CR now).since,.bool (aI CR now).st,.int .i64 (aI CR now).ay] 83:=(HXc.out.stays H4c.out).drew
 have Mz:=HMa.out.below ((Below.refl wc.heap.size wc).drew)
 refine wp_region_noPanic ?_
 refine bI (S:=(fun w'=>w'.cell? ⟨w2.heap.size,0,none⟩=some (.int .i64 (aI CR now).l0)∧w'.cell? ⟨w2.heap.size,1,none⟩=some (.int .i64 (aI CR now).l1)∧w'.cell? ⟨w2.heap.size,2,none⟩=some (.int .i64 (aI CR now).m0)∧w'.cell? ⟨w2.heap.size,3,none⟩=some (.int .i64 (aI CR now).m1)∧w'.cell? ⟨w2.heap.size,4,none⟩=some (.int .i64 (aI CR now).p0)∧w'.cell? ⟨w2.heap.size,5,none⟩=some (.int .i64 (aI CR now).p1)∧w'.cell? ⟨w2.heap.size,6,none⟩=some (.int .i64 (aI CR now).turn)∧w'.cell? ⟨w2.heap.size,7,none⟩=some (.int .i64 (aI CR now).since)∧w'.cell? ⟨w2.heap.size,8,none⟩=some (.bool (aI CR now).st)∧w'.cell? ⟨w2.heap.size,9,none⟩=some (.int .i64 (aI CR now).ay))) (L:=[6]) (by kernel_rfl) (by and_intros <;> exact Kz.cell _ rfl) (fun hHeld=>?_)
 refine aC 0 ?_
 refine dV 1 ?_
 refine fH 2 fun K hK=>?_
 go_simp
 refine (Qd wc.drew).mono ?_
 rintro e wd ⟨rfl,hbb⟩
 unfold Yk
 have K2:=Kz.stays hbb
 have M2:=Mz.below hbb
 have Hcd:=hid (show Below wc.heap.size wc wd from ((Below.refl wc.heap.size wc).drew).trans hbb)
 clear hbb
 refine hK.out _ _ (by and_intros <;> exact K2.cell _ rfl) (fun hHeld=>?_)
 clear hK K
 refine aC 3 ?_
 refine aC 4 ?_
 refine aC 5 ?_
 refine rP 6 fun K hK=>?_
 rw [if_pos (by rfl)]
 refine wp_store_mid 89 (.tmp 42) (.tmp 40) (by rfl) wb.heap.size 15 #[.slice none 0 0,.int .i64 0,.int .i64 0,.int .i64 (aI CR now).l0,.int .i64 (aI CR now).l1,.int .i64 (aI CR now).m0,.int .i64 (aI CR now).m1,.int .i64 (aI CR now).p0,.int .i64 (aI CR now).p1,.int .i64 (aI CR now).turn,.int .i64 (aI CR now).since,.bool (aI CR now).st,.int .i64 (aI CR now).ay,.int .i64 qC.b0,.int .i64 qC.b1,.int .i64 qC.lC,.int .i64 qC.lD,.int .i64 qC.l10,.int .i64 qC.lF,.slice none 0 0] (by rfl) (by rfl) (M2.box.has 15 20 (by simp [Um])) (by kernel_rfl) (by simp [Value.oneCell']) ?_
 refine aQ ?_
 intro we ee
 have P6:=M2.put (M':=⟨R,CR,[],0,0,aI CR now,qC,[],now,[]⟩) (B':=⟨up,us,ue,pa',pc',g,.slice none 0 0,.slice none 0 0⟩) 15 [.slice none 0 0,.int .i64 0,.int .i64 0,.int .i64 (aI CR now).l0,.int .i64 (aI CR now).l1,.int .i64 (aI CR now).m0,.int .i64 (aI CR now).m1,.int .i64 (aI CR now).p0,.int .i64 (aI CR now).p1,.int .i64 (aI CR now).turn,.int .i64 (aI CR now).since,.bool (aI CR now).st,.int .i64 (aI CR now).ay,.int .i64 qC.b0,.int .i64 qC.b1,.int .i64 qC.lC,.int .i64 qC.lD,.int .i64 qC.l10,.int .i64 qC.lF,.slice none 0 0] (by simp) rfl rfl rfl rfl (M2.rd.imp (fun _ h=>⟨h.rd,h.per,h.pc,h.pr,h.jr⟩))
 have HMe:Hid (aY X S w0.heap.size we wb.heap.size ⟨R,CR,[],0,0,aI CR now,qC,[],now,[]⟩ ⟨up,us,ue,pa',pc',g,.slice none 0 0,.slice none 0 0⟩):=hid (by rw [ee]; exact P6.1)
 have HFe:Hid (iO S wb.heap.size wd we):=hid (by rw [ee]; exact P6.2)
 clear P6 ee
 refine hK.out _ _ ?_
 clear hK K
 refine jC ?_
 go_upto_region 9 with (fail)
 have V9:Hid (Below w.heap.size w we):=hid (by
  have q1:Below w.heap.size w wd:=(HB4.out.trans (H4c.out.mono HB4.out.size)).trans (Hcd.out.mono (by have:=H4c.out.size; have:=HB4.out.size; omega))
  have q2:=iO.base M2 HFe.out (by have:=HW0.out; have:=H1c.out.size; have:=Hcd.out.size; have:=Yv _ (Ou.out (fun _=>False) (fun _ h=>h.elim)).sb; have:=ae6 _ (Ou.out (fun _=>False) (fun _ h=>h.elim)).sb; omega)
  exact q1.trans (q2.mono (by have:=HW0.out; omega)))
 have HTe:=hid (Fz.out.below V9.out)
 have auN:=HMe
 clear Mz Kz K2 M2 HMa
 go_wp2_with fail
 refine (HIt.out now we (by omega) (by omega) HTe.out.1).mono ?_
 rintro e wf ⟨rfl,hbf⟩
 obtain ⟨it,hit⟩:∃ it:ByteArray,it=⟨(Lib.itoa now).toArray⟩:=⟨_,rfl⟩
 have arf:it.size≤20:=by rw [hit]; show (Lib.itoa now).toArray.size≤20; rw [List.size_toArray]; exact I7 now (by omega) (by omega)
 have auO:(⟨#[115,116,97,114,116,32]⟩:ByteArray).size=6:=rfl
 have anS:Hid ((⟨#[115,116,97,114,116,32]⟩:ByteArray)++it=oH now):=hid (by rw [hit]; unfold oH; apply ByteArray.ext; rw [ByteArray.data_append]; simp)
 rw [← hit]
 clear hit
 go_wp2_with fail
 rw [anS.out]
 have HTx:=hid (DY now (by omega) (by omega))
 have hJ:appJ [] (oH now)=([mX [] (oH now)],0):=by unfold appJ; rw [if_neg (by rw [HTx.out.1]; simp)]; rfl
 have hap:=uJ (.slice none 0 0) [] (oH now) wf (Rd.nil _ _) ⟨by simp,fun k h=>by cases h⟩ (by simp) (by have:=HTx.out.2; omega)
 rw [hJ] at hap
 refine hap.mono ?_
 rintro e wg ⟨vj,rfl,hoj,hbg⟩
 obtain ⟨ja,jc,hvj⟩:=aG hoj
 subst hvj
 have ae7:Below we.heap.size we wg:=hbf.trans (hbg.mono hbf.size)
 have Mg:=HMe.out.below ae7
 have hjb:∀ k,(Value.slice ja 1 jc).ownBlock=some k→wf.heap.size≤k∧k<wg.heap.size:=fun k hk=>hoj.lt k hk
 have hsb:wb.heap.size<wf.heap.size:=by have:=HMe.out.box.lt; have:=hbf.size; omega
 have P9:=Mg.put (M':=⟨R,CR,[],0,0,aI CR now,qC,[],now,[mX [] (oH now)]⟩) (B':=⟨up,us,ue,pa',pc',g,.slice none 0 0,.slice ja 1 jc⟩) 36 [.slice ja 1 jc] (by simp) rfl rfl rfl rfl (fun w' hw=>by
  have ho:=Mg.rd w' hw
  exact ⟨ho.rd,ho.per,ho.pc,ho.pr,Rd.dB (UD hoj (fun k hk=>hw.block k (hjb k hk).2 (fun h=>by
   have:=(hjb k hk).1
   rcases h with h | h
   ·have:=Yv k h; have:=H1c.out.size; have:=Hcd.out.size; have:=HFe.out.size; have:=hbf.size; omega
   ·rcases h with h | h
    ·rw [h] at this; omega
    ·have:=HXo.out k h; have:=HB1.out.size; have:=Hcd.out.size; have:=H1c.out.size; have:=HFe.out.size; have:=hbf.size; omega)))⟩)
 have kV:Hid (aY X S w0.heap.size (wg.setCell ⟨wb.heap.size,36,none⟩ (.slice ja 1 jc)) wb.heap.size ⟨R,CR,[],0,0,aI CR now,qC,[],now,[mX [] (oH now)]⟩ ⟨up,us,ue,pa',pc',g,.slice none 0 0,.slice ja 1 jc⟩):=hid P9.1
 have c36:=Mg.box.cell 36 rfl
 have f36:=Mg.box.frozen 36
 have bF:Hid (Below w.heap.size w (wg.setCell ⟨wb.heap.size,36,none⟩ (.slice ja 1 jc))):=hid ((V9.out.trans (ae7.mono V9.out.size)).setCell (by have:=kV.out.lo; have:=HW0.out; show w.heap.size≤wb.heap.size; omega) _)
 clear P9 Mg hoj hbg hbf ae7 hap hJ
 go_upto_region 10 with (fail)
 generalize wg.setCell ⟨wb.heap.size,36,none⟩ (.slice ja 1 jc)=w9 at *
 have hs9:w0.heap.size≤w9.heap.size:=by have:=kV.out.box.lt; have:=kV.out.lo; omega
 go_wp2_with fail
 refine (yK HS.out w9 kV.out).mono ?_
 rintro e wh ⟨rfl,S',B',hMh,hsh,hFh⟩
 have HMh:=hid hMh
 have HBh:Hid (Below w.heap.size w wh):=hid (bF.out.trans ((iO.base kV.out hFh hs9).mono (by have:=HW0.out; omega)))
 have qo:=hid (Nat.le_trans hs9 hFh.size)
 clear hMh hsh hFh
 go_wp2_with fail
 go_ret2
 exact .inr ⟨Gv.out,HCG.out,_,S',_,B',rfl,HMh.out,by have:=HW0.out; omega,qo.out,HBh.out⟩
def Yw (R:aA) (CR:qW) (now:Int) (w:World) (e:Ending) (w':World):Prop:=GK noX R CR now w e w'
theorem Yx (HSo:SortMvSaid) (HI:ItoaSaid) (R:aA) (CR:qW) (vp vs ve:Value) (pa:Option Addr) (pc:Nat) (now:Int) (w:World) (hr:pV w R vp vs ve) (hnm:R.name.size≤maxLen) (hp:clk.gG w w.heap.size pa CR.ps.length CR.ps) (h1:CR.ps.length≤pc) (h2:pc≤maxLen) (h0:0≤now) (MG:now≤100000000) (ht:Tab w.heap.size w) :
  Calls Tryz.prog 13 #[.agg #[.string R.name,.int .i64 R.width,.int .i64 R.height,vp,vs,.bool R.falls,.bool R.keeps,ve,.int .i64 R.blocked,.int .i64 R.quiet,.int .i64 R.bC],.agg #[.slice pa CR.ps.length pc,.int .i64 CR.inc,.int .i64 CR.delay],.int .i64 now] w (Yw R CR now w):=
 UE noX HSo HI R CR vp vs ve pa pc now w hr hnm hp h1 h2 h0 MG ht (fun _ h=>h.elim)
end Go.Proofs.YteablcielclaeaaGreatDoor
namespace Go.Proofs.YteablcielclaeaaGreatDoor
open Go.ChangeShapes Go.WideShapes Go.ChangeAt Go.RowKit
set_option linter.unusedVariables false
def gI:yA:=⟨0,0,0,10,⟨-1,4,0⟩⟩
theorem Jc:gI.m∈dZ fE (aF fE):=sU.2 (by decide +kernel)
theorem Yy (p:bf) (m:aB) (h1:¬ 0≤jE (fun x=>jL fE p x (1 - p.turn)) fE.ends 0) (h2:¬ (fE.quiet≠0∧fE.quiet≤p.quiet)) (hm:m∈pO fE p):dN fE p=0:=by
 unfold dN
 rw [if_neg h1,if_neg h2,if_pos (List.length_pos_of_mem (sU.2 hm))]
theorem Jd:dN fE (bV fE [])=0:=Yy _ gI.m (by decide +kernel) (by decide +kernel) (by decide +kernel)
theorem RS {ms:List aB} (h:dN fE (bV fE ms)=0):fZ fE ms=0:=by
 unfold fZ
 rw [if_neg (fun hc=>hc.2.1 rfl),h]
theorem yO:jW fE fG 0=⟨fE,fG,[],0,0,aI fG 0,qC,[],0,[mX [] (oH 0)]⟩:=by
 unfold jW aP.over
 rw [if_neg (fun hc=>hc.1 (RS Jd))]
theorem acd:(dF fG (aI fG 0) 10).l0=60990:=by decide +kernel
theorem ace:(jW fE fG 0).mJ gI=0:=by
 rw [yO]
 unfold aP.mJ
 rw [if_neg (by decide +kernel),if_neg (by decide +kernel),if_neg (by decide +kernel),if_neg (by show ¬ (1=1000); decide),if_neg (by decide +kernel)]
theorem YA:(jW fE fG 0).kind gI=(aP.runs 10 400 ((jW fE fG 0).move gI.m 10),0):=by
 rw [yO]
 unfold aP.kind
 rw [if_pos (show gI.kind=0 from rfl)]
 unfold aP.jQ
 rw [if_neg (by decide +kernel),if_neg (by show ¬¬ gI.m∈kC fE (bV fE []); unfold kC; rw [if_pos Jd]; exact fun hc=>hc Jc),if_neg (by show ¬ (0=400); decide)]
 rfl
theorem YB (M:aP) (h:M.aX=[]):(aP.runs 10 400 M).ms=M.ms∧(aP.runs 10 400 M).clk=M.clk∧(aP.runs 10 400 M).R=M.R:=by
 rw [aP.runs]
 split
 ·rw [if_neg (by rw [h]; unfold jP; rw [show wQ M.pos [] = -1 from rfl]; simp)]
  exact ⟨rfl,rfl,rfl⟩
 ·exact ⟨rfl,rfl,rfl⟩
theorem Cc (M:aP):M.over.ms=M.ms∧M.over.clk=M.clk:=by
 unfold aP.over
 split
 ·exact ⟨rfl,rfl⟩
 ·exact ⟨rfl,rfl⟩
theorem DZ:((jW fE fG 0).go gI).2=0∧((jW fE fG 0).go gI).1.ms.length=1∧((jW fE fG 0).go gI).1.clk.l0=60990:=by
 unfold aP.go
 rw [ace,YA,if_neg (show ¬ (0:Int)≠0 from fun hc=>hc rfl),if_neg (show ¬ (0:Int)≠0 from fun hc=>hc rfl)]
 have hp:((jW fE fG 0).move gI.m 10).aX=[]:=by rw [yO]; rfl
 have hr:=YB _ hp
 have hm:((jW fE fG 0).move gI.m 10).ms=[gI.m]:=by rw [yO]; rfl
 have hc:((jW fE fG 0).move gI.m 10).clk=dF fG (aI fG 0) 10:=by rw [yO]; rfl
 refine ⟨rfl,?_,?_⟩
 ·show (aP.over (aP.put (aP.runs 10 400 ((jW fE fG 0).move gI.m 10)) gI)).ms.length=1
  rw [(Cc _).1]
  show (aP.runs 10 400 ((jW fE fG 0).move gI.m 10)).ms.length=1
  rw [hr.1,hm]
  rfl
 ·show (aP.over (aP.put (aP.runs 10 400 ((jW fE fG 0).move gI.m 10)) gI)).clk.l0=60990
  rw [(Cc _).2]
  show (aP.runs 10 400 ((jW fE fG 0).move gI.m 10)).clk.l0=60990
  rw [hr.2.1,hc]
  exact acd
end Go.Proofs.YteablcielclaeaaGreatDoor
