/- MaO, MaQ, MaR, MaS, MaT, MaU, MaV. -/
import Derived.Test.YteablcielclaeaaGreatDoorC24
namespace Go.Proofs.YteablcielclaeaaGreatDoor
open Go.ChangeShapes Go.WideShapes Go.ChangeAt Go.RowKit
set_option linter.unusedVariables false
set_option maxHeartbeats 4000000
set_option maxRecDepth 100000
open Go.Lib (hid)
variable {X S:Nat→Prop} {base b:Nat} {M:aO} {B:mg}
def Ue (CR:sK) (now:Int) (w:World) (e:Ending) (w':World):Prop:=
 (∃ c:Int,(c≠0∧¬ clk.dB CR.ps.length CR.inc CR.delay CR.ps)∧e=.returned (.tuple #[.agg #[.int .i64 0,.int .i64 0,.int .i64 0,.int .i64 0,.int .i64 0,.int .i64 0,.int .i64 0,.int .i64 0,.bool false,.int .i64 0],.int .i64 c])∧Below w.heap.size w w')∨(BD CR∧e=.returned (.tuple #[IU (aN CR now),.int .i64 0])∧Below w.heap.size w w')
theorem Uf (CR:sK) (pa:Option Addr) (pc:Nat) (now:Int) (w:World) (hp:clk.eF w w.heap.size pa CR.ps.length CR.ps) (hn:CR.ps.length≤maxLen) (h0:0≤now) (h1:now≤100000000) :
  Calls Tryz.prog 41 #[.agg #[.slice pa CR.ps.length pc,.int .i64 CR.inc,.int .i64 CR.delay],.int .i64 now] w (Ue CR now w):=by
 have HP:=hid hp
 have hn2:CR.ps.length≤9223372036854775807:=by unfold maxLen at hn; omega
 clear hp hn
 go_enter Tryz.func41,Tryz.ntmps41
 go_upto_region 1 with (fail)
 refine vJ fun w0 uo QT fG hs_=>?_
 have HX0:=hid uo
 have nR:=hid QT
 have HB:=hid fG
 clear hs_ uo QT fG
 refine wp_region_lit ?_
 refine aB (by rfl) 65 (.tmp 2) (by rfl) (w.heap.size) (by rfl) HX0.out Tryz.underlying65 (by rfl) (by kernel_rfl) ?_
 go_wp2_with fail
 refine (clk.dP pa CR.ps.length pc CR.inc CR.delay CR.ps w0 hn2 (HP.out.below HB.out)).mono ?_
 rintro e w1 ⟨c,rfl,hc,hb1⟩
 have HB1:=hid (aj HB.out hb1 HB.out.size)
 have I4:=hid (HX0.out.stays hb1)
 have gB:=hid (nR.out.stays hb1)
 have HC:=hid hc
 clear hb1 hc HX0 nR HB
 by_cases hz:c=0
 rotate_left
 ·have hzb:(c != 0)=true:=by simpa using hz
  have HZ:=hid (And.intro hz (fun hr=>hz (HC.out.2 hr)))
  clear hz
  have y0:=gB.out.cell 0 rfl
  have g0:=gB.out.frozen 0
  have y1:=gB.out.cell 1 rfl
  have g1:=gB.out.frozen 1
  have y2:=gB.out.cell 2 rfl
  have g2:=gB.out.frozen 2
  have y3:=gB.out.cell 3 rfl
  have g3:=gB.out.frozen 3
  have y4:=gB.out.cell 4 rfl
  have g4:=gB.out.frozen 4
  have y5:=gB.out.cell 5 rfl
  have g5:=gB.out.frozen 5
  have y6:=gB.out.cell 6 rfl
  have g6:=gB.out.frozen 6
  have y7:=gB.out.cell 7 rfl
  have g7:=gB.out.frozen 7
  have y8:=gB.out.cell 8 rfl
  have g8:=gB.out.frozen 8
  have y9:=gB.out.cell 9 rfl
  have g9:=gB.out.frozen 9
  go_upto_region 3 with (fail)
  go_wp2_with fail
  have oJ:=hid (gB.out.store (vs:=[.int .i64 0,.int .i64 0,.int .i64 0,.int .i64 0,.int .i64 0,.int .i64 0,.int .i64 0,.int .i64 0,.bool false,.int .i64 0]) rfl)
  have HB2:=hid (below_setCells HB1.out (Nat.le_succ _) 0 [.int .i64 0,.int .i64 0,.int .i64 0,.int .i64 0,.int .i64 0,.int .i64 0,.int .i64 0,.int .i64 0,.bool false,.int .i64 0])
  exact bodyPost_ret (iE rfl (by rfl) (by rfl) oJ.out Tryz.underlying83 (by rfl) (by kernel_rfl)) rfl (.inl ⟨c,HZ.out,rfl,HB2.out⟩)
 have HCG:Hid (BD CR):=hid (BD.of (HC.out.1 hz))
 subst hz
 obtain ⟨g,o,hpa,hgb,hcell⟩:=HP.out.2 (by have:=HCG.out.n; omega)
 subst hpa
 obtain ⟨c0,c1⟩:=hcell 0 (by have:=HCG.out.n; omega)
 have d1:=(HB1.out.cell (p:=⟨g,o+0 * 2+1,none⟩) hgb).trans c1
 have hg1:g<w1.heap.size:=Nat.lt_of_lt_of_le hgb HB1.out.size
 have hln:(0:Int)<(CR.ps.length:Int):=by have:=HCG.out.n; omega
 have hst:Hid (aN CR now=⟨(CR.ps.getD 0 (0,0)).2,(CR.ps.getD 0 (0,0)).2,0,0,0,0,0,now,false,-1⟩):=hid rfl
 have x0:=I4.out.cell 0 rfl
 generalize (CR.ps.getD 0 (0,0)).2=tm at *
 clear hcell c0 c1 HC
 have hww:clk.bV now 0 100000000=true:=clk.eG ⟨h0,h1⟩
 go_wp2_with fail
 refine (clk.ay now 0 100000000 w1).mono ?_
 rintro e w2 ⟨rfl,rfl⟩
 rw [hww]
 go_upto_region 7 with (fail)
 have y0:=gB.out.cell 0 rfl
 have g0:=gB.out.frozen 0
 have y1:=gB.out.cell 1 rfl
 have g1:=gB.out.frozen 1
 have y2:=gB.out.cell 2 rfl
 have g2:=gB.out.frozen 2
 have y3:=gB.out.cell 3 rfl
 have g3:=gB.out.frozen 3
 have y4:=gB.out.cell 4 rfl
 have g4:=gB.out.frozen 4
 have y5:=gB.out.cell 5 rfl
 have g5:=gB.out.frozen 5
 have y6:=gB.out.cell 6 rfl
 have g6:=gB.out.frozen 6
 have y7:=gB.out.cell 7 rfl
 have g7:=gB.out.frozen 7
 have y8:=gB.out.cell 8 rfl
 have g8:=gB.out.frozen 8
 have y9:=gB.out.cell 9 rfl
 have g9:=gB.out.frozen 9
 go_wp2_with fail
 have oJ:=hid (gB.out.store (vs:=[.int .i64 tm,.int .i64 tm,.int .i64 0,.int .i64 0,.int .i64 0,.int .i64 0,.int .i64 0,.int .i64 now,.bool false,.int .i64 (-1)]) rfl)
 have HB2:=hid (below_setCells HB1.out (Nat.le_succ _) 0 [.int .i64 tm,.int .i64 tm,.int .i64 0,.int .i64 0,.int .i64 0,.int .i64 0,.int .i64 0,.int .i64 now,.bool false,.int .i64 (-1)])
 exact bodyPost_ret (iE rfl (by rfl) (by rfl) oJ.out Tryz.underlying83 (by rfl) (by kernel_rfl)) rfl (.inr ⟨HCG.out,by rw [hst.out]; rfl,HB2.out⟩)
theorem PE (w:World):Calls Tryz.prog 44 #[] w fun e w'=>e=.returned (XC qL)∧Below w.heap.size w w':=by
 go_enter Tryz.func44,Tryz.ntmps44
 go_upto_region 1 with (fail)
 refine pV fun w0 uo fG hs_=>?_
 have HX0:=hid uo
 have HB:=hid fG
 clear hs_ uo fG
 have y0:=HX0.out.cell 0 rfl
 have g0:=HX0.out.frozen 0
 have y1:=HX0.out.cell 1 rfl
 have g1:=HX0.out.frozen 1
 have y2:=HX0.out.cell 2 rfl
 have g2:=HX0.out.frozen 2
 have y3:=HX0.out.cell 3 rfl
 have g3:=HX0.out.frozen 3
 have y4:=HX0.out.cell 4 rfl
 have g4:=HX0.out.frozen 4
 have y5:=HX0.out.cell 5 rfl
 have g5:=HX0.out.frozen 5
 go_wp2_with fail
 have oJ:=hid (HX0.out.store (vs:=[.int .i64 (-1),.int .i64 (-1),.int .i64 (-1),.int .i64 (-1),.int .i64 (-1),.int .i64 (-1)]) rfl)
 have HB2:=hid (below_setCells HB.out (Nat.le_refl _) 0 [.int .i64 (-1),.int .i64 (-1),.int .i64 (-1),.int .i64 (-1),.int .i64 (-1),.int .i64 (-1)])
 exact bodyPost_ret (dD rfl (by rfl) oJ.out Tryz.underlying86 (by rfl) (by kernel_rfl)) rfl ⟨rfl,HB2.out⟩
end Go.Proofs.YteablcielclaeaaGreatDoor
namespace Go.Proofs.YteablcielclaeaaGreatDoor
open Go.ChangeShapes Go.WideShapes Go.ChangeAt Go.RowKit
set_option linter.unusedVariables false
open Go.Lib (hid)
variable {X S:Nat→Prop} {base b:Nat} {M:aO} {B:mg}
theorem uX {P:Program} {ops:Array Oper} {Q:Exit→Act→World→Prop} {rest:List Oper} {a:Act} {W:World} (h:∀ w',w'=W→wpList P ops Q rest a w'):wpList P ops Q rest a W:=h _ rfl
def Ug (M:aO) (w:World) (e:Ending) (w':World):Prop:=∃ ma mc qa qc,e=.returned (.agg #[.slice ma M.ms.length mc,.int .i64 M.res,.int .i64 M.reason,.int .i64 M.clk.l0,.int .i64 M.clk.l1,.int .i64 M.clk.m0,.int .i64 M.clk.m1,.int .i64 M.clk.p0,.int .i64 M.clk.p1,.int .i64 M.clk.turn,.int .i64 M.clk.since,.bool M.clk.st,.int .i64 M.clk.ak,.int .i64 M.off.b0,.int .i64 M.off.b1,.int .i64 M.off.kY,.int .i64 M.off.kZ,.int .i64 M.off.l10,.int .i64 M.off.lq,.slice qa M.aQ.length qc])∧w'.ownsRow w.heap.size 68 3 (.slice ma M.ms.length mc) M.ms.length (bf M.ms)∧w'.ownsRow w.heap.size 173 4 (.slice qa M.aQ.length qc) M.aQ.length (jy M.aQ)∧Below w.heap.size w w'
set_option maxRecDepth 100000 in
set_option maxHeartbeats 4000000 in
theorem Gj (w:World) (h:aY X S base w b M B) (hl:M.aQ.length≤1000):Calls Tryz.prog 18 #[.pointer (some ⟨b,0,none⟩)] w (Ug M w):=by
 obtain ⟨vp,vs,ve,pa,pc,g,vr,vj⟩:=B
 obtain ⟨ra,rc,hvr,hr1,hr2⟩:=h.fr.pr.form
 dsimp only at hvr
 subst hvr
 have HM:=hid h
 have ahv:=hid h
 have HL:=hid hl
 unfold maxLen at hr2
 clear h hl
 go_enter Tryz.func18,Tryz.ntmps18
 go_upto_region 1 with (fail)
 refine pV fun w0 uo fG hs_=>?_
 have HX0:=hid uo
 have HB:=hid fG
 clear hs_ uo fG
 have DJ:=hid (HM.out.below HB.out)
 obtain ⟨bx,hbx⟩:∃ bx,bx=w0.heap.size:=⟨_,rfl⟩
 have nR:Hid (Box (w0.alloc (.cells #[.slice none 0 0,.int .i64 0,.int .i64 0,.int .i64 0,.int .i64 0,.int .i64 0,.int .i64 0,.int .i64 0,.int .i64 0,.int .i64 0,.int .i64 0,.bool false,.int .i64 0,.int .i64 0,.int .i64 0,.int .i64 0,.int .i64 0,.int .i64 0,.int .i64 0,.slice none 0 0] 89)) bx [.slice none 0 0,.int .i64 0,.int .i64 0,.int .i64 0,.int .i64 0,.int .i64 0,.int .i64 0,.int .i64 0,.int .i64 0,.int .i64 0,.int .i64 0,.bool false,.int .i64 0,.int .i64 0,.int .i64 0,.int .i64 0,.int .i64 0,.int .i64 0,.int .i64 0,.slice none 0 0] 89):=hid (Box.new' w0 bx [.slice none 0 0,.int .i64 0,.int .i64 0,.int .i64 0,.int .i64 0,.int .i64 0,.int .i64 0,.int .i64 0,.int .i64 0,.int .i64 0,.int .i64 0,.bool false,.int .i64 0,.int .i64 0,.int .i64 0,.int .i64 0,.int .i64 0,.int .i64 0,.int .i64 0,.slice none 0 0] 89 hbx.symm)
 refine wp_region_lit ?_
 refine wpList_plain (by rfl) (fun K hK=>?_)
 go_simp
 refine hK _ _ ?_
 clear hK K
 try simp only [Act.put,sS,sU,sV]
 refine wpList_plain (by rfl) (fun K hK=>?_)
 go_simp
 refine hK _ _ ?_
 clear hK K
 try simp only [Act.put,sS,sU,sV]
 refine wpList_plain (by rfl) (fun K hK=>?_)
 go_simp
 refine hK _ _ ?_
 clear hK K
 try simp only [Act.put,sS,sU,sV]
 refine wpList_load_mid (by rfl) 89 (.tmp 6) (by rfl) b 15 (by rfl) [.slice none 0 0,.int .i64 M.res,.int .i64 M.reason,.int .i64 M.clk.l0,.int .i64 M.clk.l1,.int .i64 M.clk.m0,.int .i64 M.clk.m1,.int .i64 M.clk.p0,.int .i64 M.clk.p1,.int .i64 M.clk.turn,.int .i64 M.clk.since,.bool M.clk.st,.int .i64 M.clk.ak,.int .i64 M.off.b0,.int .i64 M.off.b1,.int .i64 M.off.kY,.int .i64 M.off.kZ,.int .i64 M.off.l10,.int .i64 M.off.lq,.slice ra M.aQ.length rc] _ (DJ.out.box.mid 15 (by rfl)) Tryz.underlying89 (by rfl) (by kernel_rfl) ?_
 try simp only [Act.put,sS,sU,sV]
 refine wpList_plain (by rfl) (fun K hK=>?_)
 go_simp
 refine hK _ _ ?_
 clear hK K
 try simp only [Act.put,sS,sU,sV]
 refine uX ?_
 intro w1 e1
 have oJ:Hid (Box w1 bx [.slice none 0 0,.int .i64 0,.int .i64 0,.int .i64 0,.int .i64 0,.int .i64 0,.int .i64 0,.int .i64 0,.int .i64 0,.int .i64 0,.int .i64 0,.bool false,.int .i64 0,.int .i64 0,.int .i64 0,.int .i64 0,.int .i64 0,.int .i64 0,.int .i64 0,.slice none 0 0] 89):=hid (by rw [e1]; exact nR.out)
 have HB1:Hid (Below w.heap.size w w1):=hid (by rw [e1]; exact HB.out.alloc HB.out.size _)
 have A8:Hid (Box w1 w.heap.size [.slice none 0 0,.int .i64 0,.int .i64 0,.int .i64 0,.int .i64 0,.int .i64 0,.int .i64 0,.int .i64 0,.int .i64 0,.int .i64 0,.int .i64 0,.bool false,.int .i64 0,.int .i64 0,.int .i64 0,.int .i64 0,.int .i64 0,.int .i64 0,.int .i64 0,.slice none 0 0] 89):=hid (by rw [e1]; exact HX0.out.alloc _)
 have HMx:Hid (aY X S base w1 b _ _):=hid (HM.out.below HB1.out)
 have N9:Hid (w.heap.size≤bx∧w.heap.size≠bx):=hid ⟨by rw [hbx]; exact HB.out.size,by have:=HX0.out.lt; omega⟩
 rw [← hbx]
 clear e1 hbx nR HX0 HB DJ
 refine aK (vs:=[.slice none 0 0,.int .i64 M.res,.int .i64 M.reason,.int .i64 M.clk.l0,.int .i64 M.clk.l1,.int .i64 M.clk.m0,.int .i64 M.clk.m1,.int .i64 M.clk.p0,.int .i64 M.clk.p1,.int .i64 M.clk.turn,.int .i64 M.clk.since,.bool M.clk.st,.int .i64 M.clk.ak,.int .i64 M.off.b0,.int .i64 M.off.b1,.int .i64 M.off.kY,.int .i64 M.off.kZ,.int .i64 M.off.l10,.int .i64 M.off.lq,.slice ra M.aQ.length rc]) (by rfl) 89 (.tmp 3) (.tmp 7) (by rfl) bx (by rfl) (by rfl) oJ.out rfl (by kernel_rfl) (by rfl) ?_
 have DC:=hid (oJ.out.store (vs:=[.slice none 0 0,.int .i64 M.res,.int .i64 M.reason,.int .i64 M.clk.l0,.int .i64 M.clk.l1,.int .i64 M.clk.m0,.int .i64 M.clk.m1,.int .i64 M.clk.p0,.int .i64 M.clk.p1,.int .i64 M.clk.turn,.int .i64 M.clk.since,.bool M.clk.st,.int .i64 M.clk.ak,.int .i64 M.off.b0,.int .i64 M.off.b1,.int .i64 M.off.kY,.int .i64 M.off.kZ,.int .i64 M.off.l10,.int .i64 M.off.lq,.slice ra M.aQ.length rc]) rfl)
 have OZ:=hid (A8.out.Ci N9.out.2 0 [.slice none 0 0,.int .i64 M.res,.int .i64 M.reason,.int .i64 M.clk.l0,.int .i64 M.clk.l1,.int .i64 M.clk.m0,.int .i64 M.clk.m1,.int .i64 M.clk.p0,.int .i64 M.clk.p1,.int .i64 M.clk.turn,.int .i64 M.clk.since,.bool M.clk.st,.int .i64 M.clk.ak,.int .i64 M.off.b0,.int .i64 M.off.b1,.int .i64 M.off.kY,.int .i64 M.off.kZ,.int .i64 M.off.l10,.int .i64 M.off.lq,.slice ra M.aQ.length rc])
 have HB2:=hid (below_setCells HB1.out N9.out.1 0 [.slice none 0 0,.int .i64 M.res,.int .i64 M.reason,.int .i64 M.clk.l0,.int .i64 M.clk.l1,.int .i64 M.clk.m0,.int .i64 M.clk.m1,.int .i64 M.clk.p0,.int .i64 M.clk.p1,.int .i64 M.clk.turn,.int .i64 M.clk.since,.bool M.clk.st,.int .i64 M.clk.ak,.int .i64 M.off.b0,.int .i64 M.off.b1,.int .i64 M.off.kY,.int .i64 M.off.kZ,.int .i64 M.off.l10,.int .i64 M.off.lq,.slice ra M.aQ.length rc])
 have uS:=hid (HM.out.below HB2.out)
 generalize (w1.setCells bx 0 [.slice none 0 0,.int .i64 M.res,.int .i64 M.reason,.int .i64 M.clk.l0,.int .i64 M.clk.l1,.int .i64 M.clk.m0,.int .i64 M.clk.m1,.int .i64 M.clk.p0,.int .i64 M.clk.p1,.int .i64 M.clk.turn,.int .i64 M.clk.since,.bool M.clk.st,.int .i64 M.clk.ak,.int .i64 M.off.b0,.int .i64 M.off.b1,.int .i64 M.off.kY,.int .i64 M.off.kZ,.int .i64 M.off.l10,.int .i64 M.off.lq,.slice ra M.aQ.length rc])=w2 at *
 clear oJ A8 HB1 HMx
 go_upto_region 2 with (fail)
 generalize w2=wq at *
 have Mz:=uS.out.below (aP (Below.refl _ _))
 have Xz:=DC.out.drew
 have Oz:=OZ.out.drew
 have Lz:Below w.heap.size w wq.drew:=aP HB2.out
 have Vw:Hid (bx<wq.drew.heap.size):=hid Xz.lt
 have HBY:Hid (w.heap.size<wq.drew.heap.size):=hid Oz.lt
 obtain ⟨up,us,ue,vl,vm,rows,hg⟩:=Mz.game
 have Gz:=hg.plain
 clear uS DC OZ HB2 hg
 refine wp_region_noPanic ?_
 refine bU (S:=(fun w'=>w'.cell? ⟨b,14,none⟩=some (.pointer (some ⟨g,0,none⟩))∧w'.cell? ⟨b,34,none⟩=some (.slice ra M.aQ.length rc))) (L:=[]) (by kernel_rfl) ⟨Mz.box.cell 14 rfl,Mz.box.cell 34 rfl⟩ (fun hHeld=>?_)
 refine aJ 0 ?_
 refine aJ 5 ?_
 refine aJ 1 ?_
 refine aJ 6 ?_
 refine aJ 2 ?_
 refine aJ 7 ?_
 refine eH 3 ?_
 refine aJ 8 ?_
 refine eH 9 ?_
 refine gI 4 fun K hK=>?_
 go_simp
 refine (vZ _ Gz).mono ?_
 rintro e w4 ⟨vmv,rfl,ho4,hbb⟩
 obtain ⟨ma,mc,rfl⟩:=aH ho4
 have L4z:=hbb.size
 have M4:=Mz.below hbb
 have X4:=Xz.stays hbb
 have O4:=Oz.stays hbb
 have L4:=aj Lz hbb Lz.size
 have R4:=ho4
 clear hbb
 refine hK.out _ _ ⟨M4.box.cell 14 rfl,M4.box.cell 34 rfl⟩ (fun hHeld=>?_)
 clear hK K
 refine aJ 11 ?_
 refine gI 10 fun K hK=>?_
 go_simp
 refine (Lj _ M.aQ _ M4.fr.pr (by have:=HL.out; omega)).mono ?_
 rintro e w10 ⟨vpv,rfl,mW,hbb⟩
 obtain ⟨qa,qc,rfl⟩:=aH mW
 have M10:=M4.below hbb
 have X10:=X4.stays hbb
 have FZ:=O4.stays hbb
 have sZ:=aj L4 hbb L4.size
 have R10:=aU R4 hbb
 have Q10:=own_base mW L4z
 clear hbb
 refine hK.out _ _ ⟨M10.box.cell 14 rfl,M10.box.cell 34 rfl⟩ (fun hHeld=>?_)
 clear hK K
 refine gI 12 fun K hK=>?_
 have dd:=X10.cell 0 rfl
 have df:=X10.frozen 0
 go_simp
 refine bg ?_
 intro w12 e12
 clear dd df
 have X12:=X10.set 0 (.slice ma M.ms.length mc)
 have O12:=FZ.far ⟨bx,0,none⟩ (.slice ma M.ms.length mc) N9.out.2
 have Xp:=sZ.setCell (p:=⟨bx,0,none⟩) N9.out.1 (.slice ma M.ms.length mc)
 have R12:w12.ownsRow wq.drew.heap.size 68 3 (.slice ma M.ms.length mc) M.ms.length (bf M.ms):=by rw [e12]; exact aS R10 Vw.out 0 [.slice ma M.ms.length mc]
 have Q12:w12.ownsRow wq.drew.heap.size 173 4 (.slice qa M.aQ.length qc) M.aQ.length (jy M.aQ):=by rw [e12]; exact aS Q10 Vw.out 0 [.slice ma M.ms.length mc]
 rw [← e12] at X12 O12 Xp
 clear e12
 have M12:=ahv.out.below Xp
 have alA:Below w10.heap.size w10 w12∨True:=.inr trivial
 refine hK.out _ _ ⟨M12.box.cell 14 rfl,M12.box.cell 34 rfl⟩ (fun hHeld=>?_)
 clear hK K
 refine aJ 13 ?_
 refine gI 14 fun K hK=>?_
 have dd:=X12.cell 19 rfl
 have df:=X12.frozen 19
 go_simp
 refine bg ?_
 intro wV e14
 clear dd df
 have XM:=X12.set 19 (.slice qa M.aQ.length qc)
 have JO:=O12.far ⟨bx,19,none⟩ (.slice qa M.aQ.length qc) N9.out.2
 have LX:=Xp.setCell (p:=⟨bx,19,none⟩) N9.out.1 (.slice qa M.aQ.length qc)
 have R14:wV.ownsRow wq.drew.heap.size 68 3 (.slice ma M.ms.length mc) M.ms.length (bf M.ms):=by rw [e14]; exact aS R12 Vw.out 19 [.slice qa M.aQ.length qc]
 have ZK:wV.ownsRow wq.drew.heap.size 173 4 (.slice qa M.aQ.length qc) M.aQ.length (jy M.aQ):=by rw [e14]; exact aS Q12 Vw.out 19 [.slice qa M.aQ.length qc]
 rw [← e14] at XM JO LX
 clear e14
 have M14:=ahv.out.below LX
 have alB:Below w10.heap.size w10 wV∨True:=.inr trivial
 refine hK.out _ _ ⟨M14.box.cell 14 rfl,M14.box.cell 34 rfl⟩ (fun hHeld=>?_)
 clear hK K
 refine kW ?_
 have rG:=hid XM
 have QE:=hid JO
 have ZF:=hid LX
 have HR6:=hid R14
 have HQ6:=hid ZK
 clear XM JO LX M14 R14 ZK X12 O12 Xp M12 R12 Q12 X10 FZ sZ M10 R10 Q10 X4 O4 L4 M4 R4 ho4 mW Xz Oz Lz Mz Gz hHeld alA alB
 go_upto_region 3 with (fail)
 generalize wV=w7 at *
 refine wp_region_lit ?_
 refine aB (by rfl) 89 (.tmp 3) (by rfl) bx (by rfl) rG.out Tryz.underlying89 (by rfl) (by kernel_rfl) ?_
 refine aK (vs:=[.slice ma M.ms.length mc,.int .i64 M.res,.int .i64 M.reason,.int .i64 M.clk.l0,.int .i64 M.clk.l1,.int .i64 M.clk.m0,.int .i64 M.clk.m1,.int .i64 M.clk.p0,.int .i64 M.clk.p1,.int .i64 M.clk.turn,.int .i64 M.clk.since,.bool M.clk.st,.int .i64 M.clk.ak,.int .i64 M.off.b0,.int .i64 M.off.b1,.int .i64 M.off.kY,.int .i64 M.off.kZ,.int .i64 M.off.l10,.int .i64 M.off.lq,.slice qa M.aQ.length qc]) (by rfl) 89 (.tmp 2) (.tmp 21) (by rfl) w.heap.size (by rfl) (by rfl) QE.out rfl (by kernel_rfl) (by rfl) ?_
 have KE:=hid (QE.out.store (vs:=[.slice ma M.ms.length mc,.int .i64 M.res,.int .i64 M.reason,.int .i64 M.clk.l0,.int .i64 M.clk.l1,.int .i64 M.clk.m0,.int .i64 M.clk.m1,.int .i64 M.clk.p0,.int .i64 M.clk.p1,.int .i64 M.clk.turn,.int .i64 M.clk.since,.bool M.clk.st,.int .i64 M.clk.ak,.int .i64 M.off.b0,.int .i64 M.off.b1,.int .i64 M.off.kY,.int .i64 M.off.kZ,.int .i64 M.off.l10,.int .i64 M.off.lq,.slice qa M.aQ.length qc]) rfl)
 have HB7:=hid (below_setCells ZF.out (Nat.le_refl _) 0 [.slice ma M.ms.length mc,.int .i64 M.res,.int .i64 M.reason,.int .i64 M.clk.l0,.int .i64 M.clk.l1,.int .i64 M.clk.m0,.int .i64 M.clk.m1,.int .i64 M.clk.p0,.int .i64 M.clk.p1,.int .i64 M.clk.turn,.int .i64 M.clk.since,.bool M.clk.st,.int .i64 M.clk.ak,.int .i64 M.off.b0,.int .i64 M.off.b1,.int .i64 M.off.kY,.int .i64 M.off.kZ,.int .i64 M.off.l10,.int .i64 M.off.lq,.slice qa M.aQ.length qc])
 skip
 refine uX ?_
 intro w8 e8
 rw [← e8] at KE HB7
 have HR8:Hid (w8.ownsRow wq.drew.heap.size 68 3 (.slice ma M.ms.length mc) M.ms.length (bf M.ms)):=hid (by rw [e8]; exact aS HR6.out HBY.out 0 _)
 have HQ8:Hid (w8.ownsRow wq.drew.heap.size 173 4 (.slice qa M.aQ.length qc) M.aQ.length (jy M.aQ)):=hid (by rw [e8]; exact aS HQ6.out HBY.out 0 _)
 clear e8
 go_wp2_with fail
 exact bodyPost_ret (dD rfl (by rfl) KE.out Tryz.underlying89 (by rfl) (by kernel_rfl)) rfl ⟨_,_,_,_,rfl,own_base HR8.out (Nat.le_of_lt HBY.out),own_base HQ8.out (Nat.le_of_lt HBY.out),HB7.out⟩
end Go.Proofs.YteablcielclaeaaGreatDoor
namespace Go.Proofs.YteablcielclaeaaGreatDoor
open Go.ChangeShapes Go.WideShapes Go.ChangeAt Go.RowKit
set_option linter.unusedVariables false
open Go.Lib (hid)
variable {S:Nat→Prop} {base b:Nat} {M:aO} {B:mg}
def MG:El (Int×Int) where
 k:=2
 E:=fun _ x cs=>cs=[.int .i64 x.1,.int .i64 x.2]
 mono:=fun h _ _=>h
 len:=fun h=>by subst h; rfl
theorem aa6 {w:World} {A:Option Addr} {n pc:Nat} {ps:List (Int×Int)} (h:clk.eF w w.heap.size A n ps) (h1:n≤pc) (h2:pc≤maxLen):iQ MG w (.slice A n pc) ps:=by
 have hl:=h.1
 rcases Nat.eq_zero_or_pos n with h0 | h0
 ·subst h0
  exact .inl ⟨A,pc,rfl,h2,hl⟩
 ·obtain ⟨b,off,rfl,hlt,hc⟩:=h.2 h0
  refine .inr ⟨b,off,pc,by rw [hl],by omega,h2,hlt,fun i hi=>⟨_,rfl,fun j hj=>?_⟩⟩
  have hc':=hc i (by omega)
  rw [List.getD_eq_getElem?_getD,List.getElem?_eq_getElem hi,Option.getD_some] at hc'
  have hj2:j=0∨j=1:=by have:j<2:=hj; omega
  rcases hj2 with rfl | rfl
  ·exact hc'.1
  ·exact hc'.2
theorem aa7 {w:World} {A:Option Addr} {n pc:Nat} {ps:List (Int×Int)} (h:iQ MG w (.slice A n pc) ps):clk.eF w w.heap.size A ps.length ps:=by
 refine ⟨rfl,fun h0=>?_⟩
 obtain ⟨g,o,rfl,hg,hc⟩:=h.some h0
 refine ⟨g,o,rfl,hg,fun k hk=>?_⟩
 obtain ⟨cs,rfl,hcell⟩:=hc k hk
 rw [List.getD_eq_getElem?_getD,List.getElem?_eq_getElem hk,Option.getD_some]
 have c0:=hcell 0 (by show 0<2; omega)
 have c1:=hcell 1 (by show 1<2; omega)
 exact ⟨c0,c1⟩
theorem XV:(Tryz.prog.info? 141).map (fun i=>(i.zero,i.size,i.bytes))=some (some (.agg #[.int .i64 0,.int .i64 0]),2,16):=by kernel_rfl
theorem Uh {α:Type} (el:El α) (hk:el.k=2) (h1:∀ (w:World) (x:α) (cs:List Value),el.E w x cs→∀ u∈cs,u.oneCell'=true) (v:Value) (xs:List α) (w:World) (h:iQ el w v xs) (hl:xs.length≤1000000) :
  Calls Tryz.prog 83 #[v] w (jw el 141 xs w):=by
 obtain ⟨i0,hi,hz0,hz1,hz2⟩:=nI XV
 have hq:=fun (w:World) (a:Option Addr) (n c:Nat)=>Lib.run_eql_slice_nil (P:=Tryz.prog) w 63 141 a n c 0 0 Tryz.underlying63
 have hown0:(w.alloc (.cells #[] 141)).ownsRow w.heap.size 141 2 (.slice (some ⟨w.heap.size,0,none⟩) 0 0) 0 []:=World.ownsRow_made w #[] 0 (Nat.le_refl _) (by unfold maxLen; omega) rfl
 obtain ⟨a,n,c,vs,rfl,hn,hvl,hone,hE,hcell⟩:=qJ h1 h
 rw [hk] at hvl
 have HR:=hid hE
 cases a with
 | none =>
  have hn0:n=0:=hcell.1 rfl
  subst hn0
  obtain rfl:xs=[]:=List.length_eq_zero_iff.1 hn.symm
  clear h hl hE hcell hown0 hn hvl hone HR hi hz0 hz1 hz2
  go_enter Tryz.func83,Tryz.ntmps83
  go_wp2
  go_ret
  exact ⟨_,[],rfl,World.ownsRow_nil _ _ _ _,(fun i hi=>by cases hi),Below.refl _ _⟩
 | some ad =>
  have hnews:∀ j u,vs[j]?=some u→(w.alloc (.cells #[] 141)).cell? (ad.add j)=some u:=fun j u hu=>by
   have hc:=hcell.2 ad rfl j u hu
   rw [World.cell?_of_block (w:=w) (a:=ad.add j) (Below.heap_alloc w _ _ (World.block_lt_of_cell? w _ hc))]
   exact hc
  have qy:=hid hown0
  have qA:=hid hnews
  have SL:=hid hvl
  have Iz:=hid hone
  have hnl:n≤1000000:=by omega
  have HN:=hid hn
  clear hown0 hnews hcell h hE hvl hone hl hn
  go_enter Tryz.func83,Tryz.ntmps83
  go_wp2_with (at_builtin; refine wpList_append_own _ rfl _ _ 63 rfl w.heap.size 141 i0 (.agg #[.int .i64 0,.int .i64 0]) 2 16 Tryz.underlying63 hi hz0 hz1 hz2 rfl (by decide) _ 0 [] rfl qy.out ad n c vs rfl SL.out qA.out Iz.out ?c3 ?c4 ?c5 ?_)
  case c3=>unfold maxLen; omega
  case c4=>omega
  case c5=>simp
  intro v' w2 hown' hgrow _
  try simp only [Nat.zero_add,List.nil_append] at hown'
  have hb:Below w.heap.size w w2:=Below.grown ((Below.refl _ w).alloc (Nat.le_refl _) _) hgrow (by simp) (fun q hq=>by simp [Value.ownBlock] at hq; omega)
  have HO:=hid hown'
  have HB:=hid hb
  clear hown' hgrow hb
  go_wp2
  go_ret
  exact ⟨v',vs,rfl,by rw [← HN.out,hk]; exact HO.out,fun i hi=>el.mono (HR.out i hi) HB.out (Nat.le_refl _),HB.out⟩
def Ui (CR:sK) (w:World) (e:Ending) (w':World):Prop:=∃ pa' pc' vs,e=.returned (.agg #[.slice pa' CR.ps.length pc',.int .i64 CR.inc,.int .i64 CR.delay])∧w'.ownsRow w.heap.size 141 2 (.slice pa' CR.ps.length pc') CR.ps.length vs∧iQ MG w' (.slice pa' CR.ps.length pc') CR.ps∧Below w.heap.size w w'
set_option maxRecDepth 100000 in
set_option maxHeartbeats 4000000 in
theorem Uj (CR:sK) (pa:Option Addr) (pc:Nat) (w:World) (hp:clk.eF w w.heap.size pa CR.ps.length CR.ps) (h1:CR.ps.length≤pc) (h2:pc≤maxLen) (hl:CR.ps.length≤1000) :
  Calls Tryz.prog 43 #[.agg #[.slice pa CR.ps.length pc,.int .i64 CR.inc,.int .i64 CR.delay]] w (Ui CR w):=by
 have HR:=hid (aa6 hp h1 h2)
 have HL:=hid hl
 clear hp hl
 go_enter Tryz.func43,Tryz.ntmps43
 go_upto_region 1 with (fail)
 refine vJ fun w0 uo QT fG hs_=>?_
 have HX0:=hid uo
 have nR:=hid QT
 have HB:=hid fG
 clear hs_ uo QT fG
 have c0:=HX0.out.cell 0 rfl
 have HCl:=hid (Uh MG rfl (fun w x cs h u hu=>by subst h; simp at hu; rcases hu with rfl | rfl <;> rfl) _ CR.ps w0 (HR.out.below HB.out (Nat.le_refl _)) (by have:=HL.out; omega))
 have hs0:w.heap.size+1<w0.heap.size:=nR.out.lt
 go_wp2_with fail
 refine HCl.out.mono ?_
 rintro e w1 ⟨v,vs,rfl,hown,hE,hb1⟩
 have I4:=hid (HX0.out.stays hb1)
 have gB:=hid (nR.out.stays hb1)
 have HB1:=hid (HB.out.trans (hb1.mono HB.out.size))
 obtain ⟨pa',pc',hv⟩:=aH hown
 subst hv
 have jR:Hid (∀ (w:World) i (h:i<CR.ps.length),MG.E w CR.ps[i] ((vs.drop (i * 2)).take 2)):=hid fun _=>hE
 have HO:=hid hown
 have c1:=I4.out.cell 0 rfl
 have f1:=I4.out.frozen 0
 clear hown hE hb1 c0
 go_upto_region 2 with (fail)
 have oJ:=hid (I4.out.set 0 (.slice pa' CR.ps.length pc'))
 have A8:=hid (gB.out.far ⟨w.heap.size,0,none⟩ (.slice pa' CR.ps.length pc') (by show w.heap.size+1≠w.heap.size; omega))
 have ET:Hid ((w1.setCell ⟨w.heap.size,0,none⟩ (.slice pa' CR.ps.length pc')).ownsRow w0.heap.size 141 2 (.slice pa' CR.ps.length pc') CR.ps.length vs):=hid (aS HO.out (b:=w.heap.size) (by omega) 0 [.slice pa' CR.ps.length pc'])
 have HB2:Hid (Below w.heap.size w (w1.setCell ⟨w.heap.size,0,none⟩ (.slice pa' CR.ps.length pc'))):=hid (HB1.out.setCell (Nat.le_refl _) _)
 generalize w1.setCell ⟨w.heap.size,0,none⟩ (.slice pa' CR.ps.length pc')=w2 at *
 refine wp_region_lit ?_
 refine aB (cs:=[.slice pa' CR.ps.length pc',.int .i64 CR.inc,.int .i64 CR.delay]) (by rfl) 65 (.tmp 1) (by rfl) w.heap.size (by rfl) oJ.out Tryz.underlying65 (by rfl) (by kernel_rfl) ?_
 refine aK (vs:=[.slice pa' CR.ps.length pc',.int .i64 CR.inc,.int .i64 CR.delay]) (by rfl) 65 (.tmp 2) (.tmp 7) (by rfl) (w.heap.size+1) (by rfl) (by rfl) A8.out (by rfl) (by kernel_rfl) (by rfl) ?_
 have HS:=hid (A8.out.store (vs:=[.slice pa' CR.ps.length pc',.int .i64 CR.inc,.int .i64 CR.delay]) rfl)
 have Io:=hid (below_setCells HB2.out (Nat.le_succ _) 0 [.slice pa' CR.ps.length pc',.int .i64 CR.inc,.int .i64 CR.delay])
 have HOf:=hid (aS ET.out (b:=w.heap.size+1) hs0 0 [.slice pa' CR.ps.length pc',.int .i64 CR.inc,.int .i64 CR.delay])
 generalize w2.setCells (w.heap.size+1) 0 [.slice pa' CR.ps.length pc',.int .i64 CR.inc,.int .i64 CR.delay]=wf at *
 go_wp2_with fail
 exact bodyPost_ret (dD rfl (by rfl) HS.out Tryz.underlying65 (by rfl) (by kernel_rfl)) rfl ⟨pa',pc',vs,rfl,own_base HOf.out (by omega),iQ.dL HOf.out (fun i h=>jR.out wf i h),Io.out⟩
end Go.Proofs.YteablcielclaeaaGreatDoor
namespace Go.Proofs.YteablcielclaeaaGreatDoor
open Go.ChangeShapes Go.WideShapes Go.ChangeAt Go.RowKit
set_option linter.unusedVariables false
variable {S:Nat→Prop} {base b:Nat} {M:aO} {B:mg}
end Go.Proofs.YteablcielclaeaaGreatDoor
namespace Go.Proofs.YteablcielclaeaaGreatDoor
open Go.ChangeShapes Go.WideShapes Go.ChangeAt Go.RowKit
set_option linter.unusedVariables false
variable {S:Nat→Prop} {base b:Nat} {M:aO} {B:mg}
def iw:sK:=⟨[(0,60000)],1000,0⟩
end Go.Proofs.YteablcielclaeaaGreatDoor
namespace Go.Proofs.YteablcielclaeaaGreatDoor
open Go.ChangeShapes Go.WideShapes Go.ChangeAt Go.RowKit
set_option linter.unusedVariables false
open Go.Lib (hid)
variable {X S:Nat→Prop} {base b:Nat} {M:aO} {B:mg}
theorem DX (now:Int) (h0 : -9223372036854775808≤now) (h1:now≤9223372036854775807):textE (oC now)=0∧(oC now).size≤200:=by
 have hl:=IY now h0 h1
 have hle:(([115,116,97,114,116,32]:List UInt8)++Lib.itoa now).length≤200:=by simp; omega
 refine ⟨DT _ hle (fun c hc=>?_),?_⟩
 ·rcases List.mem_append.1 hc with h | h
  ·simp only [List.mem_cons,List.not_mem_nil,or_false] at h
   rcases h with rfl | rfl | rfl | rfl | rfl | rfl <;> exact ⟨by decide,by decide⟩
  ·exact XT now c h
 ·show (([115,116,97,114,116,32]:List UInt8)++Lib.itoa now).toArray.size≤200
  rw [List.size_toArray]; exact hle
def I7 (R:au) (CR:sK):Prop:=¬ (aF R=0∧clk.dB CR.ps.length CR.inc CR.delay CR.ps)
def Gl (X:Nat→Prop) (R:au) (CR:sK) (now:Int) (w:World) (e:Ending) (w':World):Prop:=
 (∃ c:Int,(c≠0∧I7 R CR)∧e=.returned (.tuple #[.pointer none,.int .i64 c])∧Below w.heap.size w w') ∨
 (aF R=0∧BD CR∧∃ base S b B,e=.returned (.tuple #[.pointer (some ⟨b,0,none⟩),.int .i64 0])∧aY X S base w' b (mQ R CR now) B∧w.heap.size≤base∧base≤w'.heap.size∧Below w.heap.size w w')
theorem Uk {w w':World} {bb n sz:Nat} {e:TypeId} {v:Value} {xs:List Value} (h:w.ownsRow bb e sz v n xs) (hb:∀ k,v.ownBlock=some k→w'.heap[k]?=w.heap[k]?):w'.ownsRow bb e sz v n xs:=by
 refine ⟨h.1,?_⟩
 rcases h.2 with h0 | ⟨g,c,cur,hv,hg,hbk,r⟩
 ·exact .inl h0
 ·exact .inr ⟨g,c,cur,hv,hg,by rw [hb g (by rw [hv]; rfl)]; exact hbk,r⟩
set_option maxRecDepth 100000 in
set_option maxHeartbeats 8000000 in
theorem Ul (X:Nat→Prop) (HSo:SortMvSaid) (HI:ItoaSaid) (R:au) (CR:sK) (vp vs ve:Value) (pa:Option Addr) (pc:Nat) (now:Int) (w:World) (hr:qo w R vp vs ve) (hnm:R.name.size≤maxLen) (hp:clk.eF w w.heap.size pa CR.ps.length CR.ps) (h1:CR.ps.length≤pc) (h2:pc≤maxLen) (h0:0≤now) (hn8:now≤100000000) (ht:Tab w.heap.size w) (hX:∀ k,X k→k<w.heap.size) :
  Calls Tryz.prog 13 #[.agg #[.string R.name,.int .i64 R.width,.int .i64 R.height,vp,vs,.bool R.falls,.bool R.keeps,ve,.int .i64 R.blocked,.int .i64 R.quiet,.int .i64 R.aZ],.agg #[.slice pa CR.ps.length pc,.int .i64 CR.inc,.int .i64 CR.delay],.int .i64 now] w (Gl X R CR now w):=by
 have HS:=hid HSo
 have HIt:=hid HI
 have HR:=hid hr
 have JZ:=hid hnm
 have HP:=hid hp
 have kL:=hid (And.intro h1 h2)
 have E5:=hid ht
 have HXo:=hid hX
 clear HSo HI hr hnm hp h1 h2 ht hX
 go_enter Tryz.func13,Tryz.ntmps13
 go_upto_region 1 with (fail)
 refine vJ fun w0 uo QT fG hs_=>?_
 have HX0:=hid uo
 have nR:=hid QT
 have HB:=hid fG
 have HW0:Hid (w0.heap.size=w.heap.size+2):=hid (by omega)
 clear hs_ uo QT fG
 have HN:=hid (gx.BF R vp vs ve w0 (HR.out.below HB.out (Nat.le_refl _)) JZ.out)
 refine wp_region_lit ?_
 refine aB (by rfl) 61 (.tmp 3) (by rfl) (w.heap.size) (by rfl) HX0.out Tryz.underlying61 (by rfl) (by kernel_rfl) ?_
 go_wp2_with fail
 refine HN.out.mono ?_
 rintro e w1 (⟨hre,rfl,hb1⟩ | ⟨hre,S,g,gp,gs,ge,vl,vm,rows,rfl,acX,hb1⟩)
 ·have HB1:=hid (HB.out.trans (hb1.mono HB.out.size))
  have HE:=hid hre
  have N9:Hid (I7 R CR):=hid (fun hc=>hre hc.1)
  have ari:(aF R != 0)=true:=by simpa using hre
  generalize aF R=er at *
  clear hre hb1
  go_wp2_with fail
  go_ret2
  exact .inl ⟨er,⟨HE.out,N9.out⟩,rfl,HB1.out⟩
 have HB1:=hid (HB.out.trans (hb1.mono HB.out.size))
 have I4:=hid (HX0.out.stays hb1)
 have gB:=hid (nR.out.stays hb1)
 have N8:=hid acX
 have QN:=hid hre
 have sJ:=hid (Uf CR pa pc now w1 (HP.out.below HB1.out) (by have:=kL.out; omega) h0 hn8)
 clear hb1 acX hre HN
 go_upto_region 4 with (fail)
 refine wp_region_lit ?_
 refine aB (by rfl) 65 (.tmp 4) (by rfl) (w.heap.size+1) (by rfl) gB.out Tryz.underlying65 (by rfl) (by kernel_rfl) ?_
 try simp only [Act.put,sS,sU,sV]
 refine wpList_plain (by rfl) (fun K hK=>?_)
 go_simp
 refine hK _ _ ?_
 clear hK K
 try simp only [Act.put,sS,sU,sV]
 refine wpList_plain (by rfl) (fun K hK=>?_)
 go_simp
 refine sJ.out.mono ?_
 rintro e w2 (⟨c,⟨hcz,hnr⟩,rfl,hb2⟩ | ⟨hcg,rfl,hb2⟩)
 ·have HB2:=hid (HB1.out.trans (hb2.mono HB1.out.size))
  have HE:=hid hcz
  have N9:Hid (I7 R CR):=hid (fun hc=>hnr hc.2)
  clear hnr
  have hcb:(c != 0)=true:=by simpa using hcz
  clear hcz hb2
  refine hK _ _ ?_
  clear hK K
  try simp only [Act.put,sS,sU,sV]
  refine wpList_plain (by rfl) (fun K hK=>?_)
  go_simp
  refine hK _ _ ?_
  clear hK K
  try simp only [Act.put,sS,sU,sV]
  refine wpList_plain (by rfl) (fun K hK=>?_)
  go_simp
  refine hK _ _ ?_
  clear hK K
  try simp only [Act.put,sS,sU,sV]
  refine wpList_plain (by rfl) (fun K hK=>?_)
  go_simp
  refine hK _ _ ?_
  clear hK K
  try simp only [Act.put,sS,sU,sV]
  refine wpList_plain (by rfl) (fun K hK=>?_)
  go_simp
  refine hK _ _ ?_
  clear hK K
  try simp only [Act.put,sS,sU,sV]
  refine uX ?_
  intro w3 e3
  have A8:Hid (Box w3 w2.heap.size [.int .i64 0,.int .i64 0,.int .i64 0,.int .i64 0,.int .i64 0,.int .i64 0,.int .i64 0,.int .i64 0,.bool false,.int .i64 0] 83):=hid (by rw [e3]; exact Box.new' _ _ _ _ rfl)
  have HB3:Hid (Below w.heap.size w w3):=hid (by rw [e3]; exact HB2.out.alloc HB2.out.size _)
  clear e3
  refine aK (vs:=[.int .i64 0,.int .i64 0,.int .i64 0,.int .i64 0,.int .i64 0,.int .i64 0,.int .i64 0,.int .i64 0,.bool false,.int .i64 0]) (by rfl) 83 (.tmp 10) (.tmp 24) (by rfl) w2.heap.size (by rfl) (by rfl) A8.out (by rfl) (by kernel_rfl) (by rfl) ?_
  have HB4:=hid (below_setCells HB3.out HB2.out.size 0 [.int .i64 0,.int .i64 0,.int .i64 0,.int .i64 0,.int .i64 0,.int .i64 0,.int .i64 0,.int .i64 0,.bool false,.int .i64 0])
  generalize w3.setCells w2.heap.size 0 [.int .i64 0,.int .i64 0,.int .i64 0,.int .i64 0,.int .i64 0,.int .i64 0,.int .i64 0,.int .i64 0,.bool false,.int .i64 0]=w4 at *
  go_wp2_with fail
  go_ret2
  exact .inl ⟨c,⟨HE.out,N9.out⟩,rfl,HB4.out⟩
 have HB2:=hid (HB1.out.trans (hb2.mono HB1.out.size))
 have HCG:=hid hcg
 have alD:=hid (I4.out.stays hb2)
 have alE:=hid (gB.out.stays hb2)
 have Hb2:=hid hb2
 clear hcg hb2 sJ
 refine hK _ _ ?_
 clear hK K
 unfold IU
 try simp only [Act.put,sS,sU,sV]
 refine wpList_plain (by rfl) (fun K hK=>?_)
 go_simp
 refine hK _ _ ?_
 clear hK K
 try simp only [Act.put,sS,sU,sV]
 refine wpList_plain (by rfl) (fun K hK=>?_)
 go_simp
 refine hK _ _ ?_
 clear hK K
 try simp only [Act.put,sS,sU,sV]
 refine wpList_plain (by rfl) (fun K hK=>?_)
 go_simp
 refine hK _ _ ?_
 clear hK K
 try simp only [Act.put,sS,sU,sV]
 refine wpList_plain (by rfl) (fun K hK=>?_)
 go_simp
 refine hK _ _ ?_
 clear hK K
 try simp only [Act.put,sS,sU,sV]
 refine uX ?_
 intro w3 e3
 have A8:Hid (Box w3 w2.heap.size [.int .i64 0,.int .i64 0,.int .i64 0,.int .i64 0,.int .i64 0,.int .i64 0,.int .i64 0,.int .i64 0,.bool false,.int .i64 0] 83):=hid (by rw [e3]; exact Box.new' _ _ _ _ rfl)
 have alF:Hid (Below w2.heap.size w2 w3):=hid (by rw [e3]; exact (Below.refl _ _).alloc (Nat.le_refl _) _)
 have Hb3:Hid (Below w1.heap.size w1 w3):=hid (by rw [e3]; exact Hb2.out.alloc Hb2.out.size _)
 clear e3
 refine aK (vs:=[.int .i64 (aN CR now).l0,.int .i64 (aN CR now).l1,.int .i64 (aN CR now).m0,.int .i64 (aN CR now).m1,.int .i64 (aN CR now).p0,.int .i64 (aN CR now).p1,.int .i64 (aN CR now).turn,.int .i64 (aN CR now).since,.bool (aN CR now).st,.int .i64 (aN CR now).ak]) (by rfl) 83 (.tmp 10) (.tmp 24) (by rfl) w2.heap.size (by rfl) (by rfl) A8.out (by rfl) (by kernel_rfl) (by rfl) ?_
 have HXc:=hid (A8.out.store (vs:=[.int .i64 (aN CR now).l0,.int .i64 (aN CR now).l1,.int .i64 (aN CR now).m0,.int .i64 (aN CR now).m1,.int .i64 (aN CR now).p0,.int .i64 (aN CR now).p1,.int .i64 (aN CR now).turn,.int .i64 (aN CR now).since,.bool (aN CR now).st,.int .i64 (aN CR now).ak]) rfl)
 have Hb4:=hid (below_setCells Hb3.out Hb2.out.size 0 [.int .i64 (aN CR now).l0,.int .i64 (aN CR now).l1,.int .i64 (aN CR now).m0,.int .i64 (aN CR now).m1,.int .i64 (aN CR now).p0,.int .i64 (aN CR now).p1,.int .i64 (aN CR now).turn,.int .i64 (aN CR now).since,.bool (aN CR now).st,.int .i64 (aN CR now).ak])
 have ahy:Hid (Below w2.heap.size w2 (w3.setCells w2.heap.size 0 [.int .i64 (aN CR now).l0,.int .i64 (aN CR now).l1,.int .i64 (aN CR now).m0,.int .i64 (aN CR now).m1,.int .i64 (aN CR now).p0,.int .i64 (aN CR now).p1,.int .i64 (aN CR now).turn,.int .i64 (aN CR now).since,.bool (aN CR now).st,.int .i64 (aN CR now).ak])):=hid (below_setCells alF.out (Nat.le_refl _) 0 [.int .i64 (aN CR now).l0,.int .i64 (aN CR now).l1,.int .i64 (aN CR now).m0,.int .i64 (aN CR now).m1,.int .i64 (aN CR now).p0,.int .i64 (aN CR now).p1,.int .i64 (aN CR now).turn,.int .i64 (aN CR now).since,.bool (aN CR now).st,.int .i64 (aN CR now).ak])
 generalize w3.setCells w2.heap.size 0 [.int .i64 (aN CR now).l0,.int .i64 (aN CR now).l1,.int .i64 (aN CR now).m0,.int .i64 (aN CR now).m1,.int .i64 (aN CR now).p0,.int .i64 (aN CR now).p1,.int .i64 (aN CR now).turn,.int .i64 (aN CR now).since,.bool (aN CR now).st,.int .i64 (aN CR now).ak]=w4 at *
 have alG:=hid (alD.out.stays ahy.out)
 have alH:=hid (alE.out.stays ahy.out)
 go_upto_region 7 with (fail)
 have HB4:=hid (HB1.out.trans (Hb4.out.mono HB1.out.size))
 have hrk:=Ie QN.out
 have hl1:R.pieces.length≤1000:=by have:=hrk.np; omega
 have hl2:R.start.length≤1000:=by have:=Cm QN.out; omega
 have hl3:R.ends.length≤1000:=by have:=hrk.en; omega
 have HWL:Hid (∀ i,i<R.pieces.length→(R.pieces.getD i default).ways.length≤1000):=hid (fun i hi=>by have:=(hrk.pc i hi).2.2.1; omega)
 have Bz:Box w4.drew w.heap.size [.string R.name,.int .i64 R.width,.int .i64 R.height,vp,vs,.bool R.falls,.bool R.keeps,ve,.int .i64 R.blocked,.int .i64 R.quiet,.int .i64 R.aZ] 61:=alG.out.drew
 have Cz:Box w4.drew (w.heap.size+1) [.slice pa CR.ps.length pc,.int .i64 CR.inc,.int .i64 CR.delay] 65:=alH.out.drew
 have Lz:Below w4.drew.heap.size w4.drew w4.drew:=Below.refl _ _
 refine wp_region_noPanic ?_
 refine bU (S:=(fun w'=>w'.cell? ⟨w.heap.size,0,none⟩=some (.string R.name)∧w'.cell? ⟨w.heap.size,1,none⟩=some (.int .i64 R.width)∧w'.cell? ⟨w.heap.size,2,none⟩=some (.int .i64 R.height)∧w'.cell? ⟨w.heap.size,3,none⟩=some vp∧w'.cell? ⟨w.heap.size,4,none⟩=some vs∧w'.cell? ⟨w.heap.size,5,none⟩=some (.bool R.falls)∧w'.cell? ⟨w.heap.size,6,none⟩=some (.bool R.keeps)∧w'.cell? ⟨w.heap.size,7,none⟩=some ve∧w'.cell? ⟨w.heap.size,8,none⟩=some (.int .i64 R.blocked)∧w'.cell? ⟨w.heap.size,9,none⟩=some (.int .i64 R.quiet)∧w'.cell? ⟨w.heap.size,10,none⟩=some (.int .i64 R.aZ)∧w'.cell? ⟨w.heap.size+1,0,none⟩=some (.slice pa CR.ps.length pc)∧w'.cell? ⟨w.heap.size+1,1,none⟩=some (.int .i64 CR.inc)∧w'.cell? ⟨w.heap.size+1,2,none⟩=some (.int .i64 CR.delay))) (L:=[]) (by kernel_rfl) (by and_intros <;> first | exact Bz.cell _ rfl | exact Cz.cell _ rfl) (fun hHeld=>?_)
 refine eH 0 ?_
 refine eH 2 ?_
 refine aJ 4 ?_
 refine aJ 5 ?_
 refine gI 1 fun K hK=>?_
 go_simp
 refine (zH R vp vs ve w4.drew (HR.out.below HB4.out.drew (Nat.le_refl _)) hl1 hl2 hl3 HWL.out).mono ?_
 rintro e wa ⟨up,us,ue,rfl,acY,hbb⟩
 have ahz:=hid acY
 have Hba:=hid hbb
 have B1:=Bz.stays hbb
 have C1:=Cz.stays hbb
 have L1:=aj Lz hbb Lz.size
 clear hbb acY
 refine hK.out _ _ (by and_intros <;> first | exact B1.cell _ rfl | exact C1.cell _ rfl) (fun hHeld=>?_)
 clear hK K
 refine gI 3 fun K hK=>?_
 go_simp
 refine (Uj CR pa pc wa (HP.out.below (HB4.out.drew.trans (Hba.out.mono HB4.out.drew.size))) kL.out.1 kL.out.2 (by have:=HCG.out.n; omega)).mono ?_
 rintro e wb ⟨pa',pc',vs',rfl,hown,hrd,hbb⟩
 have HOw:=hid hown
 have HRl:=hid hrd
 have aa9:=hid hbb
 have ahA:CR.ps.length≤pc'∧pc'≤maxLen:=by obtain ⟨a9,c9,e9,q1,q2⟩:=hrd.form; simp only [Value.slice.injEq,true_and] at e9; omega
 have alI:=hid ahA
 have B3:=B1.stays hbb
 have C3:=C1.stays hbb
 have L3:=aj L1 hbb L1.size
 clear hbb hown hrd ahA
 refine hK.out _ _ (by and_intros <;> first | exact B3.cell _ rfl | exact C3.cell _ rfl) (fun hHeld=>?_)
 clear hK K
 refine aJ 6 ?_
 refine gI 7 fun K hK=>?_
 go_simp
 refine bg ?_
 intro wc ec
 have hbb:Below wb.heap.size wb wc:=by rw [ec]; exact (Below.refl _ _).alloc (Nat.le_refl _) _
 have HXm:=hid (show Box wc wb.heap.size _ 130 by rw [ec]; exact Box.new' _ _ _ _ rfl)
 have Hbc:=hid hbb
 have B7:=B3.stays hbb
 have C7:=C3.stays hbb
 have L7:=aj L3 hbb L3.size
 clear hbb ec
 refine hK.out _ _ (by and_intros <;> first | exact B7.cell _ rfl | exact C7.cell _ rfl) (fun hHeld=>?_)
 clear hK K
 refine aJ 8 ?_
 refine kW ?_
 go_upto_region 8 with (fail)
 have hs1:=Hb4.out.size
 have hs2:w4.heap.size≤wa.heap.size:=Hba.out.size
 have hs3:=aa9.out.size
 have hs4:=Hbc.out.size
 have hbm:=HXm.out.lt
 have H1c:Hid (Below w1.heap.size w1 wc):=hid ((Hb4.out.drew.trans (Hba.out.mono hs1)).trans ((aa9.out.mono (by omega)).trans (Hbc.out.mono (by omega))))
 have XW:∀ k,S k→k<w1.heap.size:=fun k hk=>((N8.out (fun _=>False) (fun _ h=>h.elim)).lo k hk).2
 have aef:∀ k,S k→w0.heap.size≤k:=fun k hk=>((N8.out (fun _=>False) (fun _ h=>h.elim)).lo k hk).1
 have HMa:Hid (aY X S w0.heap.size wc wb.heap.size ⟨R,CR,[],0,0,⟨0,0,0,0,0,0,0,0,false,0⟩,⟨0,0,0,0,0,0⟩,[],now,[]⟩ ⟨up,us,ue,pa',pc',g,.slice none 0 0,.slice none 0 0⟩):=hid ⟨HXm.out,fun hk=>by have:=XW _ hk; omega,by have:=HB1.out.size; have:=HW0.out; have:=(N8.out (fun _=>False) (fun _ h=>h.elim)); have:=aef _ this.sb; have:=XW _ (N8.out (fun _=>False) (fun _ h=>h.elim)).sb; omega,
  ⟨_,_,_,_,_,_,(N8.out (out1 X wb.heap.size) (fun k hk=>by rcases hk with hk | hk; (right; rw [hk]; omega); (left; have:=HXo.out k hk; have:=HW0.out; omega))).below H1c.out⟩,fun w' hw=>by
   have WZ:∀ k,w4.heap.size≤k→k<wb.heap.size→w'.heap[k]?=wb.heap[k]?:=fun k hk1 hk2=>by
    rw [hw.block k (by omega) (fun h=>by rcases h with h | h; exact absurd (XW k h) (by omega); (rcases h with h | h; exact absurd h (by omega); have:=HXo.out k h; have:=HW0.out; have:=HB1.out.size; omega)),Hbc.out.block k hk2]
   refine ⟨ahz.out w' (fun k hk1 hk2=>?_),⟨rfl,fun hn=>?_⟩,alI.out,iQ.nil _ _,Rd.nil _ _⟩
   ·rw [WZ k hk1 (by omega),aa9.out.block k hk2]
   ·obtain ⟨b',off,hA,hlt,hc⟩:=(aa7 HRl.out).2 hn
    subst hA
    have hbl:=HOw.out.lt b' rfl
    have he:=WZ b' (by omega) hbl.2
    refine ⟨b',off,rfl,by have:=hw.size; omega,fun k hk=>?_⟩
    rw [World.cell?_of_block (w:=wb) (a:=⟨b',off+k * 2,none⟩) he,World.cell?_of_block (w:=wb) (a:=⟨b',off+k * 2+1,none⟩) he]
    exact hc k hk,fun k hk=>⟨fun h=>by have:=aef k h; have:=HXo.out k hk; have:=HW0.out; omega,by have:=HXo.out k hk; have:=HB1.out.size; omega⟩⟩
 have H4c:Hid (Below w4.heap.size w4 wc):=hid (((Below.refl w4.heap.size w4).drew.trans (Hba.out.mono (Nat.le_refl _))).trans ((aa9.out.mono (by omega)).trans (Hbc.out.mono (by omega))))
 have Kz:Box wc.drew w2.heap.size [.int .i64 (aN CR now).l0,.int .i64 (aN CR now).l1,.int .i64 (aN CR now).m0,.int .i64 (aN CR now).m1,.int .i64 (aN CR now).p0,.int .i64 (aN CR now).p1,.int .i64 (aN CR now).turn,.int .i64 (aN CR now).since,.bool (aN CR now).st,.int .i64 (aN CR now).ak] 83:=(HXc.out.stays H4c.out).drew
 have Mz:=HMa.out.below ((Below.refl wc.heap.size wc).drew)
 refine wp_region_noPanic ?_
 refine bU (S:=(fun w'=>w'.cell? ⟨w2.heap.size,0,none⟩=some (.int .i64 (aN CR now).l0)∧w'.cell? ⟨w2.heap.size,1,none⟩=some (.int .i64 (aN CR now).l1)∧w'.cell? ⟨w2.heap.size,2,none⟩=some (.int .i64 (aN CR now).m0)∧w'.cell? ⟨w2.heap.size,3,none⟩=some (.int .i64 (aN CR now).m1)∧w'.cell? ⟨w2.heap.size,4,none⟩=some (.int .i64 (aN CR now).p0)∧w'.cell? ⟨w2.heap.size,5,none⟩=some (.int .i64 (aN CR now).p1)∧w'.cell? ⟨w2.heap.size,6,none⟩=some (.int .i64 (aN CR now).turn)∧w'.cell? ⟨w2.heap.size,7,none⟩=some (.int .i64 (aN CR now).since)∧w'.cell? ⟨w2.heap.size,8,none⟩=some (.bool (aN CR now).st)∧w'.cell? ⟨w2.heap.size,9,none⟩=some (.int .i64 (aN CR now).ak))) (L:=[6]) (by kernel_rfl) (by and_intros <;> exact Kz.cell _ rfl) (fun hHeld=>?_)
 refine aJ 0 ?_
 refine eH 1 ?_
 refine gI 2 fun K hK=>?_
 go_simp
 refine (PE wc.drew).mono ?_
 rintro e wd ⟨rfl,hbb⟩
 unfold XC
 have K2:=Kz.stays hbb
 have M2:=Mz.below hbb
 have Hcd:=hid (show Below wc.heap.size wc wd from ((Below.refl wc.heap.size wc).drew).trans hbb)
 clear hbb
 refine hK.out _ _ (by and_intros <;> exact K2.cell _ rfl) (fun hHeld=>?_)
 clear hK K
 refine aJ 3 ?_
 refine aJ 4 ?_
 refine aJ 5 ?_
 refine xU 6 fun K hK=>?_
 rw [if_pos (by rfl)]
 refine wp_store_mid 89 (.tmp 42) (.tmp 40) (by rfl) wb.heap.size 15 #[.slice none 0 0,.int .i64 0,.int .i64 0,.int .i64 (aN CR now).l0,.int .i64 (aN CR now).l1,.int .i64 (aN CR now).m0,.int .i64 (aN CR now).m1,.int .i64 (aN CR now).p0,.int .i64 (aN CR now).p1,.int .i64 (aN CR now).turn,.int .i64 (aN CR now).since,.bool (aN CR now).st,.int .i64 (aN CR now).ak,.int .i64 qL.b0,.int .i64 qL.b1,.int .i64 qL.kY,.int .i64 qL.kZ,.int .i64 qL.l10,.int .i64 qL.lq,.slice none 0 0] (by rfl) (by rfl) (M2.box.has 15 20 (by simp [TP])) (by kernel_rfl) (by simp [Value.oneCell']) ?_
 refine bg ?_
 intro we ee
 have P6:=M2.put (M':=⟨R,CR,[],0,0,aN CR now,qL,[],now,[]⟩) (B':=⟨up,us,ue,pa',pc',g,.slice none 0 0,.slice none 0 0⟩) 15 [.slice none 0 0,.int .i64 0,.int .i64 0,.int .i64 (aN CR now).l0,.int .i64 (aN CR now).l1,.int .i64 (aN CR now).m0,.int .i64 (aN CR now).m1,.int .i64 (aN CR now).p0,.int .i64 (aN CR now).p1,.int .i64 (aN CR now).turn,.int .i64 (aN CR now).since,.bool (aN CR now).st,.int .i64 (aN CR now).ak,.int .i64 qL.b0,.int .i64 qL.b1,.int .i64 qL.kY,.int .i64 qL.kZ,.int .i64 qL.l10,.int .i64 qL.lq,.slice none 0 0] (by simp) rfl rfl rfl rfl (M2.rd.imp (fun _ h=>⟨h.rd,h.per,h.pc,h.pr,h.jr⟩))
 have ZO:Hid (aY X S w0.heap.size we wb.heap.size ⟨R,CR,[],0,0,aN CR now,qL,[],now,[]⟩ ⟨up,us,ue,pa',pc',g,.slice none 0 0,.slice none 0 0⟩):=hid (by rw [ee]; exact P6.1)
 have HFe:Hid (iC S wb.heap.size wd we):=hid (by rw [ee]; exact P6.2)
 clear P6 ee
 refine hK.out _ _ ?_
 clear hK K
 refine kW ?_
 go_upto_region 9 with (fail)
 have Um:Hid (Below w.heap.size w we):=hid (by
  have q1:Below w.heap.size w wd:=(HB4.out.trans (H4c.out.mono HB4.out.size)).trans (Hcd.out.mono (by have:=H4c.out.size; have:=HB4.out.size; omega))
  have q2:=iC.base M2 HFe.out (by have:=HW0.out; have:=H1c.out.size; have:=Hcd.out.size; have:=XW _ (N8.out (fun _=>False) (fun _ h=>h.elim)).sb; have:=aef _ (N8.out (fun _=>False) (fun _ h=>h.elim)).sb; omega)
  exact q1.trans (q2.mono (by have:=HW0.out; omega)))
 have HTe:=hid (E5.out.below Um.out)
 have arl:=ZO
 clear Mz Kz K2 M2 HMa
 go_wp2_with fail
 refine (HIt.out now we (by omega) (by omega) HTe.out.1).mono ?_
 rintro e wf ⟨rfl,hbf⟩
 obtain ⟨it,hit⟩:∃ it:ByteArray,it=⟨(Lib.itoa now).toArray⟩:=⟨_,rfl⟩
 have aou:it.size≤20:=by rw [hit]; show (Lib.itoa now).toArray.size≤20; rw [List.size_toArray]; exact IY now (by omega) (by omega)
 have arn:(⟨#[115,116,97,114,116,32]⟩:ByteArray).size=6:=rfl
 have alL:Hid ((⟨#[115,116,97,114,116,32]⟩:ByteArray)++it=oC now):=hid (by rw [hit]; unfold oC; apply ByteArray.ext; rw [ByteArray.data_append]; simp)
 rw [← hit]
 clear hit
 go_wp2_with fail
 rw [alL.out]
 have HTx:=hid (DX now (by omega) (by omega))
 have hJ:appJ [] (oC now)=([ni [] (oC now)],0):=by unfold appJ; rw [if_neg (by rw [HTx.out.1]; simp)]; rfl
 have hap:=uU (.slice none 0 0) [] (oC now) wf (Rd.nil _ _) ⟨by simp,fun k h=>by cases h⟩ (by simp) (by have:=HTx.out.2; omega)
 rw [hJ] at hap
 refine hap.mono ?_
 rintro e wg ⟨vj,rfl,hoj,hbg⟩
 obtain ⟨ja,jc,hvj⟩:=aH hoj
 subst hvj
 have aeg:Below we.heap.size we wg:=hbf.trans (hbg.mono hbf.size)
 have Mg:=ZO.out.below aeg
 have hjb:∀ k,(Value.slice ja 1 jc).ownBlock=some k→wf.heap.size≤k∧k<wg.heap.size:=fun k hk=>hoj.lt k hk
 have hsb:wb.heap.size<wf.heap.size:=by have:=ZO.out.box.lt; have:=hbf.size; omega
 have P9:=Mg.put (M':=⟨R,CR,[],0,0,aN CR now,qL,[],now,[ni [] (oC now)]⟩) (B':=⟨up,us,ue,pa',pc',g,.slice none 0 0,.slice ja 1 jc⟩) 36 [.slice ja 1 jc] (by simp) rfl rfl rfl rfl (fun w' hw=>by
  have ho:=Mg.rd w' hw
  exact ⟨ho.rd,ho.per,ho.pc,ho.pr,Rd.dL (Uk hoj (fun k hk=>hw.block k (hjb k hk).2 (fun h=>by
   have:=(hjb k hk).1
   rcases h with h | h
   ·have:=XW k h; have:=H1c.out.size; have:=Hcd.out.size; have:=HFe.out.size; have:=hbf.size; omega
   ·rcases h with h | h
    ·rw [h] at this; omega
    ·have:=HXo.out k h; have:=HB1.out.size; have:=Hcd.out.size; have:=H1c.out.size; have:=HFe.out.size; have:=hbf.size; omega)))⟩)
 have kS:Hid (aY X S w0.heap.size (wg.setCell ⟨wb.heap.size,36,none⟩ (.slice ja 1 jc)) wb.heap.size ⟨R,CR,[],0,0,aN CR now,qL,[],now,[ni [] (oC now)]⟩ ⟨up,us,ue,pa',pc',g,.slice none 0 0,.slice ja 1 jc⟩):=hid P9.1
 have c36:=Mg.box.cell 36 rfl
 have f36:=Mg.box.frozen 36
 have bI:Hid (Below w.heap.size w (wg.setCell ⟨wb.heap.size,36,none⟩ (.slice ja 1 jc))):=hid ((Um.out.trans (aeg.mono Um.out.size)).setCell (by have:=kS.out.lo; have:=HW0.out; show w.heap.size≤wb.heap.size; omega) _)
 clear P9 Mg hoj hbg hbf aeg hap hJ
 go_upto_region 10 with (fail)
 generalize wg.setCell ⟨wb.heap.size,36,none⟩ (.slice ja 1 jc)=w9 at *
 have hs9:w0.heap.size≤w9.heap.size:=by have:=kS.out.box.lt; have:=kS.out.lo; omega
 go_wp2_with fail
 refine (yJ HS.out w9 kS.out).mono ?_
 rintro e wh ⟨rfl,S',B',hMh,hsh,hFh⟩
 have HMh:=hid hMh
 have HBh:Hid (Below w.heap.size w wh):=hid (bI.out.trans ((iC.base kS.out hFh hs9).mono (by have:=HW0.out; omega)))
 have pq:=hid (Nat.le_trans hs9 hFh.size)
 clear hMh hsh hFh
 go_wp2_with fail
 go_ret2
 exact .inr ⟨QN.out,HCG.out,_,S',_,B',rfl,HMh.out,by have:=HW0.out; omega,pq.out,HBh.out⟩
def XY (R:au) (CR:sK) (now:Int) (w:World) (e:Ending) (w':World):Prop:=Gl noX R CR now w e w'
theorem XZ (HSo:SortMvSaid) (HI:ItoaSaid) (R:au) (CR:sK) (vp vs ve:Value) (pa:Option Addr) (pc:Nat) (now:Int) (w:World) (hr:qo w R vp vs ve) (hnm:R.name.size≤maxLen) (hp:clk.eF w w.heap.size pa CR.ps.length CR.ps) (h1:CR.ps.length≤pc) (h2:pc≤maxLen) (h0:0≤now) (hn8:now≤100000000) (ht:Tab w.heap.size w) :
  Calls Tryz.prog 13 #[.agg #[.string R.name,.int .i64 R.width,.int .i64 R.height,vp,vs,.bool R.falls,.bool R.keeps,ve,.int .i64 R.blocked,.int .i64 R.quiet,.int .i64 R.aZ],.agg #[.slice pa CR.ps.length pc,.int .i64 CR.inc,.int .i64 CR.delay],.int .i64 now] w (XY R CR now w):=
 Ul noX HSo HI R CR vp vs ve pa pc now w hr hnm hp h1 h2 h0 hn8 ht (fun _ h=>h.elim)
end Go.Proofs.YteablcielclaeaaGreatDoor
namespace Go.Proofs.YteablcielclaeaaGreatDoor
open Go.ChangeShapes Go.WideShapes Go.ChangeAt Go.RowKit
set_option linter.unusedVariables false
def gq:yD:=⟨0,0,0,10,⟨-1,4,0⟩⟩
theorem X0:gq.m∈aW fJ (aC fJ):=tZ.2 (by decide +kernel)
theorem X6 (p:aV) (m:aA) (h1:¬ 0≤gJ (fun x=>jO fJ p x (1 - p.turn)) fJ.ends 0) (h2:¬ (fJ.quiet≠0∧fJ.quiet≤p.quiet)) (hm:m∈pU fJ p):dw fJ p=0:=by
 unfold dw
 rw [if_neg h1,if_neg h2,if_pos (List.length_pos_of_mem (tZ.2 hm))]
theorem I8:dw fJ (bJ fJ [])=0:=X6 _ gq.m (by decide +kernel) (by decide +kernel) (by decide +kernel)
theorem QZ {ms:List aA} (h:dw fJ (bJ fJ ms)=0):dV fJ ms=0:=by
 unfold dV
 rw [if_neg (fun hc=>hc.2.1 rfl),h]
theorem yQ:mQ fJ iw 0=⟨fJ,iw,[],0,0,aN iw 0,qL,[],0,[ni [] (oC 0)]⟩:=by
 unfold mQ aO.over
 rw [if_neg (fun hc=>hc.1 (QZ I8))]
theorem abb:(cZ iw (aN iw 0) 10).l0=60990:=by decide +kernel
theorem abd:(mQ fJ iw 0).mP gq=0:=by
 rw [yQ]
 unfold aO.mP
 rw [if_neg (by decide +kernel),if_neg (by decide +kernel),if_neg (by decide +kernel),if_neg (by show ¬ (1=1000); decide),if_neg (by decide +kernel)]
theorem X7:(mQ fJ iw 0).kind gq=(aO.runs 10 400 ((mQ fJ iw 0).move gq.m 10),0):=by
 rw [yQ]
 unfold aO.kind
 rw [if_pos (show gq.kind=0 from rfl)]
 unfold aO.jQ
 rw [if_neg (by decide +kernel),if_neg (by show ¬¬ gq.m∈jP fJ (bJ fJ []); unfold jP; rw [if_pos I8]; exact fun hc=>hc X0),if_neg (by show ¬ (0=400); decide)]
 rfl
theorem X9 (M:aO) (h:M.aQ=[]):(aO.runs 10 400 M).ms=M.ms∧(aO.runs 10 400 M).clk=M.clk∧(aO.runs 10 400 M).R=M.R:=by
 rw [aO.runs]
 split
 ·rw [if_neg (by rw [h]; unfold jA; rw [show wS M.pos [] = -1 from rfl]; simp)]
  exact ⟨rfl,rfl,rfl⟩
 ·exact ⟨rfl,rfl,rfl⟩
theorem BH (M:aO):M.over.ms=M.ms∧M.over.clk=M.clk:=by
 unfold aO.over
 split
 ·exact ⟨rfl,rfl⟩
 ·exact ⟨rfl,rfl⟩
theorem DY:((mQ fJ iw 0).go gq).2=0∧((mQ fJ iw 0).go gq).1.ms.length=1∧((mQ fJ iw 0).go gq).1.clk.l0=60990:=by
 unfold aO.go
 rw [abd,X7,if_neg (show ¬ (0:Int)≠0 from fun hc=>hc rfl),if_neg (show ¬ (0:Int)≠0 from fun hc=>hc rfl)]
 have hp:((mQ fJ iw 0).move gq.m 10).aQ=[]:=by rw [yQ]; rfl
 have hr:=X9 _ hp
 have hm:((mQ fJ iw 0).move gq.m 10).ms=[gq.m]:=by rw [yQ]; rfl
 have hc:((mQ fJ iw 0).move gq.m 10).clk=cZ iw (aN iw 0) 10:=by rw [yQ]; rfl
 refine ⟨rfl,?_,?_⟩
 ·show (aO.over (aO.put (aO.runs 10 400 ((mQ fJ iw 0).move gq.m 10)) gq)).ms.length=1
  rw [(BH _).1]
  show (aO.runs 10 400 ((mQ fJ iw 0).move gq.m 10)).ms.length=1
  rw [hr.1,hm]
  rfl
 ·show (aO.over (aO.put (aO.runs 10 400 ((mQ fJ iw 0).move gq.m 10)) gq)).clk.l0=60990
  rw [(BH _).2]
  show (aO.runs 10 400 ((mQ fJ iw 0).move gq.m 10)).clk.l0=60990
  rw [hr.2.1,hc]
  exact abb
end Go.Proofs.YteablcielclaeaaGreatDoor
