/- MaO, MaQ, MaR, MaS, MaT, MaU, MaV. -/
import Derived.Test.YtmabaojkignodaaGreatDoorD30
namespace Go.Proofs.YtmabaojkignodaaGreatDoor
open Go.ChangeShapes Go.WideShapes Go.ChangeAt Go.RowKit
set_option linter.unusedVariables false
set_option maxHeartbeats 4000000
set_option maxRecDepth 100000
open Go.Lib (hid)
variable {X S:Nat→Prop} {base b:Nat} {M:aG} {B:jv}
def Oc (CR:nJ) (now:Int) (w:World) (e:Ending) (w':World):Prop:=
 (∃ c:Int,(c≠0∧¬ clk.cu CR.ps.length CR.inc CR.delay CR.ps)∧e=.returned (.tuple #[.agg #[.int .i64 0,.int .i64 0,.int .i64 0,.int .i64 0,.int .i64 0,.int .i64 0,.int .i64 0,.int .i64 0,.bool false,.int .i64 0],.int .i64 c])∧Below w.heap.size w w')∨(xU CR∧e=.returned (.tuple #[Bc (aP CR now),.int .i64 0])∧Below w.heap.size w w')
theorem Oe (CR:nJ) (pa:Option Addr) (pc:Nat) (now:Int) (w:World) (hp:clk.dV w w.heap.size pa CR.ps.length CR.ps) (hn:CR.ps.length≤maxLen) (h0:0≤now) (h1:now≤100000000) :
  Calls Tryz.prog 42 #[.agg #[.slice pa CR.ps.length pc,.int .i64 CR.inc,.int .i64 CR.delay],.int .i64 now] w (Oc CR now w):=by
 have HP:=hid hp
 have hn2:CR.ps.length≤9223372036854775807:=by unfold maxLen at hn; omega
 clear hp hn
 go_enter Tryz.func42,Tryz.ntmps42
 go_upto_region 1 with (fail)
 refine sV fun w0 jU DJ dM hs_=>?_
 have HX0:=hid jU
 have dn:=hid DJ
 have HB:=hid dM
 clear hs_ jU DJ dM
 refine wp_region_lit ?_
 refine aB (by rfl) 49 (.tmp 2) (by rfl) (w.heap.size) (by rfl) HX0.out Tryz.underlying49 (by rfl) (by kernel_rfl) ?_
 go_wp2_with fail
 refine (clk.fA pa CR.ps.length pc CR.inc CR.delay CR.ps w0 hn2 (HP.out.below HB.out)).mono ?_
 rintro e w1 ⟨c,rfl,hc,hb1⟩
 have HB1:=hid (aj HB.out hb1 HB.out.size)
 have oC:=hid (HX0.out.stays hb1)
 have dZ:=hid (dn.out.stays hb1)
 have HC:=hid hc
 clear hb1 hc HX0 dn HB
 by_cases hz:c=0
 rotate_left
 ·have hzb:(c != 0)=true:=by simpa using hz
  have HZ:=hid (And.intro hz (fun hr=>hz (HC.out.2 hr)))
  clear hz
  have y0:=dZ.out.cell 0 rfl
  have g0:=dZ.out.frozen 0
  have y1:=dZ.out.cell 1 rfl
  have g1:=dZ.out.frozen 1
  have y2:=dZ.out.cell 2 rfl
  have g2:=dZ.out.frozen 2
  have y3:=dZ.out.cell 3 rfl
  have g3:=dZ.out.frozen 3
  have y4:=dZ.out.cell 4 rfl
  have g4:=dZ.out.frozen 4
  have y5:=dZ.out.cell 5 rfl
  have g5:=dZ.out.frozen 5
  have y6:=dZ.out.cell 6 rfl
  have g6:=dZ.out.frozen 6
  have y7:=dZ.out.cell 7 rfl
  have g7:=dZ.out.frozen 7
  have y8:=dZ.out.cell 8 rfl
  have g8:=dZ.out.frozen 8
  have y9:=dZ.out.cell 9 rfl
  have g9:=dZ.out.frozen 9
  go_upto_region 3 with (fail)
  go_wp2_with fail
  have jH:=hid (dZ.out.store (vs:=[.int .i64 0,.int .i64 0,.int .i64 0,.int .i64 0,.int .i64 0,.int .i64 0,.int .i64 0,.int .i64 0,.bool false,.int .i64 0]) rfl)
  have HB2:=hid (below_setCells HB1.out (Nat.le_succ _) 0 [.int .i64 0,.int .i64 0,.int .i64 0,.int .i64 0,.int .i64 0,.int .i64 0,.int .i64 0,.int .i64 0,.bool false,.int .i64 0])
  exact bodyPost_ret (fV rfl (by rfl) (by rfl) jH.out Tryz.underlying67 (by rfl) (by kernel_rfl)) rfl (.inl ⟨c,HZ.out,rfl,HB2.out⟩)
 have Y3:Hid (xU CR):=hid (xU.of (HC.out.1 hz))
 subst hz
 obtain ⟨g,o,hpa,hgb,hcell⟩:=HP.out.2 (by have:=Y3.out.n; omega)
 subst hpa
 obtain ⟨c0,c1⟩:=hcell 0 (by have:=Y3.out.n; omega)
 have d1:=(HB1.out.cell (p:=⟨g,o+0 * 2+1,none⟩) hgb).trans c1
 have hg1:g<w1.heap.size:=Nat.lt_of_lt_of_le hgb HB1.out.size
 have hln:(0:Int)<(CR.ps.length:Int):=by have:=Y3.out.n; omega
 have hst:Hid (aP CR now=⟨(CR.ps.getD 0 (0,0)).2,(CR.ps.getD 0 (0,0)).2,0,0,0,0,0,now,false,-1⟩):=hid rfl
 have x0:=oC.out.cell 0 rfl
 generalize (CR.ps.getD 0 (0,0)).2=tm at *
 clear hcell c0 c1 HC
 have hww:clk.bZ now 0 100000000=true:=clk.dU ⟨h0,h1⟩
 go_wp2_with fail
 refine (clk.ay now 0 100000000 w1).mono ?_
 rintro e w2 ⟨rfl,rfl⟩
 rw [hww]
 go_upto_region 7 with (fail)
 have y0:=dZ.out.cell 0 rfl
 have g0:=dZ.out.frozen 0
 have y1:=dZ.out.cell 1 rfl
 have g1:=dZ.out.frozen 1
 have y2:=dZ.out.cell 2 rfl
 have g2:=dZ.out.frozen 2
 have y3:=dZ.out.cell 3 rfl
 have g3:=dZ.out.frozen 3
 have y4:=dZ.out.cell 4 rfl
 have g4:=dZ.out.frozen 4
 have y5:=dZ.out.cell 5 rfl
 have g5:=dZ.out.frozen 5
 have y6:=dZ.out.cell 6 rfl
 have g6:=dZ.out.frozen 6
 have y7:=dZ.out.cell 7 rfl
 have g7:=dZ.out.frozen 7
 have y8:=dZ.out.cell 8 rfl
 have g8:=dZ.out.frozen 8
 have y9:=dZ.out.cell 9 rfl
 have g9:=dZ.out.frozen 9
 go_wp2_with fail
 have jH:=hid (dZ.out.store (vs:=[.int .i64 tm,.int .i64 tm,.int .i64 0,.int .i64 0,.int .i64 0,.int .i64 0,.int .i64 0,.int .i64 now,.bool false,.int .i64 (-1)]) rfl)
 have HB2:=hid (below_setCells HB1.out (Nat.le_succ _) 0 [.int .i64 tm,.int .i64 tm,.int .i64 0,.int .i64 0,.int .i64 0,.int .i64 0,.int .i64 0,.int .i64 now,.bool false,.int .i64 (-1)])
 exact bodyPost_ret (fV rfl (by rfl) (by rfl) jH.out Tryz.underlying67 (by rfl) (by kernel_rfl)) rfl (.inr ⟨Y3.out,by rw [hst.out]; rfl,HB2.out⟩)
theorem KC (w:World):Calls Tryz.prog 45 #[] w fun e w'=>e=.returned (EO pO)∧Below w.heap.size w w':=by
 go_enter Tryz.func45,Tryz.ntmps45
 go_upto_region 1 with (fail)
 refine lM fun w0 jU dM hs_=>?_
 have HX0:=hid jU
 have HB:=hid dM
 clear hs_ jU dM
 have y0:=HX0.out.cell 0 rfl
 have g0:=HX0.out.frozen 0
 have y1:=HX0.out.cell 1 rfl
 have g1:=HX0.out.frozen 1
 have y2:=HX0.out.cell 2 rfl
 have g2:=HX0.out.frozen 2
 have y3:=HX0.out.cell 3 rfl
 have g3:=HX0.out.frozen 3
 have y4:=HX0.out.cell 4 rfl
 have g4:=HX0.out.frozen 4
 have y5:=HX0.out.cell 5 rfl
 have g5:=HX0.out.frozen 5
 go_wp2_with fail
 have jH:=hid (HX0.out.store (vs:=[.int .i64 (-1),.int .i64 (-1),.int .i64 (-1),.int .i64 (-1),.int .i64 (-1),.int .i64 (-1)]) rfl)
 have HB2:=hid (below_setCells HB.out (Nat.le_refl _) 0 [.int .i64 (-1),.int .i64 (-1),.int .i64 (-1),.int .i64 (-1),.int .i64 (-1),.int .i64 (-1)])
 exact bodyPost_ret (dR rfl (by rfl) jH.out Tryz.underlying70 (by rfl) (by kernel_rfl)) rfl ⟨rfl,HB2.out⟩
theorem yU (w:World) (h:aH X S base w b M B) (hl:M.jr.length≤100000):Calls Tryz.prog 16 #[.pointer (some ⟨b,0,none⟩)] w fun e w'=>∃ v',e=.returned v'∧YM M.jr w v' w':=by
 have HJ:=hid h.fr.jr
 have c36:=h.box.cell 36 rfl
 have HL:=hid hl
 clear h hl
 go_enter Tryz.func16,Tryz.ntmps16
 go_wp2_with fail
 refine (Ba B.vj M.jr w HJ.out (by have:=HL.out; omega)).mono ?_
 rintro e w1 ⟨v',rfl,ho⟩
 have HO:=hid ho
 clear ho
 go_wp2_with fail
 go_ret
 exact ⟨v',rfl,HO.out⟩
end Go.Proofs.YtmabaojkignodaaGreatDoor
namespace Go.Proofs.YtmabaojkignodaaGreatDoor
open Go.ChangeShapes Go.WideShapes Go.ChangeAt Go.RowKit
set_option linter.unusedVariables false
open Go.Lib (hid)
variable {X S:Nat→Prop} {base b:Nat} {M:aG} {B:jv}
theorem pW {P:Program} {ops:Array Oper} {Q:Exit→Act→World→Prop} {rest:List Oper} {a:Act} {W:World} (h:∀ w',w'=W→wpList P ops Q rest a w'):wpList P ops Q rest a W:=h _ rfl
def Og (M:aG) (w:World) (e:Ending) (w':World):Prop:=∃ ma mc qa qc,e=.returned (.agg #[.slice ma M.ms.length mc,.int .i64 M.res,.int .i64 M.reason,.int .i64 M.clk.l0,.int .i64 M.clk.l1,.int .i64 M.clk.m0,.int .i64 M.clk.m1,.int .i64 M.clk.p0,.int .i64 M.clk.p1,.int .i64 M.clk.turn,.int .i64 M.clk.since,.bool M.clk.st,.int .i64 M.clk.ak,.int .i64 M.off.b0,.int .i64 M.off.b1,.int .i64 M.off.aY,.int .i64 M.off.aZ,.int .i64 M.off.l10,.int .i64 M.off.aX,.slice qa M.aS.length qc])∧w'.ownsRow w.heap.size 52 3 (.slice ma M.ms.length mc) M.ms.length (bJ M.ms)∧w'.ownsRow w.heap.size 139 4 (.slice qa M.aS.length qc) M.aS.length (bW M.aS)∧Below w.heap.size w w'
set_option maxRecDepth 100000 in
set_option maxHeartbeats 4000000 in
theorem yx (w:World) (h:aH X S base w b M B) (hl:M.aS.length≤1000):Calls Tryz.prog 18 #[.pointer (some ⟨b,0,none⟩)] w (Og M w):=by
 obtain ⟨vp,vs,ve,pa,pc,g,vr,vj⟩:=B
 obtain ⟨ra,rc,hvr,hr1,hr2⟩:=h.fr.pr.form
 dsimp only at hvr
 subst hvr
 have HM:=hid h
 have abW:=hid h
 have HL:=hid hl
 unfold maxLen at hr2
 clear h hl
 go_enter Tryz.func18,Tryz.ntmps18
 go_upto_region 1 with (fail)
 refine lM fun w0 jU dM hs_=>?_
 have HX0:=hid jU
 have HB:=hid dM
 clear hs_ jU dM
 have iZ:=hid (HM.out.below HB.out)
 obtain ⟨bx,hbx⟩:∃ bx,bx=w0.heap.size:=⟨_,rfl⟩
 have dn:Hid (Box (w0.alloc (.cells #[.slice none 0 0,.int .i64 0,.int .i64 0,.int .i64 0,.int .i64 0,.int .i64 0,.int .i64 0,.int .i64 0,.int .i64 0,.int .i64 0,.int .i64 0,.bool false,.int .i64 0,.int .i64 0,.int .i64 0,.int .i64 0,.int .i64 0,.int .i64 0,.int .i64 0,.slice none 0 0] 73)) bx [.slice none 0 0,.int .i64 0,.int .i64 0,.int .i64 0,.int .i64 0,.int .i64 0,.int .i64 0,.int .i64 0,.int .i64 0,.int .i64 0,.int .i64 0,.bool false,.int .i64 0,.int .i64 0,.int .i64 0,.int .i64 0,.int .i64 0,.int .i64 0,.int .i64 0,.slice none 0 0] 73):=hid (Box.new' w0 bx [.slice none 0 0,.int .i64 0,.int .i64 0,.int .i64 0,.int .i64 0,.int .i64 0,.int .i64 0,.int .i64 0,.int .i64 0,.int .i64 0,.int .i64 0,.bool false,.int .i64 0,.int .i64 0,.int .i64 0,.int .i64 0,.int .i64 0,.int .i64 0,.int .i64 0,.slice none 0 0] 73 hbx.symm)
 refine wp_region_lit ?_
 refine wpList_plain (by rfl) (fun K hK=>?_)
 go_simp
 refine hK _ _ ?_
 clear hK K
 try simp only [Act.put,qw,qx,qy]
 refine wpList_plain (by rfl) (fun K hK=>?_)
 go_simp
 refine hK _ _ ?_
 clear hK K
 try simp only [Act.put,qw,qx,qy]
 refine wpList_plain (by rfl) (fun K hK=>?_)
 go_simp
 refine hK _ _ ?_
 clear hK K
 try simp only [Act.put,qw,qx,qy]
 refine wpList_load_mid (by rfl) 73 (.tmp 6) (by rfl) b 15 (by rfl) [.slice none 0 0,.int .i64 M.res,.int .i64 M.reason,.int .i64 M.clk.l0,.int .i64 M.clk.l1,.int .i64 M.clk.m0,.int .i64 M.clk.m1,.int .i64 M.clk.p0,.int .i64 M.clk.p1,.int .i64 M.clk.turn,.int .i64 M.clk.since,.bool M.clk.st,.int .i64 M.clk.ak,.int .i64 M.off.b0,.int .i64 M.off.b1,.int .i64 M.off.aY,.int .i64 M.off.aZ,.int .i64 M.off.l10,.int .i64 M.off.aX,.slice ra M.aS.length rc] _ (iZ.out.box.mid 15 (by rfl)) Tryz.underlying73 (by rfl) (by kernel_rfl) ?_
 try simp only [Act.put,qw,qx,qy]
 refine wpList_plain (by rfl) (fun K hK=>?_)
 go_simp
 refine hK _ _ ?_
 clear hK K
 try simp only [Act.put,qw,qx,qy]
 refine pW ?_
 intro w1 e1
 have jH:Hid (Box w1 bx [.slice none 0 0,.int .i64 0,.int .i64 0,.int .i64 0,.int .i64 0,.int .i64 0,.int .i64 0,.int .i64 0,.int .i64 0,.int .i64 0,.int .i64 0,.bool false,.int .i64 0,.int .i64 0,.int .i64 0,.int .i64 0,.int .i64 0,.int .i64 0,.int .i64 0,.slice none 0 0] 73):=hid (by rw [e1]; exact dn.out)
 have HB1:Hid (Below w.heap.size w w1):=hid (by rw [e1]; exact HB.out.alloc HB.out.size _)
 have CS:Hid (Box w1 w.heap.size [.slice none 0 0,.int .i64 0,.int .i64 0,.int .i64 0,.int .i64 0,.int .i64 0,.int .i64 0,.int .i64 0,.int .i64 0,.int .i64 0,.int .i64 0,.bool false,.int .i64 0,.int .i64 0,.int .i64 0,.int .i64 0,.int .i64 0,.int .i64 0,.int .i64 0,.slice none 0 0] 73):=hid (by rw [e1]; exact HX0.out.alloc _)
 have Uz:Hid (aH X S base w1 b _ _):=hid (HM.out.below HB1.out)
 have UA:Hid (w.heap.size≤bx∧w.heap.size≠bx):=hid ⟨by rw [hbx]; exact HB.out.size,by have:=HX0.out.lt; omega⟩
 rw [← hbx]
 clear e1 hbx dn HX0 HB iZ
 refine aT (vs:=[.slice none 0 0,.int .i64 M.res,.int .i64 M.reason,.int .i64 M.clk.l0,.int .i64 M.clk.l1,.int .i64 M.clk.m0,.int .i64 M.clk.m1,.int .i64 M.clk.p0,.int .i64 M.clk.p1,.int .i64 M.clk.turn,.int .i64 M.clk.since,.bool M.clk.st,.int .i64 M.clk.ak,.int .i64 M.off.b0,.int .i64 M.off.b1,.int .i64 M.off.aY,.int .i64 M.off.aZ,.int .i64 M.off.l10,.int .i64 M.off.aX,.slice ra M.aS.length rc]) (by rfl) 73 (.tmp 3) (.tmp 7) (by rfl) bx (by rfl) (by rfl) jH.out rfl (by kernel_rfl) (by rfl) ?_
 have I4:=hid (jH.out.store (vs:=[.slice none 0 0,.int .i64 M.res,.int .i64 M.reason,.int .i64 M.clk.l0,.int .i64 M.clk.l1,.int .i64 M.clk.m0,.int .i64 M.clk.m1,.int .i64 M.clk.p0,.int .i64 M.clk.p1,.int .i64 M.clk.turn,.int .i64 M.clk.since,.bool M.clk.st,.int .i64 M.clk.ak,.int .i64 M.off.b0,.int .i64 M.off.b1,.int .i64 M.off.aY,.int .i64 M.off.aZ,.int .i64 M.off.l10,.int .i64 M.off.aX,.slice ra M.aS.length rc]) rfl)
 have Ur:=hid (CS.out.qA UA.out.2 0 [.slice none 0 0,.int .i64 M.res,.int .i64 M.reason,.int .i64 M.clk.l0,.int .i64 M.clk.l1,.int .i64 M.clk.m0,.int .i64 M.clk.m1,.int .i64 M.clk.p0,.int .i64 M.clk.p1,.int .i64 M.clk.turn,.int .i64 M.clk.since,.bool M.clk.st,.int .i64 M.clk.ak,.int .i64 M.off.b0,.int .i64 M.off.b1,.int .i64 M.off.aY,.int .i64 M.off.aZ,.int .i64 M.off.l10,.int .i64 M.off.aX,.slice ra M.aS.length rc])
 have HB2:=hid (below_setCells HB1.out UA.out.1 0 [.slice none 0 0,.int .i64 M.res,.int .i64 M.reason,.int .i64 M.clk.l0,.int .i64 M.clk.l1,.int .i64 M.clk.m0,.int .i64 M.clk.m1,.int .i64 M.clk.p0,.int .i64 M.clk.p1,.int .i64 M.clk.turn,.int .i64 M.clk.since,.bool M.clk.st,.int .i64 M.clk.ak,.int .i64 M.off.b0,.int .i64 M.off.b1,.int .i64 M.off.aY,.int .i64 M.off.aZ,.int .i64 M.off.l10,.int .i64 M.off.aX,.slice ra M.aS.length rc])
 have ou:=hid (HM.out.below HB2.out)
 generalize (w1.setCells bx 0 [.slice none 0 0,.int .i64 M.res,.int .i64 M.reason,.int .i64 M.clk.l0,.int .i64 M.clk.l1,.int .i64 M.clk.m0,.int .i64 M.clk.m1,.int .i64 M.clk.p0,.int .i64 M.clk.p1,.int .i64 M.clk.turn,.int .i64 M.clk.since,.bool M.clk.st,.int .i64 M.clk.ak,.int .i64 M.off.b0,.int .i64 M.off.b1,.int .i64 M.off.aY,.int .i64 M.off.aZ,.int .i64 M.off.l10,.int .i64 M.off.aX,.slice ra M.aS.length rc])=w2 at *
 clear jH CS HB1 Uz
 go_upto_region 2 with (fail)
 generalize w2=wq at *
 have Mz:=ou.out.below (aA (Below.refl _ _))
 have Xz:=I4.out.drew
 have Oz:=Ur.out.drew
 have Lz:Below w.heap.size w wq.drew:=aA HB2.out
 have Yj:Hid (bx<wq.drew.heap.size):=hid Xz.lt
 have Yg:Hid (w.heap.size<wq.drew.heap.size):=hid Oz.lt
 obtain ⟨up,us,ue,vl,vm,rows,hg⟩:=Mz.game
 have Gz:=hg.plain
 clear ou I4 Ur HB2 hg
 refine wp_region_noPanic ?_
 refine bG (S:=(fun w'=>w'.cell? ⟨b,14,none⟩=some (.pointer (some ⟨g,0,none⟩))∧w'.cell? ⟨b,34,none⟩=some (.slice ra M.aS.length rc))) (L:=[]) (by kernel_rfl) ⟨Mz.box.cell 14 rfl,Mz.box.cell 34 rfl⟩ (fun hHeld=>?_)
 refine aF 0 ?_
 refine aF 5 ?_
 refine aF 1 ?_
 refine aF 6 ?_
 refine aF 2 ?_
 refine aF 7 ?_
 refine dL 3 ?_
 refine aF 8 ?_
 refine dL 9 ?_
 refine dO 4 fun K hK=>?_
 go_simp
 refine (tC _ Gz).mono ?_
 rintro e w4 ⟨vmv,rfl,ho4,hbb⟩
 obtain ⟨ma,mc,rfl⟩:=aI ho4
 have L4z:=hbb.size
 have M4:=Mz.below hbb
 have X4:=Xz.stays hbb
 have O4:=Oz.stays hbb
 have L4:=aj Lz hbb Lz.size
 have R4:=ho4
 clear hbb
 refine hK.out _ _ ⟨M4.box.cell 14 rfl,M4.box.cell 34 rfl⟩ (fun hHeld=>?_)
 clear hK K
 refine aF 11 ?_
 refine dO 10 fun K hK=>?_
 go_simp
 refine (pF _ M.aS _ M4.fr.pr (by have:=HL.out; omega)).mono ?_
 rintro e w10 ⟨vpv,rfl,Y4,hbb⟩
 obtain ⟨qa,qc,rfl⟩:=aI Y4
 have M10:=M4.below hbb
 have Sl:=X4.stays hbb
 have O10:=O4.stays hbb
 have wG:=aj L4 hbb L4.size
 have R10:=bK R4 hbb
 have Q10:=own_base Y4 L4z
 clear hbb
 refine hK.out _ _ ⟨M10.box.cell 14 rfl,M10.box.cell 34 rfl⟩ (fun hHeld=>?_)
 clear hK K
 refine dO 12 fun K hK=>?_
 have dd:=Sl.cell 0 rfl
 have df:=Sl.frozen 0
 go_simp
 refine aK ?_
 intro w12 e12
 clear dd df
 have CZ:=Sl.set 0 (.slice ma M.ms.length mc)
 have O12:=O10.far ⟨bx,0,none⟩ (.slice ma M.ms.length mc) UA.out.2
 have lQ:=wG.setCell (p:=⟨bx,0,none⟩) UA.out.1 (.slice ma M.ms.length mc)
 have R12:w12.ownsRow wq.drew.heap.size 52 3 (.slice ma M.ms.length mc) M.ms.length (bJ M.ms):=by rw [e12]; exact aQ R10 Yj.out 0 [.slice ma M.ms.length mc]
 have Q12:w12.ownsRow wq.drew.heap.size 139 4 (.slice qa M.aS.length qc) M.aS.length (bW M.aS):=by rw [e12]; exact aQ Q10 Yj.out 0 [.slice ma M.ms.length mc]
 rw [← e12] at CZ O12 lQ
 clear e12
 have M12:=abW.out.below lQ
 have afr:Below w10.heap.size w10 w12∨True:=.inr trivial
 refine hK.out _ _ ⟨M12.box.cell 14 rfl,M12.box.cell 34 rfl⟩ (fun hHeld=>?_)
 clear hK K
 refine aF 13 ?_
 refine dO 14 fun K hK=>?_
 have dd:=CZ.cell 19 rfl
 have df:=CZ.frozen 19
 go_simp
 refine aK ?_
 intro mM e14
 clear dd df
 have LM:=CZ.set 19 (.slice qa M.aS.length qc)
 have BR:=O12.far ⟨bx,19,none⟩ (.slice qa M.aS.length qc) UA.out.2
 have zf:=lQ.setCell (p:=⟨bx,19,none⟩) UA.out.1 (.slice qa M.aS.length qc)
 have R14:mM.ownsRow wq.drew.heap.size 52 3 (.slice ma M.ms.length mc) M.ms.length (bJ M.ms):=by rw [e14]; exact aQ R12 Yj.out 19 [.slice qa M.aS.length qc]
 have Un:mM.ownsRow wq.drew.heap.size 139 4 (.slice qa M.aS.length qc) M.aS.length (bW M.aS):=by rw [e14]; exact aQ Q12 Yj.out 19 [.slice qa M.aS.length qc]
 rw [← e14] at LM BR zf
 clear e14
 have M14:=abW.out.below zf
 have afs:Below w10.heap.size w10 mM∨True:=.inr trivial
 refine hK.out _ _ ⟨M14.box.cell 14 rfl,M14.box.cell 34 rfl⟩ (fun hHeld=>?_)
 clear hK K
 refine iE ?_
 have oG:=hid LM
 have Dp:=hid BR
 have zD:=hid zf
 have CU:=hid R14
 have HQ6:=hid Un
 clear LM BR zf M14 R14 Un CZ O12 lQ M12 R12 Q12 Sl O10 wG M10 R10 Q10 X4 O4 L4 M4 R4 ho4 Y4 Xz Oz Lz Mz Gz hHeld afr afs
 go_upto_region 3 with (fail)
 generalize mM=w7 at *
 refine wp_region_lit ?_
 refine aB (by rfl) 73 (.tmp 3) (by rfl) bx (by rfl) oG.out Tryz.underlying73 (by rfl) (by kernel_rfl) ?_
 refine aT (vs:=[.slice ma M.ms.length mc,.int .i64 M.res,.int .i64 M.reason,.int .i64 M.clk.l0,.int .i64 M.clk.l1,.int .i64 M.clk.m0,.int .i64 M.clk.m1,.int .i64 M.clk.p0,.int .i64 M.clk.p1,.int .i64 M.clk.turn,.int .i64 M.clk.since,.bool M.clk.st,.int .i64 M.clk.ak,.int .i64 M.off.b0,.int .i64 M.off.b1,.int .i64 M.off.aY,.int .i64 M.off.aZ,.int .i64 M.off.l10,.int .i64 M.off.aX,.slice qa M.aS.length qc]) (by rfl) 73 (.tmp 2) (.tmp 21) (by rfl) w.heap.size (by rfl) (by rfl) Dp.out rfl (by kernel_rfl) (by rfl) ?_
 have PZ:=hid (Dp.out.store (vs:=[.slice ma M.ms.length mc,.int .i64 M.res,.int .i64 M.reason,.int .i64 M.clk.l0,.int .i64 M.clk.l1,.int .i64 M.clk.m0,.int .i64 M.clk.m1,.int .i64 M.clk.p0,.int .i64 M.clk.p1,.int .i64 M.clk.turn,.int .i64 M.clk.since,.bool M.clk.st,.int .i64 M.clk.ak,.int .i64 M.off.b0,.int .i64 M.off.b1,.int .i64 M.off.aY,.int .i64 M.off.aZ,.int .i64 M.off.l10,.int .i64 M.off.aX,.slice qa M.aS.length qc]) rfl)
 have uD:=hid (below_setCells zD.out (Nat.le_refl _) 0 [.slice ma M.ms.length mc,.int .i64 M.res,.int .i64 M.reason,.int .i64 M.clk.l0,.int .i64 M.clk.l1,.int .i64 M.clk.m0,.int .i64 M.clk.m1,.int .i64 M.clk.p0,.int .i64 M.clk.p1,.int .i64 M.clk.turn,.int .i64 M.clk.since,.bool M.clk.st,.int .i64 M.clk.ak,.int .i64 M.off.b0,.int .i64 M.off.b1,.int .i64 M.off.aY,.int .i64 M.off.aZ,.int .i64 M.off.l10,.int .i64 M.off.aX,.slice qa M.aS.length qc])
 skip
 refine pW ?_
 intro w8 e8
 rw [← e8] at PZ uD
 have HR8:Hid (w8.ownsRow wq.drew.heap.size 52 3 (.slice ma M.ms.length mc) M.ms.length (bJ M.ms)):=hid (by rw [e8]; exact aQ CU.out Yg.out 0 _)
 have HQ8:Hid (w8.ownsRow wq.drew.heap.size 139 4 (.slice qa M.aS.length qc) M.aS.length (bW M.aS)):=hid (by rw [e8]; exact aQ HQ6.out Yg.out 0 _)
 clear e8
 go_wp2_with fail
 exact bodyPost_ret (dR rfl (by rfl) PZ.out Tryz.underlying73 (by rfl) (by kernel_rfl)) rfl ⟨_,_,_,_,rfl,own_base HR8.out (Nat.le_of_lt Yg.out),own_base HQ8.out (Nat.le_of_lt Yg.out),uD.out⟩
end Go.Proofs.YtmabaojkignodaaGreatDoor
namespace Go.Proofs.YtmabaojkignodaaGreatDoor
open Go.ChangeShapes Go.WideShapes Go.ChangeAt Go.RowKit
set_option linter.unusedVariables false
open Go.Lib (hid)
variable {S:Nat→Prop} {base b:Nat} {M:aG} {B:jv}
def Bv:El (Int×Int) where
 k:=2
 E:=fun _ x cs=>cs=[.int .i64 x.1,.int .i64 x.2]
 mono:=fun h _ _=>h
 len:=fun h=>by subst h; rfl
theorem Wp {w:World} {A:Option Addr} {n pc:Nat} {ps:List (Int×Int)} (h:clk.dV w w.heap.size A n ps) (h1:n≤pc) (h2:pc≤maxLen):gI Bv w (.slice A n pc) ps:=by
 have hl:=h.1
 rcases Nat.eq_zero_or_pos n with h0 | h0
 ·subst h0
  exact .inl ⟨A,pc,rfl,h2,hl⟩
 ·obtain ⟨b,off,rfl,hlt,hc⟩:=h.2 h0
  refine .inr ⟨b,off,pc,by rw [hl],by omega,h2,hlt,fun i hi=>⟨_,rfl,fun j hj=>?_⟩⟩
  have hc':=hc i (by omega)
  rw [List.getD_eq_getElem?_getD,List.getElem?_eq_getElem hi,Option.getD_some] at hc'
  have hj2:j=0∨j=1:=by have:j<2:=hj; omega
  rcases hj2 with rfl | rfl
  ·exact hc'.1
  ·exact hc'.2
theorem LQ {w:World} {A:Option Addr} {n pc:Nat} {ps:List (Int×Int)} (h:gI Bv w (.slice A n pc) ps):clk.dV w w.heap.size A ps.length ps:=by
 refine ⟨rfl,fun h0=>?_⟩
 obtain ⟨g,o,rfl,hg,hc⟩:=h.some h0
 refine ⟨g,o,rfl,hg,fun k hk=>?_⟩
 obtain ⟨cs,rfl,hcell⟩:=hc k hk
 rw [List.getD_eq_getElem?_getD,List.getElem?_eq_getElem hk,Option.getD_some]
 have c0:=hcell 0 (by show 0<2; omega)
 have c1:=hcell 1 (by show 1<2; omega)
 exact ⟨c0,c1⟩
theorem SG:(Tryz.prog.info? 154).map (fun i=>(i.zero,i.size,i.bytes))=some (some (.agg #[.int .i64 0,.int .i64 0]),2,16):=by kernel_rfl
theorem Oh {α:Type} (el:El α) (hk:el.k=2) (h1:∀ (w:World) (x:α) (cs:List Value),el.E w x cs→∀ u∈cs,u.oneCell'=true) (v:Value) (xs:List α) (w:World) (h:gI el w v xs) (hl:xs.length≤1000000) :
  Calls Tryz.prog 88 #[v] w (ji el 154 xs w):=by
 obtain ⟨i0,hi,hz0,hz1,hz2⟩:=jC SG
 have hq:=fun (w:World) (a:Option Addr) (n c:Nat)=>Lib.run_eql_slice_nil (P:=Tryz.prog) w 47 154 a n c 0 0 Tryz.underlying47
 have hown0:(w.alloc (.cells #[] 154)).ownsRow w.heap.size 154 2 (.slice (some ⟨w.heap.size,0,none⟩) 0 0) 0 []:=World.ownsRow_made w #[] 0 (Nat.le_refl _) (by unfold maxLen; omega) rfl
 obtain ⟨a,n,c,vs,rfl,hn,hvl,hone,hE,hcell⟩:=mX h1 h
 rw [hk] at hvl
 have HR:=hid hE
 cases a with
 | none =>
  have hn0:n=0:=hcell.1 rfl
  subst hn0
  obtain rfl:xs=[]:=List.length_eq_zero_iff.1 hn.symm
  clear h hl hE hcell hown0 hn hvl hone HR hi hz0 hz1 hz2
  go_enter Tryz.func88,Tryz.ntmps88
  go_wp2
  go_ret
  exact ⟨_,[],rfl,World.ownsRow_nil _ _ _ _,(fun i hi=>by cases hi),Below.refl _ _⟩
 | some ad =>
  have hnews:∀ j u,vs[j]?=some u→(w.alloc (.cells #[] 154)).cell? (ad.add j)=some u:=fun j u hu=>by
   have hc:=hcell.2 ad rfl j u hu
   rw [World.cell?_of_block (w:=w) (a:=ad.add j) (Below.heap_alloc w _ _ (World.block_lt_of_cell? w _ hc))]
   exact hc
  have oM:=hid hown0
  have oN:=hid hnews
  have ML:=hid hvl
  have Ej:=hid hone
  have hnl:n≤1000000:=by omega
  have HN:=hid hn
  clear hown0 hnews hcell h hE hvl hone hl hn
  go_enter Tryz.func88,Tryz.ntmps88
  go_wp2_with (at_builtin; refine wpList_append_own _ rfl _ _ 47 rfl w.heap.size 154 i0 (.agg #[.int .i64 0,.int .i64 0]) 2 16 Tryz.underlying47 hi hz0 hz1 hz2 rfl (by decide) _ 0 [] rfl oM.out ad n c vs rfl ML.out oN.out Ej.out ?c3 ?c4 ?c5 ?_)
  case c3=>unfold maxLen; omega
  case c4=>omega
  case c5=>simp
  intro v' w2 hown' hgrow _
  try simp only [Nat.zero_add,List.nil_append] at hown'
  have hb:Below w.heap.size w w2:=Below.grown ((Below.refl _ w).alloc (Nat.le_refl _) _) hgrow (by simp) (fun q hq=>by simp [Value.ownBlock] at hq; omega)
  have HO:=hid hown'
  have HB:=hid hb
  clear hown' hgrow hb
  go_wp2
  go_ret
  exact ⟨v',vs,rfl,by rw [← HN.out,hk]; exact HO.out,fun i hi=>el.mono (HR.out i hi) HB.out (Nat.le_refl _),HB.out⟩
def Oi (CR:nJ) (w:World) (e:Ending) (w':World):Prop:=∃ pa' pc' vs,e=.returned (.agg #[.slice pa' CR.ps.length pc',.int .i64 CR.inc,.int .i64 CR.delay])∧w'.ownsRow w.heap.size 154 2 (.slice pa' CR.ps.length pc') CR.ps.length vs∧gI Bv w' (.slice pa' CR.ps.length pc') CR.ps∧Below w.heap.size w w'
set_option maxRecDepth 100000 in
set_option maxHeartbeats 4000000 in
theorem Oj (CR:nJ) (pa:Option Addr) (pc:Nat) (w:World) (hp:clk.dV w w.heap.size pa CR.ps.length CR.ps) (h1:CR.ps.length≤pc) (h2:pc≤maxLen) (hl:CR.ps.length≤1000) :
  Calls Tryz.prog 44 #[.agg #[.slice pa CR.ps.length pc,.int .i64 CR.inc,.int .i64 CR.delay]] w (Oi CR w):=by
 have HR:=hid (Wp hp h1 h2)
 have HL:=hid hl
 clear hp hl
 go_enter Tryz.func44,Tryz.ntmps44
 go_upto_region 1 with (fail)
 refine sV fun w0 jU DJ dM hs_=>?_
 have HX0:=hid jU
 have dn:=hid DJ
 have HB:=hid dM
 clear hs_ jU DJ dM
 have c0:=HX0.out.cell 0 rfl
 have HCl:=hid (Oh Bv rfl (fun w x cs h u hu=>by subst h; simp at hu; rcases hu with rfl | rfl <;> rfl) _ CR.ps w0 (HR.out.below HB.out (Nat.le_refl _)) (by have:=HL.out; omega))
 have hs0:w.heap.size+1<w0.heap.size:=dn.out.lt
 go_wp2_with fail
 refine HCl.out.mono ?_
 rintro e w1 ⟨v,vs,rfl,hown,hE,hb1⟩
 have oC:=hid (HX0.out.stays hb1)
 have dZ:=hid (dn.out.stays hb1)
 have HB1:=hid (HB.out.trans (hb1.mono HB.out.size))
 obtain ⟨pa',pc',hv⟩:=aI hown
 subst hv
 have gW:Hid (∀ (w:World) i (h:i<CR.ps.length),Bv.E w CR.ps[i] ((vs.drop (i * 2)).take 2)):=hid fun _=>hE
 have HO:=hid hown
 have c1:=oC.out.cell 0 rfl
 have f1:=oC.out.frozen 0
 clear hown hE hb1 c0
 go_upto_region 2 with (fail)
 have jH:=hid (oC.out.set 0 (.slice pa' CR.ps.length pc'))
 have CS:=hid (dZ.out.far ⟨w.heap.size,0,none⟩ (.slice pa' CR.ps.length pc') (by show w.heap.size+1≠w.heap.size; omega))
 have uw:Hid ((w1.setCell ⟨w.heap.size,0,none⟩ (.slice pa' CR.ps.length pc')).ownsRow w0.heap.size 154 2 (.slice pa' CR.ps.length pc') CR.ps.length vs):=hid (aQ HO.out (b:=w.heap.size) (by omega) 0 [.slice pa' CR.ps.length pc'])
 have HB2:Hid (Below w.heap.size w (w1.setCell ⟨w.heap.size,0,none⟩ (.slice pa' CR.ps.length pc'))):=hid (HB1.out.setCell (Nat.le_refl _) _)
 generalize w1.setCell ⟨w.heap.size,0,none⟩ (.slice pa' CR.ps.length pc')=w2 at *
 refine wp_region_lit ?_
 refine aB (cs:=[.slice pa' CR.ps.length pc',.int .i64 CR.inc,.int .i64 CR.delay]) (by rfl) 49 (.tmp 1) (by rfl) w.heap.size (by rfl) jH.out Tryz.underlying49 (by rfl) (by kernel_rfl) ?_
 refine aT (vs:=[.slice pa' CR.ps.length pc',.int .i64 CR.inc,.int .i64 CR.delay]) (by rfl) 49 (.tmp 2) (.tmp 7) (by rfl) (w.heap.size+1) (by rfl) (by rfl) CS.out (by rfl) (by kernel_rfl) (by rfl) ?_
 have HS:=hid (CS.out.store (vs:=[.slice pa' CR.ps.length pc',.int .i64 CR.inc,.int .i64 CR.delay]) rfl)
 have Gu:=hid (below_setCells HB2.out (Nat.le_succ _) 0 [.slice pa' CR.ps.length pc',.int .i64 CR.inc,.int .i64 CR.delay])
 have HOf:=hid (aQ uw.out (b:=w.heap.size+1) hs0 0 [.slice pa' CR.ps.length pc',.int .i64 CR.inc,.int .i64 CR.delay])
 generalize w2.setCells (w.heap.size+1) 0 [.slice pa' CR.ps.length pc',.int .i64 CR.inc,.int .i64 CR.delay]=wf at *
 go_wp2_with fail
 exact bodyPost_ret (dR rfl (by rfl) HS.out Tryz.underlying49 (by rfl) (by kernel_rfl)) rfl ⟨pa',pc',vs,rfl,own_base HOf.out (by omega),gI.fD HOf.out (fun i h=>gW.out wf i h),Gu.out⟩
end Go.Proofs.YtmabaojkignodaaGreatDoor
namespace Go.Proofs.YtmabaojkignodaaGreatDoor
open Go.ChangeShapes Go.WideShapes Go.ChangeAt Go.RowKit
set_option linter.unusedVariables false
variable {S:Nat→Prop} {base b:Nat} {M:aG} {B:jv}
end Go.Proofs.YtmabaojkignodaaGreatDoor
namespace Go.Proofs.YtmabaojkignodaaGreatDoor
open Go.ChangeShapes Go.WideShapes Go.ChangeAt Go.RowKit
set_option linter.unusedVariables false
variable {S:Nat→Prop} {base b:Nat} {M:aG} {B:jv}
def nO:nJ:=⟨[(0,60000)],1000,0⟩
theorem BA (w:World):Calls Tryz.prog 39 #[] w fun e w'=>e=.returned (.agg #[.slice (some ⟨w.heap.size+1,0,none⟩) 1 1,.int .i64 1000,.int .i64 0])∧clk.dV w' w'.heap.size (some ⟨w.heap.size+1,0,none⟩) 1 nO.ps∧Below w.heap.size w w':=by
 go_enter Tryz.func39,Tryz.ntmps39
 go_upto_region 1 with (fail)
 go_wp2_with fail
 have HX:=(Box.new w [.slice (some ⟨w.heap.size+1,0,none⟩) 1 1,.int .i64 1000,.int .i64 0] 49).alloc (.cells #[.int .i64 0,.int .i64 60000] 154)
 have HY:=Box.new' (w.alloc (.cells #[.slice (some ⟨w.heap.size+1,0,none⟩) 1 1,.int .i64 1000,.int .i64 0] 49)) (w.heap.size+1) [.int .i64 0,.int .i64 60000] 154 (by simp)
 have HB:Below w.heap.size w ((w.alloc (.cells #[.slice (some ⟨w.heap.size+1,0,none⟩) 1 1,.int .i64 1000,.int .i64 0] 49)).alloc (.cells #[.int .i64 0,.int .i64 60000] 154)):=((Below.refl w.heap.size w).alloc (Nat.le_refl _) _).alloc (by simp) _
 refine bodyPost_ret (dR rfl (by rfl) HX Tryz.underlying49 (by rfl) (by kernel_rfl)) rfl ⟨rfl,⟨rfl,fun _=>⟨w.heap.size+1,0,rfl,HY.lt,fun k hk=>?_⟩⟩,HB⟩
 obtain rfl:k=0:=by omega
 exact ⟨HY.cell 0 rfl,HY.cell 1 rfl⟩
end Go.Proofs.YtmabaojkignodaaGreatDoor
namespace Go.Proofs.YtmabaojkignodaaGreatDoor
open Go.ChangeShapes Go.WideShapes Go.ChangeAt Go.RowKit
set_option linter.unusedVariables false
open Go.Lib (hid)
variable {X S:Nat→Prop} {base b:Nat} {M:aG} {B:jv}
theorem BD (now:Int) (h0 : -9223372036854775808≤now) (h1:now≤9223372036854775807):textE (iT now)=0∧(iT now).size≤200:=by
 have hl:=EY now h0 h1
 have hle:(([115,116,97,114,116,32]:List UInt8)++Lib.itoa now).length≤200:=by simp; omega
 refine ⟨Bl _ hle (fun c hc=>?_),?_⟩
 ·rcases List.mem_append.1 hc with h | h
  ·simp only [List.mem_cons,List.not_mem_nil,or_false] at h
   rcases h with rfl | rfl | rfl | rfl | rfl | rfl <;> exact ⟨by decide,by decide⟩
  ·exact SC now c h
 ·show (([115,116,97,114,116,32]:List UInt8)++Lib.itoa now).toArray.size≤200
  rw [List.size_toArray]; exact hle
def Fa (R:aC) (CR:nJ):Prop:=¬ (aW R=0∧clk.cu CR.ps.length CR.inc CR.delay CR.ps)
def SH (R:aC) (CR:nJ) (now:Int) (w:World) (e:Ending) (w':World):Prop:=
 (∃ c:Int,(c≠0∧Fa R CR)∧e=.returned (.tuple #[.pointer none,.int .i64 c])∧Below w.heap.size w w') ∨
 (aW R=0∧xU CR∧∃ base S b B,e=.returned (.tuple #[.pointer (some ⟨b,0,none⟩),.int .i64 0])∧aH Ut S base w' b (dh R CR now) B∧w.heap.size≤base∧base≤w'.heap.size∧Below w.heap.size w w')
theorem sQ {w w':World} {bb n sz:Nat} {e:TypeId} {v:Value} {xs:List Value} (h:w.ownsRow bb e sz v n xs) (hb:∀ k,v.ownBlock=some k→w'.heap[k]?=w.heap[k]?):w'.ownsRow bb e sz v n xs:=by
 refine ⟨h.1,?_⟩
 rcases h.2 with h0 | ⟨g,c,cur,hv,hg,hbk,r⟩
 ·exact .inl h0
 ·exact .inr ⟨g,c,cur,hv,hg,by rw [hb g (by rw [hv]; rfl)]; exact hbk,r⟩
set_option maxRecDepth 100000 in
set_option maxHeartbeats 8000000 in
theorem BF (HSo:SortMvSaid) (HI:ItoaSaid) (R:aC) (CR:nJ) (vp vs ve:Value) (pa:Option Addr) (pc:Nat) (now:Int) (w:World) (hr:ru w R vp vs ve) (hnm:R.name.size≤maxLen) (hp:clk.dV w w.heap.size pa CR.ps.length CR.ps) (h1:CR.ps.length≤pc) (h2:pc≤maxLen) (h0:0≤now) (hn8:now≤100000000) (ht:Tab w.heap.size w) :
  Calls Tryz.prog 13 #[.agg #[.string R.name,.int .i64 R.width,.int .i64 R.height,vp,vs,.bool R.falls,.bool R.keeps,ve,.int .i64 R.blocked,.int .i64 R.quiet,.int .i64 R.bF],.agg #[.slice pa CR.ps.length pc,.int .i64 CR.inc,.int .i64 CR.delay],.int .i64 now] w (SH R CR now w):=by
 have HS:=hid HSo
 have HIt:=hid HI
 have HR:=hid hr
 have OG:=hid hnm
 have HP:=hid hp
 have iH:=hid (And.intro h1 h2)
 have nT:=hid ht
 clear HSo HI hr hnm hp h1 h2 ht
 go_enter Tryz.func13,Tryz.ntmps13
 go_upto_region 1 with (fail)
 refine sV fun w0 jU DJ dM hs_=>?_
 have HX0:=hid jU
 have dn:=hid DJ
 have HB:=hid dM
 have HW0:Hid (w0.heap.size=w.heap.size+2):=hid (by omega)
 clear hs_ jU DJ dM
 have HN:=hid (gx.VA R vp vs ve w0 (HR.out.below HB.out (Nat.le_refl _)) OG.out)
 refine wp_region_lit ?_
 refine aB (by rfl) 46 (.tmp 3) (by rfl) (w.heap.size) (by rfl) HX0.out Tryz.underlying46 (by rfl) (by kernel_rfl) ?_
 go_wp2_with fail
 refine HN.out.mono ?_
 rintro e w1 (⟨hre,rfl,hb1⟩ | ⟨hre,S,g,gp,gs,ge,vl,vm,rows,rfl,Xx,hb1⟩)
 ·have HB1:=hid (HB.out.trans (hb1.mono HB.out.size))
  have HE:=hid hre
  have UA:Hid (Fa R CR):=hid (fun hc=>hre hc.1)
  have akr:(aW R != 0)=true:=by simpa using hre
  generalize aW R=er at *
  clear hre hb1
  go_wp2_with fail
  go_ret2
  exact .inl ⟨er,⟨HE.out,UA.out⟩,rfl,HB1.out⟩
 have HB1:=hid (HB.out.trans (hb1.mono HB.out.size))
 have oC:=hid (HX0.out.stays hb1)
 have dZ:=hid (dn.out.stays hb1)
 have NR:=hid Xx
 have Ui:=hid hre
 have MF:=hid (Oe CR pa pc now w1 (HP.out.below HB1.out) (by have:=iH.out; omega) h0 hn8)
 clear hb1 Xx hre HN
 go_upto_region 4 with (fail)
 refine wp_region_lit ?_
 refine aB (by rfl) 49 (.tmp 4) (by rfl) (w.heap.size+1) (by rfl) dZ.out Tryz.underlying49 (by rfl) (by kernel_rfl) ?_
 try simp only [Act.put,qw,qx,qy]
 refine wpList_plain (by rfl) (fun K hK=>?_)
 go_simp
 refine hK _ _ ?_
 clear hK K
 try simp only [Act.put,qw,qx,qy]
 refine wpList_plain (by rfl) (fun K hK=>?_)
 go_simp
 refine MF.out.mono ?_
 rintro e w2 (⟨c,⟨hcz,hnr⟩,rfl,hb2⟩ | ⟨hcg,rfl,hb2⟩)
 ·have HB2:=hid (HB1.out.trans (hb2.mono HB1.out.size))
  have HE:=hid hcz
  have UA:Hid (Fa R CR):=hid (fun hc=>hnr hc.2)
  clear hnr
  have hcb:(c != 0)=true:=by simpa using hcz
  clear hcz hb2
  refine hK _ _ ?_
  clear hK K
  try simp only [Act.put,qw,qx,qy]
  refine wpList_plain (by rfl) (fun K hK=>?_)
  go_simp
  refine hK _ _ ?_
  clear hK K
  try simp only [Act.put,qw,qx,qy]
  refine wpList_plain (by rfl) (fun K hK=>?_)
  go_simp
  refine hK _ _ ?_
  clear hK K
  try simp only [Act.put,qw,qx,qy]
  refine wpList_plain (by rfl) (fun K hK=>?_)
  go_simp
  refine hK _ _ ?_
  clear hK K
  try simp only [Act.put,qw,qx,qy]
  refine wpList_plain (by rfl) (fun K hK=>?_)
  go_simp
  refine hK _ _ ?_
  clear hK K
  try simp only [Act.put,qw,qx,qy]
  refine pW ?_
  intro w3 e3
  have CS:Hid (Box w3 w2.heap.size [.int .i64 0,.int .i64 0,.int .i64 0,.int .i64 0,.int .i64 0,.int .i64 0,.int .i64 0,.int .i64 0,.bool false,.int .i64 0] 67):=hid (by rw [e3]; exact Box.new' _ _ _ _ rfl)
  have HB3:Hid (Below w.heap.size w w3):=hid (by rw [e3]; exact HB2.out.alloc HB2.out.size _)
  clear e3
  refine aT (vs:=[.int .i64 0,.int .i64 0,.int .i64 0,.int .i64 0,.int .i64 0,.int .i64 0,.int .i64 0,.int .i64 0,.bool false,.int .i64 0]) (by rfl) 67 (.tmp 10) (.tmp 24) (by rfl) w2.heap.size (by rfl) (by rfl) CS.out (by rfl) (by kernel_rfl) (by rfl) ?_
  have HB4:=hid (below_setCells HB3.out HB2.out.size 0 [.int .i64 0,.int .i64 0,.int .i64 0,.int .i64 0,.int .i64 0,.int .i64 0,.int .i64 0,.int .i64 0,.bool false,.int .i64 0])
  generalize w3.setCells w2.heap.size 0 [.int .i64 0,.int .i64 0,.int .i64 0,.int .i64 0,.int .i64 0,.int .i64 0,.int .i64 0,.int .i64 0,.bool false,.int .i64 0]=w4 at *
  go_wp2_with fail
  go_ret2
  exact .inl ⟨c,⟨HE.out,UA.out⟩,rfl,HB4.out⟩
 have HB2:=hid (HB1.out.trans (hb2.mono HB1.out.size))
 have Y3:=hid hcg
 have Ol:=hid (oC.out.stays hb2)
 have Om:=hid (dZ.out.stays hb2)
 have Hb2:=hid hb2
 clear hcg hb2 MF
 refine hK _ _ ?_
 clear hK K
 unfold Bc
 try simp only [Act.put,qw,qx,qy]
 refine wpList_plain (by rfl) (fun K hK=>?_)
 go_simp
 refine hK _ _ ?_
 clear hK K
 try simp only [Act.put,qw,qx,qy]
 refine wpList_plain (by rfl) (fun K hK=>?_)
 go_simp
 refine hK _ _ ?_
 clear hK K
 try simp only [Act.put,qw,qx,qy]
 refine wpList_plain (by rfl) (fun K hK=>?_)
 go_simp
 refine hK _ _ ?_
 clear hK K
 try simp only [Act.put,qw,qx,qy]
 refine wpList_plain (by rfl) (fun K hK=>?_)
 go_simp
 refine hK _ _ ?_
 clear hK K
 try simp only [Act.put,qw,qx,qy]
 refine pW ?_
 intro w3 e3
 have CS:Hid (Box w3 w2.heap.size [.int .i64 0,.int .i64 0,.int .i64 0,.int .i64 0,.int .i64 0,.int .i64 0,.int .i64 0,.int .i64 0,.bool false,.int .i64 0] 67):=hid (by rw [e3]; exact Box.new' _ _ _ _ rfl)
 have aft:Hid (Below w2.heap.size w2 w3):=hid (by rw [e3]; exact (Below.refl _ _).alloc (Nat.le_refl _) _)
 have Hb3:Hid (Below w1.heap.size w1 w3):=hid (by rw [e3]; exact Hb2.out.alloc Hb2.out.size _)
 clear e3
 refine aT (vs:=[.int .i64 (aP CR now).l0,.int .i64 (aP CR now).l1,.int .i64 (aP CR now).m0,.int .i64 (aP CR now).m1,.int .i64 (aP CR now).p0,.int .i64 (aP CR now).p1,.int .i64 (aP CR now).turn,.int .i64 (aP CR now).since,.bool (aP CR now).st,.int .i64 (aP CR now).ak]) (by rfl) 67 (.tmp 10) (.tmp 24) (by rfl) w2.heap.size (by rfl) (by rfl) CS.out (by rfl) (by kernel_rfl) (by rfl) ?_
 have HXc:=hid (CS.out.store (vs:=[.int .i64 (aP CR now).l0,.int .i64 (aP CR now).l1,.int .i64 (aP CR now).m0,.int .i64 (aP CR now).m1,.int .i64 (aP CR now).p0,.int .i64 (aP CR now).p1,.int .i64 (aP CR now).turn,.int .i64 (aP CR now).since,.bool (aP CR now).st,.int .i64 (aP CR now).ak]) rfl)
 have Hb4:=hid (below_setCells Hb3.out Hb2.out.size 0 [.int .i64 (aP CR now).l0,.int .i64 (aP CR now).l1,.int .i64 (aP CR now).m0,.int .i64 (aP CR now).m1,.int .i64 (aP CR now).p0,.int .i64 (aP CR now).p1,.int .i64 (aP CR now).turn,.int .i64 (aP CR now).since,.bool (aP CR now).st,.int .i64 (aP CR now).ak])
 have abZ:Hid (Below w2.heap.size w2 (w3.setCells w2.heap.size 0 [.int .i64 (aP CR now).l0,.int .i64 (aP CR now).l1,.int .i64 (aP CR now).m0,.int .i64 (aP CR now).m1,.int .i64 (aP CR now).p0,.int .i64 (aP CR now).p1,.int .i64 (aP CR now).turn,.int .i64 (aP CR now).since,.bool (aP CR now).st,.int .i64 (aP CR now).ak])):=hid (below_setCells aft.out (Nat.le_refl _) 0 [.int .i64 (aP CR now).l0,.int .i64 (aP CR now).l1,.int .i64 (aP CR now).m0,.int .i64 (aP CR now).m1,.int .i64 (aP CR now).p0,.int .i64 (aP CR now).p1,.int .i64 (aP CR now).turn,.int .i64 (aP CR now).since,.bool (aP CR now).st,.int .i64 (aP CR now).ak])
 generalize w3.setCells w2.heap.size 0 [.int .i64 (aP CR now).l0,.int .i64 (aP CR now).l1,.int .i64 (aP CR now).m0,.int .i64 (aP CR now).m1,.int .i64 (aP CR now).p0,.int .i64 (aP CR now).p1,.int .i64 (aP CR now).turn,.int .i64 (aP CR now).since,.bool (aP CR now).st,.int .i64 (aP CR now).ak]=w4 at *
 have afu:=hid (Ol.out.stays abZ.out)
 have afv:=hid (Om.out.stays abZ.out)
 go_upto_region 7 with (fail)
 have HB4:=hid (HB1.out.trans (Hb4.out.mono HB1.out.size))
 have hrk:=Eb Ui.out
 have hl1:R.pieces.length≤1000:=by have:=hrk.np; omega
 have hl2:R.start.length≤1000:=by have:=zW Ui.out; omega
 have hl3:R.ends.length≤1000:=by have:=hrk.en; omega
 have HWL:Hid (∀ i,i<R.pieces.length→(R.pieces.getD i default).ways.length≤1000):=hid (fun i hi=>by have:=(hrk.pc i hi).2.2.1; omega)
 have Bz:Box w4.drew w.heap.size [.string R.name,.int .i64 R.width,.int .i64 R.height,vp,vs,.bool R.falls,.bool R.keeps,ve,.int .i64 R.blocked,.int .i64 R.quiet,.int .i64 R.bF] 46:=afu.out.drew
 have Cz:Box w4.drew (w.heap.size+1) [.slice pa CR.ps.length pc,.int .i64 CR.inc,.int .i64 CR.delay] 49:=afv.out.drew
 have Lz:Below w4.drew.heap.size w4.drew w4.drew:=Below.refl _ _
 refine wp_region_noPanic ?_
 refine bG (S:=(fun w'=>w'.cell? ⟨w.heap.size,0,none⟩=some (.string R.name)∧w'.cell? ⟨w.heap.size,1,none⟩=some (.int .i64 R.width)∧w'.cell? ⟨w.heap.size,2,none⟩=some (.int .i64 R.height)∧w'.cell? ⟨w.heap.size,3,none⟩=some vp∧w'.cell? ⟨w.heap.size,4,none⟩=some vs∧w'.cell? ⟨w.heap.size,5,none⟩=some (.bool R.falls)∧w'.cell? ⟨w.heap.size,6,none⟩=some (.bool R.keeps)∧w'.cell? ⟨w.heap.size,7,none⟩=some ve∧w'.cell? ⟨w.heap.size,8,none⟩=some (.int .i64 R.blocked)∧w'.cell? ⟨w.heap.size,9,none⟩=some (.int .i64 R.quiet)∧w'.cell? ⟨w.heap.size,10,none⟩=some (.int .i64 R.bF)∧w'.cell? ⟨w.heap.size+1,0,none⟩=some (.slice pa CR.ps.length pc)∧w'.cell? ⟨w.heap.size+1,1,none⟩=some (.int .i64 CR.inc)∧w'.cell? ⟨w.heap.size+1,2,none⟩=some (.int .i64 CR.delay))) (L:=[]) (by kernel_rfl) (by and_intros <;> first | exact Bz.cell _ rfl | exact Cz.cell _ rfl) (fun hHeld=>?_)
 refine dL 0 ?_
 refine dL 2 ?_
 refine aF 4 ?_
 refine aF 5 ?_
 refine dO 1 fun K hK=>?_
 go_simp
 refine (xP R vp vs ve w4.drew (HR.out.below HB4.out.drew (Nat.le_refl _)) hl1 hl2 hl3 HWL.out).mono ?_
 rintro e wa ⟨up,us,ue,rfl,Xy,hbb⟩
 have ab1:=hid Xy
 have Hba:=hid hbb
 have B1:=Bz.stays hbb
 have C1:=Cz.stays hbb
 have L1:=aj Lz hbb Lz.size
 clear hbb Xy
 refine hK.out _ _ (by and_intros <;> first | exact B1.cell _ rfl | exact C1.cell _ rfl) (fun hHeld=>?_)
 clear hK K
 refine dO 3 fun K hK=>?_
 go_simp
 refine (Oj CR pa pc wa (HP.out.below (HB4.out.drew.trans (Hba.out.mono HB4.out.drew.size))) iH.out.1 iH.out.2 (by have:=Y3.out.n; omega)).mono ?_
 rintro e wb ⟨pa',pc',vs',rfl,hown,hrd,hbb⟩
 have UL:=hid hown
 have HRl:=hid hrd
 have Wq:=hid hbb
 have ab2:CR.ps.length≤pc'∧pc'≤maxLen:=by obtain ⟨a9,c9,e9,q1,q2⟩:=hrd.form; simp only [Value.slice.injEq,true_and] at e9; omega
 have afw:=hid ab2
 have B3:=B1.stays hbb
 have C3:=C1.stays hbb
 have L3:=aj L1 hbb L1.size
 clear hbb hown hrd ab2
 refine hK.out _ _ (by and_intros <;> first | exact B3.cell _ rfl | exact C3.cell _ rfl) (fun hHeld=>?_)
 clear hK K
 refine aF 6 ?_
 refine dO 7 fun K hK=>?_
 go_simp
 refine aK ?_
 intro wc ec
 have hbb:Below wb.heap.size wb wc:=by rw [ec]; exact (Below.refl _ _).alloc (Nat.le_refl _) _
 have HXm:=hid (show Box wc wb.heap.size _ 119 by rw [ec]; exact Box.new' _ _ _ _ rfl)
 have Hbc:=hid hbb
 have B7:=B3.stays hbb
 have C7:=C3.stays hbb
 have L7:=aj L3 hbb L3.size
 clear hbb ec
 refine hK.out _ _ (by and_intros <;> first | exact B7.cell _ rfl | exact C7.cell _ rfl) (fun hHeld=>?_)
 clear hK K
 refine aF 8 ?_
 refine iE ?_
 go_upto_region 8 with (fail)
 have hs1:=Hb4.out.size
 have hs2:w4.heap.size≤wa.heap.size:=Hba.out.size
 have hs3:=Wq.out.size
 have hs4:=Hbc.out.size
 have hbm:=HXm.out.lt
 have H1c:Hid (Below w1.heap.size w1 wc):=hid ((Hb4.out.drew.trans (Hba.out.mono hs1)).trans ((Wq.out.mono (by omega)).trans (Hbc.out.mono (by omega))))
 have SI:∀ k,S k→k<w1.heap.size:=fun k hk=>((NR.out (fun _=>False) (fun _ h=>h.elim)).lo k hk).2
 have ab3:∀ k,S k→w0.heap.size≤k:=fun k hk=>((NR.out (fun _=>False) (fun _ h=>h.elim)).lo k hk).1
 have HMa:Hid (aH Ut S w0.heap.size wc wb.heap.size ⟨R,CR,[],0,0,⟨0,0,0,0,0,0,0,0,false,0⟩,⟨0,0,0,0,0,0⟩,[],now,[]⟩ ⟨up,us,ue,pa',pc',g,.slice none 0 0,.slice none 0 0⟩):=hid ⟨HXm.out,fun hk=>by have:=SI _ hk; omega,by have:=HB1.out.size; have:=HW0.out; have:=(NR.out (fun _=>False) (fun _ h=>h.elim)); have:=ab3 _ this.sb; have:=SI _ (NR.out (fun _=>False) (fun _ h=>h.elim)).sb; omega,
  ⟨_,_,_,_,_,_,(NR.out (out1 Ut wb.heap.size) (fun k hk=>by rcases hk with hk | hk; (rw [hk]; omega); exact hk.elim)).below H1c.out⟩,fun w' hw=>by
   have Qz:∀ k,w4.heap.size≤k→k<wb.heap.size→w'.heap[k]?=wb.heap[k]?:=fun k hk1 hk2=>by
    rw [hw.block k (by omega) (fun h=>by rcases h with h | h; exact absurd (SI k h) (by omega); (rcases h with h | h; exact absurd h (by omega); exact h.elim)),Hbc.out.block k hk2]
   refine ⟨ab1.out w' (fun k hk1 hk2=>?_),⟨rfl,fun hn=>?_⟩,afw.out,gI.nil _ _,Rd.nil _ _⟩
   ·rw [Qz k hk1 (by omega),Wq.out.block k hk2]
   ·obtain ⟨b',off,hA,hlt,hc⟩:=(LQ HRl.out).2 hn
    subst hA
    have hbl:=UL.out.lt b' rfl
    have he:=Qz b' (by omega) hbl.2
    refine ⟨b',off,rfl,by have:=hw.size; omega,fun k hk=>?_⟩
    rw [World.cell?_of_block (w:=wb) (a:=⟨b',off+k * 2,none⟩) he,World.cell?_of_block (w:=wb) (a:=⟨b',off+k * 2+1,none⟩) he]
    exact hc k hk,fun k hk=>hk.elim⟩
 have H4c:Hid (Below w4.heap.size w4 wc):=hid (((Below.refl w4.heap.size w4).drew.trans (Hba.out.mono (Nat.le_refl _))).trans ((Wq.out.mono (by omega)).trans (Hbc.out.mono (by omega))))
 have Kz:Box wc.drew w2.heap.size [.int .i64 (aP CR now).l0,.int .i64 (aP CR now).l1,.int .i64 (aP CR now).m0,.int .i64 (aP CR now).m1,.int .i64 (aP CR now).p0,.int .i64 (aP CR now).p1,.int .i64 (aP CR now).turn,.int .i64 (aP CR now).since,.bool (aP CR now).st,.int .i64 (aP CR now).ak] 67:=(HXc.out.stays H4c.out).drew
 have Mz:=HMa.out.below ((Below.refl wc.heap.size wc).drew)
 refine wp_region_noPanic ?_
 refine bG (S:=(fun w'=>w'.cell? ⟨w2.heap.size,0,none⟩=some (.int .i64 (aP CR now).l0)∧w'.cell? ⟨w2.heap.size,1,none⟩=some (.int .i64 (aP CR now).l1)∧w'.cell? ⟨w2.heap.size,2,none⟩=some (.int .i64 (aP CR now).m0)∧w'.cell? ⟨w2.heap.size,3,none⟩=some (.int .i64 (aP CR now).m1)∧w'.cell? ⟨w2.heap.size,4,none⟩=some (.int .i64 (aP CR now).p0)∧w'.cell? ⟨w2.heap.size,5,none⟩=some (.int .i64 (aP CR now).p1)∧w'.cell? ⟨w2.heap.size,6,none⟩=some (.int .i64 (aP CR now).turn)∧w'.cell? ⟨w2.heap.size,7,none⟩=some (.int .i64 (aP CR now).since)∧w'.cell? ⟨w2.heap.size,8,none⟩=some (.bool (aP CR now).st)∧w'.cell? ⟨w2.heap.size,9,none⟩=some (.int .i64 (aP CR now).ak))) (L:=[6]) (by kernel_rfl) (by and_intros <;> exact Kz.cell _ rfl) (fun hHeld=>?_)
 refine aF 0 ?_
 refine dL 1 ?_
 refine dO 2 fun K hK=>?_
 go_simp
 refine (KC wc.drew).mono ?_
 rintro e wd ⟨rfl,hbb⟩
 unfold EO
 have K2:=Kz.stays hbb
 have M2:=Mz.below hbb
 have Hcd:=hid (show Below wc.heap.size wc wd from ((Below.refl wc.heap.size wc).drew).trans hbb)
 clear hbb
 refine hK.out _ _ (by and_intros <;> exact K2.cell _ rfl) (fun hHeld=>?_)
 clear hK K
 refine aF 3 ?_
 refine aF 4 ?_
 refine aF 5 ?_
 refine xE 6 fun K hK=>?_
 rw [if_pos (by rfl)]
 refine wp_store_mid 73 (.tmp 42) (.tmp 40) (by rfl) wb.heap.size 15 #[.slice none 0 0,.int .i64 0,.int .i64 0,.int .i64 (aP CR now).l0,.int .i64 (aP CR now).l1,.int .i64 (aP CR now).m0,.int .i64 (aP CR now).m1,.int .i64 (aP CR now).p0,.int .i64 (aP CR now).p1,.int .i64 (aP CR now).turn,.int .i64 (aP CR now).since,.bool (aP CR now).st,.int .i64 (aP CR now).ak,.int .i64 pO.b0,.int .i64 pO.b1,.int .i64 pO.aY,.int .i64 pO.aZ,.int .i64 pO.l10,.int .i64 pO.aX,.slice none 0 0] (by rfl) (by rfl) (M2.box.has 15 20 (by simp [J6])) (by kernel_rfl) (by simp [Value.oneCell']) ?_
 refine aK ?_
 intro we ee
 have P6:=M2.put (M':=⟨R,CR,[],0,0,aP CR now,pO,[],now,[]⟩) (B':=⟨up,us,ue,pa',pc',g,.slice none 0 0,.slice none 0 0⟩) 15 [.slice none 0 0,.int .i64 0,.int .i64 0,.int .i64 (aP CR now).l0,.int .i64 (aP CR now).l1,.int .i64 (aP CR now).m0,.int .i64 (aP CR now).m1,.int .i64 (aP CR now).p0,.int .i64 (aP CR now).p1,.int .i64 (aP CR now).turn,.int .i64 (aP CR now).since,.bool (aP CR now).st,.int .i64 (aP CR now).ak,.int .i64 pO.b0,.int .i64 pO.b1,.int .i64 pO.aY,.int .i64 pO.aZ,.int .i64 pO.l10,.int .i64 pO.aX,.slice none 0 0] (by simp) rfl rfl rfl rfl (M2.rd.imp (fun _ h=>⟨h.rd,h.per,h.pc,h.pr,h.jr⟩))
 have HMe:Hid (aH Ut S w0.heap.size we wb.heap.size ⟨R,CR,[],0,0,aP CR now,pO,[],now,[]⟩ ⟨up,us,ue,pa',pc',g,.slice none 0 0,.slice none 0 0⟩):=hid (by rw [ee]; exact P6.1)
 have HFe:Hid (dD S wb.heap.size wd we):=hid (by rw [ee]; exact P6.2)
 clear P6 ee
 refine hK.out _ _ ?_
 clear hK K
 refine iE ?_
 go_upto_region 9 with (fail)
 have HBe:Hid (Below w.heap.size w we):=hid (by
  have q1:Below w.heap.size w wd:=(HB4.out.trans (H4c.out.mono HB4.out.size)).trans (Hcd.out.mono (by have:=H4c.out.size; have:=HB4.out.size; omega))
  have q2:=dD.base M2 HFe.out (by have:=HW0.out; have:=H1c.out.size; have:=Hcd.out.size; have:=SI _ (NR.out (fun _=>False) (fun _ h=>h.elim)).sb; have:=ab3 _ (NR.out (fun _=>False) (fun _ h=>h.elim)).sb; omega)
  exact q1.trans (q2.mono (by have:=HW0.out; omega)))
 have HTe:=hid (nT.out.below HBe.out)
 have akv:=HMe
 clear Mz Kz K2 M2 HMa
 go_wp2_with fail
 refine (HIt.out now we (by omega) (by omega) HTe.out.1).mono ?_
 rintro e wf ⟨rfl,hbf⟩
 obtain ⟨it,hit⟩:∃ it:ByteArray,it=⟨(Lib.itoa now).toArray⟩:=⟨_,rfl⟩
 have ahH:it.size≤20:=by rw [hit]; show (Lib.itoa now).toArray.size≤20; rw [List.size_toArray]; exact EY now (by omega) (by omega)
 have akw:(⟨#[115,116,97,114,116,32]⟩:ByteArray).size=6:=rfl
 have afB:Hid ((⟨#[115,116,97,114,116,32]⟩:ByteArray)++it=iT now):=hid (by rw [hit]; unfold iT; apply ByteArray.ext; rw [ByteArray.data_append]; simp)
 rw [← hit]
 clear hit
 go_wp2_with fail
 rw [afB.out]
 have HTx:=hid (BD now (by omega) (by omega))
 have hJ:appJ [] (iT now)=([jS [] (iT now)],0):=by unfold appJ; rw [if_neg (by rw [HTx.out.1]; simp)]; rfl
 have hap:=sJ (.slice none 0 0) [] (iT now) wf (Rd.nil _ _) ⟨by simp,fun k h=>by cases h⟩ (by simp) (by have:=HTx.out.2; omega)
 rw [hJ] at hap
 refine hap.mono ?_
 rintro e wg ⟨vj,rfl,hoj,hbg⟩
 obtain ⟨ja,jc,hvj⟩:=aI hoj
 subst hvj
 have Y7:Below we.heap.size we wg:=hbf.trans (hbg.mono hbf.size)
 have Mg:=HMe.out.below Y7
 have hjb:∀ k,(Value.slice ja 1 jc).ownBlock=some k→wf.heap.size≤k∧k<wg.heap.size:=fun k hk=>hoj.lt k hk
 have hsb:wb.heap.size<wf.heap.size:=by have:=HMe.out.box.lt; have:=hbf.size; omega
 have P9:=Mg.put (M':=⟨R,CR,[],0,0,aP CR now,pO,[],now,[jS [] (iT now)]⟩) (B':=⟨up,us,ue,pa',pc',g,.slice none 0 0,.slice ja 1 jc⟩) 36 [.slice ja 1 jc] (by simp) rfl rfl rfl rfl (fun w' hw=>by
  have ho:=Mg.rd w' hw
  exact ⟨ho.rd,ho.per,ho.pc,ho.pr,Rd.fD (sQ hoj (fun k hk=>hw.block k (hjb k hk).2 (fun h=>by
   have:=(hjb k hk).1
   rcases h with h | h
   ·have:=SI k h; have:=H1c.out.size; have:=Hcd.out.size; have:=HFe.out.size; have:=hbf.size; omega
   ·rcases h with h | h
    ·rw [h] at this; omega
    ·exact h.elim)))⟩)
 have lG:Hid (aH Ut S w0.heap.size (wg.setCell ⟨wb.heap.size,36,none⟩ (.slice ja 1 jc)) wb.heap.size ⟨R,CR,[],0,0,aP CR now,pO,[],now,[jS [] (iT now)]⟩ ⟨up,us,ue,pa',pc',g,.slice none 0 0,.slice ja 1 jc⟩):=hid P9.1
 have c36:=Mg.box.cell 36 rfl
 have f36:=Mg.box.frozen 36
 have bI:Hid (Below w.heap.size w (wg.setCell ⟨wb.heap.size,36,none⟩ (.slice ja 1 jc))):=hid ((HBe.out.trans (Y7.mono HBe.out.size)).setCell (by have:=lG.out.lo; have:=HW0.out; show w.heap.size≤wb.heap.size; omega) _)
 clear P9 Mg hoj hbg hbf Y7 hap hJ
 go_upto_region 10 with (fail)
 generalize wg.setCell ⟨wb.heap.size,36,none⟩ (.slice ja 1 jc)=w9 at *
 have hs9:w0.heap.size≤w9.heap.size:=by have:=lG.out.box.lt; have:=lG.out.lo; omega
 go_wp2_with fail
 refine (wO HS.out w9 lG.out).mono ?_
 rintro e wh ⟨rfl,S',B',hMh,hsh,hFh⟩
 have HMh:=hid hMh
 have HBh:Hid (Below w.heap.size w wh):=hid (bI.out.trans ((dD.base lG.out hFh hs9).mono (by have:=HW0.out; omega)))
 have lY:=hid (Nat.le_trans hs9 hFh.size)
 clear hMh hsh hFh
 go_wp2_with fail
 go_ret2
 exact .inr ⟨Ui.out,Y3.out,_,S',_,B',rfl,HMh.out,by have:=HW0.out; omega,lY.out,HBh.out⟩
end Go.Proofs.YtmabaojkignodaaGreatDoor
namespace Go.Proofs.YtmabaojkignodaaGreatDoor
open Go.ChangeShapes Go.WideShapes Go.ChangeAt Go.RowKit
set_option linter.unusedVariables false
def ab5:iY:=⟨0,0,0,10,⟨-1,4,0⟩⟩
theorem SK (p:bg) (m:aN) (h1:¬ 0≤fP (fun x=>jE fJ p x (1 - p.turn)) fJ.ends 0) (h2:¬ (fJ.quiet≠0∧fJ.quiet≤p.quiet)) (hm:m∈uy fJ p):dJ fJ p=0:=by
 unfold dJ
 rw [if_neg h1,if_neg h2,if_pos (List.length_pos_of_mem (vW.2 hm))]
theorem Ws:dJ fJ (bn fJ [])=0:=SK _ ab5.m (by decide +kernel) (by decide +kernel) (by decide +kernel)
theorem Wu {ms:List aN} (h:dJ fJ (bn fJ ms)=0):fM fJ ms=0:=by
 unfold fM
 rw [if_neg (fun hc=>hc.2.1 rfl),h]
theorem Wv:dh fJ nO 0=⟨fJ,nO,[],0,0,aP nO 0,pO,[],0,[jS [] (iT 0)]⟩:=by
 unfold dh aG.over
 rw [if_neg (fun hc=>hc.1 (Wu Ws))]
theorem Fb (M:aG):M.over.ms=M.ms∧M.over.clk=M.clk:=by
 unfold aG.over
 split
 ·exact ⟨rfl,rfl⟩
 ·exact ⟨rfl,rfl⟩
end Go.Proofs.YtmabaojkignodaaGreatDoor
