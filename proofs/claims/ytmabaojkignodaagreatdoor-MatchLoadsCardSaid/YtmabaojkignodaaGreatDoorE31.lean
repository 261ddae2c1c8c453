/- MaO, MaQ, MaR, MaS, MaT. -/
import Derived.Test.YtmabaojkignodaaGreatDoorE30
namespace Go.Proofs.YtmabaojkignodaaGreatDoor
open Go.ChangeShapes Go.WideShapes Go.ChangeAt Go.RowKit
set_option linter.unusedVariables false
set_option maxHeartbeats 4000000
set_option maxRecDepth 100000
open Go.Lib (hid)
variable {X S:Nat→Prop} {base b:Nat} {M:aG} {B:jv}
def Oc (CR:nJ) (now:Int) (w:World) (e:Ending) (w':World):Prop:=
 (∃ c:Int,(c≠0∧¬ clk.cu CR.ps.length CR.inc CR.delay CR.ps)∧e=.returned (.tuple #[.agg #[.int .i64 0,.int .i64 0,.int .i64 0,.int .i64 0,.int .i64 0,.int .i64 0,.int .i64 0,.int .i64 0,.bool false,.int .i64 0],.int .i64 c])∧Below w.heap.size w w')∨(xU CR∧e=.returned (.tuple #[Bc (aP CR now),.int .i64 0])∧Below w.heap.size w w')
theorem Oe (CR:nJ) (pa:Option Addr) (pc:Nat) (now:Int) (w:World) (hp:clk.dV w w.heap.size pa CR.ps.length CR.ps) (hn:CR.ps.length≤maxLen) (h0:0≤now) (h1:now≤100000000) :
  Calls Tryz.prog 42 #[.agg #[.slice pa CR.ps.length pc,.int .i64 CR.inc,.int .i64 CR.delay],.int .i64 now] w (Oc CR now w):=by
 have HP:=hid hp
 have hn2:CR.ps.length≤9223372036854775807:=by unfold maxLen at hn; omega
 clear hp hn
 go_enter Tryz.func42,Tryz.ntmps42
 go_upto_region 1 with (fail)
 refine sV fun w0 jU DJ dM hs_=>?_
 have HX0:=hid jU
 have dn:=hid DJ
 have HB:=hid dM
 clear hs_ jU DJ dM
 refine wp_region_lit ?_
 refine aB (by rfl) 49 (.tmp 2) (by rfl) (w.heap.size) (by rfl) HX0.out Tryz.underlying49 (by rfl) (by kernel_rfl) ?_
 go_wp2_with fail
 refine (clk.fA pa CR.ps.length pc CR.inc CR.delay CR.ps w0 hn2 (HP.out.below HB.out)).mono ?_
 rintro e w1 ⟨c,rfl,hc,hb1⟩
 have HB1:=hid (aj HB.out hb1 HB.out.size)
 have oC:=hid (HX0.out.stays hb1)
 have dZ:=hid (dn.out.stays hb1)
 have HC:=hid hc
 clear hb1 hc HX0 dn HB
 by_cases hz:c=0
 rotate_left
 ·have hzb:(c != 0)=true:=by simpa using hz
  have HZ:=hid (And.intro hz (fun hr=>hz (HC.out.2 hr)))
  clear hz
  have y0:=dZ.out.cell 0 rfl
  have g0:=dZ.out.frozen 0
  have y1:=dZ.out.cell 1 rfl
  have g1:=dZ.out.frozen 1
  have y2:=dZ.out.cell 2 rfl
  have g2:=dZ.out.frozen 2
  have y3:=dZ.out.cell 3 rfl
  have g3:=dZ.out.frozen 3
  have y4:=dZ.out.cell 4 rfl
  have g4:=dZ.out.frozen 4
  have y5:=dZ.out.cell 5 rfl
  have g5:=dZ.out.frozen 5
  have y6:=dZ.out.cell 6 rfl
  have g6:=dZ.out.frozen 6
  have y7:=dZ.out.cell 7 rfl
  have g7:=dZ.out.frozen 7
  have y8:=dZ.out.cell 8 rfl
  have g8:=dZ.out.frozen 8
  have y9:=dZ.out.cell 9 rfl
  have g9:=dZ.out.frozen 9
  go_upto_region 3 with (fail)
  go_wp2_with fail
  have jH:=hid (dZ.out.store (vs:=[.int .i64 0,.int .i64 0,.int .i64 0,.int .i64 0,.int .i64 0,.int .i64 0,.int .i64 0,.int .i64 0,.bool false,.int .i64 0]) rfl)
  have HB2:=hid (below_setCells HB1.out (Nat.le_succ _) 0 [.int .i64 0,.int .i64 0,.int .i64 0,.int .i64 0,.int .i64 0,.int .i64 0,.int .i64 0,.int .i64 0,.bool false,.int .i64 0])
  exact bodyPost_ret (fV rfl (by rfl) (by rfl) jH.out Tryz.underlying67 (by rfl) (by kernel_rfl)) rfl (.inl ⟨c,HZ.out,rfl,HB2.out⟩)
 have Y3:Hid (xU CR):=hid (xU.of (HC.out.1 hz))
 subst hz
 obtain ⟨g,o,hpa,hgb,hcell⟩:=HP.out.2 (by have:=Y3.out.n; omega)
 subst hpa
 obtain ⟨c0,c1⟩:=hcell 0 (by have:=Y3.out.n; omega)
 have d1:=(HB1.out.cell (p:=⟨g,o+0 * 2+1,none⟩) hgb).trans c1
 have hg1:g<w1.heap.size:=Nat.lt_of_lt_of_le hgb HB1.out.size
 have hln:(0:Int)<(CR.ps.length:Int):=by have:=Y3.out.n; omega
 have hst:Hid (aP CR now=⟨(CR.ps.getD 0 (0,0)).2,(CR.ps.getD 0 (0,0)).2,0,0,0,0,0,now,false,-1⟩):=hid rfl
 have x0:=oC.out.cell 0 rfl
 generalize (CR.ps.getD 0 (0,0)).2=tm at *
 clear hcell c0 c1 HC
 have hww:clk.bZ now 0 100000000=true:=clk.dU ⟨h0,h1⟩
 go_wp2_with fail
 refine (clk.ay now 0 100000000 w1).mono ?_
 rintro e w2 ⟨rfl,rfl⟩
 rw [hww]
 go_upto_region 7 with (fail)
 have y0:=dZ.out.cell 0 rfl
 have g0:=dZ.out.frozen 0
 have y1:=dZ.out.cell 1 rfl
 have g1:=dZ.out.frozen 1
 have y2:=dZ.out.cell 2 rfl
 have g2:=dZ.out.frozen 2
 have y3:=dZ.out.cell 3 rfl
 have g3:=dZ.out.frozen 3
 have y4:=dZ.out.cell 4 rfl
 have g4:=dZ.out.frozen 4
 have y5:=dZ.out.cell 5 rfl
 have g5:=dZ.out.frozen 5
 have y6:=dZ.out.cell 6 rfl
 have g6:=dZ.out.frozen 6
 have y7:=dZ.out.cell 7 rfl
 have g7:=dZ.out.frozen 7
 have y8:=dZ.out.cell 8 rfl
 have g8:=dZ.out.frozen 8
 have y9:=dZ.out.cell 9 rfl
 have g9:=dZ.out.frozen 9
 go_wp2_with fail
 have jH:=hid (dZ.out.store (vs:=[.int .i64 tm,.int .i64 tm,.int .i64 0,.int .i64 0,.int .i64 0,.int .i64 0,.int .i64 0,.int .i64 now,.bool false,.int .i64 (-1)]) rfl)
 have HB2:=hid (below_setCells HB1.out (Nat.le_succ _) 0 [.int .i64 tm,.int .i64 tm,.int .i64 0,.int .i64 0,.int .i64 0,.int .i64 0,.int .i64 0,.int .i64 now,.bool false,.int .i64 (-1)])
 exact bodyPost_ret (fV rfl (by rfl) (by rfl) jH.out Tryz.underlying67 (by rfl) (by kernel_rfl)) rfl (.inr ⟨Y3.out,by rw [hst.out]; rfl,HB2.out⟩)
theorem KC (w:World):Calls Tryz.prog 45 #[] w fun e w'=>e=.returned (EO pO)∧Below w.heap.size w w':=by
 go_enter Tryz.func45,Tryz.ntmps45
 go_upto_region 1 with (fail)
 refine lM fun w0 jU dM hs_=>?_
 have HX0:=hid jU
 have HB:=hid dM
 clear hs_ jU dM
 have y0:=HX0.out.cell 0 rfl
 have g0:=HX0.out.frozen 0
 have y1:=HX0.out.cell 1 rfl
 have g1:=HX0.out.frozen 1
 have y2:=HX0.out.cell 2 rfl
 have g2:=HX0.out.frozen 2
 have y3:=HX0.out.cell 3 rfl
 have g3:=HX0.out.frozen 3
 have y4:=HX0.out.cell 4 rfl
 have g4:=HX0.out.frozen 4
 have y5:=HX0.out.cell 5 rfl
 have g5:=HX0.out.frozen 5
 go_wp2_with fail
 have jH:=hid (HX0.out.store (vs:=[.int .i64 (-1),.int .i64 (-1),.int .i64 (-1),.int .i64 (-1),.int .i64 (-1),.int .i64 (-1)]) rfl)
 have HB2:=hid (below_setCells HB.out (Nat.le_refl _) 0 [.int .i64 (-1),.int .i64 (-1),.int .i64 (-1),.int .i64 (-1),.int .i64 (-1),.int .i64 (-1)])
 exact bodyPost_ret (dR rfl (by rfl) jH.out Tryz.underlying70 (by rfl) (by kernel_rfl)) rfl ⟨rfl,HB2.out⟩
theorem yU (w:World) (h:aH X S base w b M B) (hl:M.jr.length≤100000):Calls Tryz.prog 16 #[.pointer (some ⟨b,0,none⟩)] w fun e w'=>∃ v',e=.returned v'∧YM M.jr w v' w':=by
 have HJ:=hid h.fr.jr
 have c36:=h.box.cell 36 rfl
 have HL:=hid hl
 clear h hl
 go_enter Tryz.func16,Tryz.ntmps16
 go_wp2_with fail
 refine (Ba B.vj M.jr w HJ.out (by have:=HL.out; omega)).mono ?_
 rintro e w1 ⟨v',rfl,ho⟩
 have HO:=hid ho
 clear ho
 go_wp2_with fail
 go_ret
 exact ⟨v',rfl,HO.out⟩
end Go.Proofs.YtmabaojkignodaaGreatDoor
namespace Go.Proofs.YtmabaojkignodaaGreatDoor
open Go.ChangeShapes Go.WideShapes Go.ChangeAt Go.RowKit
set_option linter.unusedVariables false
open Go.Lib (hid)
variable {X S:Nat→Prop} {base b:Nat} {M:aG} {B:jv}
theorem pW {P:Program} {ops:Array Oper} {Q:Exit→Act→World→Prop} {rest:List Oper} {a:Act} {W:World} (h:∀ w',w'=W→wpList P ops Q rest a w'):wpList P ops Q rest a W:=h _ rfl
def Og (M:aG) (w:World) (e:Ending) (w':World):Prop:=∃ ma mc qa qc,e=.returned (.agg #[.slice ma M.ms.length mc,.int .i64 M.res,.int .i64 M.reason,.int .i64 M.clk.l0,.int .i64 M.clk.l1,.int .i64 M.clk.m0,.int .i64 M.clk.m1,.int .i64 M.clk.p0,.int .i64 M.clk.p1,.int .i64 M.clk.turn,.int .i64 M.clk.since,.bool M.clk.st,.int .i64 M.clk.ak,.int .i64 M.off.b0,.int .i64 M.off.b1,.int .i64 M.off.aY,.int .i64 M.off.aZ,.int .i64 M.off.l10,.int .i64 M.off.aX,.slice qa M.aS.length qc])∧w'.ownsRow w.heap.size 52 3 (.slice ma M.ms.length mc) M.ms.length (bJ M.ms)∧w'.ownsRow w.heap.size 139 4 (.slice qa M.aS.length qc) M.aS.length (bW M.aS)∧Below w.heap.size w w'
set_option maxRecDepth 100000 in
set_option maxHeartbeats 4000000 in
theorem yx (w:World) (h:aH X S base w b M B) (hl:M.aS.length≤1000):Calls Tryz.prog 18 #[.pointer (some ⟨b,0,none⟩)] w (Og M w):=by
 obtain ⟨vp,vs,ve,pa,pc,g,vr,vj⟩:=B
 obtain ⟨ra,rc,hvr,hr1,hr2⟩:=h.fr.pr.form
 dsimp only at hvr
 subst hvr
 have HM:=hid h
 have abW:=hid h
 have HL:=hid hl
 unfold maxLen at hr2
 clear h hl
 go_enter Tryz.func18,Tryz.ntmps18
 go_upto_region 1 with (fail)
 refine lM fun w0 jU dM hs_=>?_
 have HX0:=hid jU
 have HB:=hid dM
 clear hs_ jU dM
 have iZ:=hid (HM.out.below HB.out)
 obtain ⟨bx,hbx⟩:∃ bx,bx=w0.heap.size:=⟨_,rfl⟩
 have dn:Hid (Box (w0.alloc (.cells #[.slice none 0 0,.int .i64 0,.int .i64 0,.int .i64 0,.int .i64 0,.int .i64 0,.int .i64 0,.int .i64 0,.int .i64 0,.int .i64 0,.int .i64 0,.bool false,.int .i64 0,.int .i64 0,.int .i64 0,.int .i64 0,.int .i64 0,.int .i64 0,.int .i64 0,.slice none 0 0] 73)) bx [.slice none 0 0,.int .i64 0,.int .i64 0,.int .i64 0,.int .i64 0,.int .i64 0,.int .i64 0,.int .i64 0,.int .i64 0,.int .i64 0,.int .i64 0,.bool false,.int .i64 0,.int .i64 0,.int .i64 0,.int .i64 0,.int .i64 0,.int .i64 0,.int .i64 0,.slice none 0 0] 73):=hid (Box.new' w0 bx [.slice none 0 0,.int .i64 0,.int .i64 0,.int .i64 0,.int .i64 0,.int .i64 0,.int .i64 0,.int .i64 0,.int .i64 0,.int .i64 0,.int .i64 0,.bool false,.int .i64 0,.int .i64 0,.int .i64 0,.int .i64 0,.int .i64 0,.int .i64 0,.int .i64 0,.slice none 0 0] 73 hbx.symm)
 refine wp_region_lit ?_
 refine wpList_plain (by rfl) (fun K hK=>?_)
 go_simp
 refine hK _ _ ?_
 clear hK K
 try simp only [Act.put,qw,qx,qy]
 refine wpList_plain (by rfl) (fun K hK=>?_)
 go_simp
 refine hK _ _ ?_
 clear hK K
 try simp only [Act.put,qw,qx,qy]
 refine wpList_plain (by rfl) (fun K hK=>?_)
 go_simp
 refine hK _ _ ?_
 clear hK K
 try simp only [Act.put,qw,qx,qy]
 refine wpList_load_mid (by rfl) 73 (.tmp 6) (by rfl) b 15 (by rfl) [.slice none 0 0,.int .i64 M.res,.int .i64 M.reason,.int .i64 M.clk.l0,.int .i64 M.clk.l1,.int .i64 M.clk.m0,.int .i64 M.clk.m1,.int .i64 M.clk.p0,.int .i64 M.clk.p1,.int .i64 M.clk.turn,.int .i64 M.clk.since,.bool M.clk.st,.int .i64 M.clk.ak,.int .i64 M.off.b0,.int .i64 M.off.b1,.int .i64 M.off.aY,.int .i64 M.off.aZ,.int .i64 M.off.l10,.int .i64 M.off.aX,.slice ra M.aS.length rc] _ (iZ.out.box.mid 15 (by rfl)) Tryz.underlying73 (by rfl) (by kernel_rfl) ?_
 try simp only [Act.put,qw,qx,qy]
 refine wpList_plain (by rfl) (fun K hK=>?_)
 go_simp
 refine hK _ _ ?_
 clear hK K
 try simp only [Act.put,qw,qx,qy]
 refine pW ?_
 intro w1 e1
 have jH:Hid (Box w1 bx [.slice none 0 0,.int .i64 0,.int .i64 0,.int .i64 0,.int .i64 0,.int .i64 0,.int .i64 0,.int .i64 0,.int .i64 0,.int .i64 0,.int .i64 0,.bool false,.int .i64 0,.int .i64 0,.int .i64 0,.int .i64 0,.int .i64 0,.int .i64 0,.int .i64 0,.slice none 0 0] 73):=hid (by rw [e1]; exact dn.out)
 have HB1:Hid (Below w.heap.size w w1):=hid (by rw [e1]; exact HB.out.alloc HB.out.size _)
 have CS:Hid (Box w1 w.heap.size [.slice none 0 0,.int .i64 0,.int .i64 0,.int .i64 0,.int .i64 0,.int .i64 0,.int .i64 0,.int .i64 0,.int .i64 0,.int .i64 0,.int .i64 0,.bool false,.int .i64 0,.int .i64 0,.int .i64 0,.int .i64 0,.int .i64 0,.int .i64 0,.int .i64 0,.slice none 0 0] 73):=hid (by rw [e1]; exact HX0.out.alloc _)
 have Uz:Hid (aH X S base w1 b _ _):=hid (HM.out.below HB1.out)
 have UA:Hid (w.heap.size≤bx∧w.heap.size≠bx):=hid ⟨by rw [hbx]; exact HB.out.size,by have:=HX0.out.lt; omega⟩
 rw [← hbx]
 clear e1 hbx dn HX0 HB iZ
 refine aT (vs:=[.slice none 0 0,.int .i64 M.res,.int .i64 M.reason,.int .i64 M.clk.l0,.int .i64 M.clk.l1,.int .i64 M.clk.m0,.int .i64 M.clk.m1,.int .i64 M.clk.p0,.int .i64 M.clk.p1,.int .i64 M.clk.turn,.int .i64 M.clk.since,.bool M.clk.st,.int .i64 M.clk.ak,.int .i64 M.off.b0,.int .i64 M.off.b1,.int .i64 M.off.aY,.int .i64 M.off.aZ,.int .i64 M.off.l10,.int .i64 M.off.aX,.slice ra M.aS.length rc]) (by rfl) 73 (.tmp 3) (.tmp 7) (by rfl) bx (by rfl) (by rfl) jH.out rfl (by kernel_rfl) (by rfl) ?_
 have I4:=hid (jH.out.store (vs:=[.slice none 0 0,.int .i64 M.res,.int .i64 M.reason,.int .i64 M.clk.l0,.int .i64 M.clk.l1,.int .i64 M.clk.m0,.int .i64 M.clk.m1,.int .i64 M.clk.p0,.int .i64 M.clk.p1,.int .i64 M.clk.turn,.int .i64 M.clk.since,.bool M.clk.st,.int .i64 M.clk.ak,.int .i64 M.off.b0,.int .i64 M.off.b1,.int .i64 M.off.aY,.int .i64 M.off.aZ,.int .i64 M.off.l10,.int .i64 M.off.aX,.slice ra M.aS.length rc]) rfl)
 have Ur:=hid (CS.out.qA UA.out.2 0 [.slice none 0 0,.int .i64 M.res,.int .i64 M.reason,.int .i64 M.clk.l0,.int .i64 M.clk.l1,.int .i64 M.clk.m0,.int .i64 M.clk.m1,.int .i64 M.clk.p0,.int .i64 M.clk.p1,.int .i64 M.clk.turn,.int .i64 M.clk.since,.bool M.clk.st,.int .i64 M.clk.ak,.int .i64 M.off.b0,.int .i64 M.off.b1,.int .i64 M.off.aY,.int .i64 M.off.aZ,.int .i64 M.off.l10,.int .i64 M.off.aX,.slice ra M.aS.length rc])
 have HB2:=hid (below_setCells HB1.out UA.out.1 0 [.slice none 0 0,.int .i64 M.res,.int .i64 M.reason,.int .i64 M.clk.l0,.int .i64 M.clk.l1,.int .i64 M.clk.m0,.int .i64 M.clk.m1,.int .i64 M.clk.p0,.int .i64 M.clk.p1,.int .i64 M.clk.turn,.int .i64 M.clk.since,.bool M.clk.st,.int .i64 M.clk.ak,.int .i64 M.off.b0,.int .i64 M.off.b1,.int .i64 M.off.aY,.int .i64 M.off.aZ,.int .i64 M.off.l10,.int .i64 M.off.aX,.slice ra M.aS.length rc])
 have ou:=hid (HM.out.below HB2.out)
 generalize (w1.setCells bx 0 [.slice none 0 0,.int .i64 M.res,.int .i64 M.reason,.int .i64 M.clk.l0,.int .i64 M.clk.l1,.int .i64 M.clk.m0,.int .i64 M.clk.m1,.int .i64 M.clk.p0,.int .i64 M.clk.p1,.int .i64 M.clk.turn,.int .i64 M.clk.since,.bool M.clk.st,.int .i64 M.clk.ak,.int .i64 M.off.b0,.int .i64 M.off.b1,.int .i64 M.off.aY,.int .i64 M.off.aZ,.int .i64 M.off.l10,.int .i64 M.off.aX,.slice ra M.aS.length rc])=w2 at *
 clear jH CS HB1 Uz
 go_upto_region 2 with (fail)
 generalize w2=wq at *
 have Mz:=ou.out.below (aA (Below.refl _ _))
 have Xz:=I4.out.drew
 have Oz:=Ur.out.drew
 have Lz:Below w.heap.size w wq.drew:=aA HB2.out
 have Yj:Hid (bx<wq.drew.heap.size):=hid Xz.lt
 have Yg:Hid (w.heap.size<wq.drew.heap.size):=hid Oz.lt
 obtain ⟨up,us,ue,vl,vm,rows,hg⟩:=Mz.game
 have Gz:=hg.plain
 clear ou I4 Ur HB2 hg
 refine wp_region_noPanic ?_
 refine bG (S:=(fun w'=>w'.cell? ⟨b,14,none⟩=some (.pointer (some ⟨g,0,none⟩))∧w'.cell? ⟨b,34,none⟩=some (.slice ra M.aS.length rc))) (L:=[]) (by kernel_rfl) ⟨Mz.box.cell 14 rfl,Mz.box.cell 34 rfl⟩ (fun hHeld=>?_)
 refine aF 0 ?_
 refine aF 5 ?_
 refine aF 1 ?_
 refine aF 6 ?_
 refine aF 2 ?_
 refine aF 7 ?_
 refine dL 3 ?_
 refine aF 8 ?_
 refine dL 9 ?_
 refine dO 4 fun K hK=>?_
 go_simp
 refine (tC _ Gz).mono ?_
 rintro e w4 ⟨vmv,rfl,ho4,hbb⟩
 obtain ⟨ma,mc,rfl⟩:=aI ho4
 have L4z:=hbb.size
 have M4:=Mz.below hbb
 have X4:=Xz.stays hbb
 have O4:=Oz.stays hbb
 have L4:=aj Lz hbb Lz.size
 have R4:=ho4
 clear hbb
 refine hK.out _ _ ⟨M4.box.cell 14 rfl,M4.box.cell 34 rfl⟩ (fun hHeld=>?_)
 clear hK K
 refine aF 11 ?_
 refine dO 10 fun K hK=>?_
 go_simp
 refine (pF _ M.aS _ M4.fr.pr (by have:=HL.out; omega)).mono ?_
 rintro e w10 ⟨vpv,rfl,Y4,hbb⟩
 obtain ⟨qa,qc,rfl⟩:=aI Y4
 have M10:=M4.below hbb
 have Sl:=X4.stays hbb
 have O10:=O4.stays hbb
 have wG:=aj L4 hbb L4.size
 have R10:=bK R4 hbb
 have Q10:=own_base Y4 L4z
 clear hbb
 refine hK.out _ _ ⟨M10.box.cell 14 rfl,M10.box.cell 34 rfl⟩ (fun hHeld=>?_)
 clear hK K
 refine dO 12 fun K hK=>?_
 have dd:=Sl.cell 0 rfl
 have df:=Sl.frozen 0
 go_simp
 refine aK ?_
 intro w12 e12
 clear dd df
 have CZ:=Sl.set 0 (.slice ma M.ms.length mc)
 have O12:=O10.far ⟨bx,0,none⟩ (.slice ma M.ms.length mc) UA.out.2
 have lQ:=wG.setCell (p:=⟨bx,0,none⟩) UA.out.1 (.slice ma M.ms.length mc)
 have R12:w12.ownsRow wq.drew.heap.size 52 3 (.slice ma M.ms.length mc) M.ms.length (bJ M.ms):=by rw [e12]; exact aQ R10 Yj.out 0 [.slice ma M.ms.length mc]
 have Q12:w12.ownsRow wq.drew.heap.size 139 4 (.slice qa M.aS.length qc) M.aS.length (bW M.aS):=by rw [e12]; exact aQ Q10 Yj.out 0 [.slice ma M.ms.length mc]
 rw [← e12] at CZ O12 lQ
 clear e12
 have M12:=abW.out.below lQ
 have afr:Below w10.heap.size w10 w12∨True:=.inr trivial
 refine hK.out _ _ ⟨M12.box.cell 14 rfl,M12.box.cell 34 rfl⟩ (fun hHeld=>?_)
 clear hK K
 refine aF 13 ?_
 refine dO 14 fun K hK=>?_
 have dd:=CZ.cell 19 rfl
 have df:=CZ.frozen 19
 go_simp
 refine aK ?_
 intro mM e14
 clear dd df
 have LM:=CZ.set 19 (.slice qa M.aS.length qc)
 have BR:=O12.far ⟨bx,19,none⟩ (.slice qa M.aS.length qc) UA.out.2
 have zf:=lQ.setCell (p:=⟨bx,19,none⟩) UA.out.1 (.slice qa M.aS.length qc)
 have R14:mM.ownsRow wq.drew.heap.size 52 3 (.slice ma M.ms.length mc) M.ms.length (bJ M.ms):=by rw [e14]; exact aQ R12 Yj.out 19 [.slice qa M.aS.length qc]
 have Un:mM.ownsRow wq.drew.heap.size 139 4 (.slice qa M.aS.length qc) M.aS.length (bW M.aS):=by rw [e14]; exact aQ Q12 Yj.out 19 [.slice qa M.aS.length qc]
 rw [← e14] at LM BR zf
 clear e14
 have M14:=abW.out.below zf
 have afs:Below w10.heap.size w10 mM∨True:=.inr trivial
 refine hK.out _ _ ⟨M14.box.cell 14 rfl,M14.box.cell 34 rfl⟩ (fun hHeld=>?_)
 clear hK K
 refine iE ?_
 have oG:=hid LM
 have Dp:=hid BR
 have zD:=hid zf
 have CU:=hid R14
 have HQ6:=hid Un
 clear LM BR zf M14 R14 Un CZ O12 lQ M12 R12 Q12 Sl O10 wG M10 R10 Q10 X4 O4 L4 M4 R4 ho4 Y4 Xz Oz Lz Mz Gz hHeld afr afs
 go_upto_region 3 with (fail)
 generalize mM=w7 at *
 refine wp_region_lit ?_
 refine aB (by rfl) 73 (.tmp 3) (by rfl) bx (by rfl) oG.out Tryz.underlying73 (by rfl) (by kernel_rfl) ?_
 refine aT (vs:=[.slice ma M.ms.length mc,.int .i64 M.res,.int .i64 M.reason,.int .i64 M.clk.l0,.int .i64 M.clk.l1,.int .i64 M.clk.m0,.int .i64 M.clk.m1,.int .i64 M.clk.p0,.int .i64 M.clk.p1,.int .i64 M.clk.turn,.int .i64 M.clk.since,.bool M.clk.st,.int .i64 M.clk.ak,.int .i64 M.off.b0,.int .i64 M.off.b1,.int .i64 M.off.aY,.int .i64 M.off.aZ,.int .i64 M.off.l10,.int .i64 M.off.aX,.slice qa M.aS.length qc]) (by rfl) 73 (.tmp 2) (.tmp 21) (by rfl) w.heap.size (by rfl) (by rfl) Dp.out rfl (by kernel_rfl) (by rfl) ?_
 have PZ:=hid (Dp.out.store (vs:=[.slice ma M.ms.length mc,.int .i64 M.res,.int .i64 M.reason,.int .i64 M.clk.l0,.int .i64 M.clk.l1,.int .i64 M.clk.m0,.int .i64 M.clk.m1,.int .i64 M.clk.p0,.int .i64 M.clk.p1,.int .i64 M.clk.turn,.int .i64 M.clk.since,.bool M.clk.st,.int .i64 M.clk.ak,.int .i64 M.off.b0,.int .i64 M.off.b1,.int .i64 M.off.aY,.int .i64 M.off.aZ,.int .i64 M.off.l10,.int .i64 M.off.aX,.slice qa M.aS.length qc]) rfl)
 have uD:=hid (below_setCells zD.out (Nat.le_refl _) 0 [.slice ma M.ms.length mc,.int .i64 M.res,.int .i64 M.reason,.int .i64 M.clk.l0,.int .i64 M.clk.l1,.int .i64 M.clk.m0,.int .i64 M.clk.m1,.int .i64 M.clk.p0,.int .i64 M.clk.p1,.int .i64 M.clk.turn,.int .i64 M.clk.since,.bool M.clk.st,.int .i64 M.clk.ak,.int .i64 M.off.b0,.int .i64 M.off.b1,.int .i64 M.off.aY,.int .i64 M.off.aZ,.int .i64 M.off.l10,.int .i64 M.off.aX,.slice qa M.aS.length qc])
 skip
 refine pW ?_
 intro w8 e8
 rw [← e8] at PZ uD
 have HR8:Hid (w8.ownsRow wq.drew.heap.size 52 3 (.slice ma M.ms.length mc) M.ms.length (bJ M.ms)):=hid (by rw [e8]; exact aQ CU.out Yg.out 0 _)
 have HQ8:Hid (w8.ownsRow wq.drew.heap.size 139 4 (.slice qa M.aS.length qc) M.aS.length (bW M.aS)):=hid (by rw [e8]; exact aQ HQ6.out Yg.out 0 _)
 clear e8
 go_wp2_with fail
 exact bodyPost_ret (dR rfl (by rfl) PZ.out Tryz.underlying73 (by rfl) (by kernel_rfl)) rfl ⟨_,_,_,_,rfl,own_base HR8.out (Nat.le_of_lt Yg.out),own_base HQ8.out (Nat.le_of_lt Yg.out),uD.out⟩
end Go.Proofs.YtmabaojkignodaaGreatDoor
namespace Go.Proofs.YtmabaojkignodaaGreatDoor
open Go.ChangeShapes Go.WideShapes Go.ChangeAt Go.RowKit
set_option linter.unusedVariables false
open Go.Lib (hid)
variable {S:Nat→Prop} {base b:Nat} {M:aG} {B:jv}
def Bv:El (Int×Int) where
 k:=2
 E:=fun _ x cs=>cs=[.int .i64 x.1,.int .i64 x.2]
 mono:=fun h _ _=>h
 len:=fun h=>by subst h; rfl
theorem Wp {w:World} {A:Option Addr} {n pc:Nat} {ps:List (Int×Int)} (h:clk.dV w w.heap.size A n ps) (h1:n≤pc) (h2:pc≤maxLen):gI Bv w (.slice A n pc) ps:=by
 have hl:=h.1
 rcases Nat.eq_zero_or_pos n with h0 | h0
 ·subst h0
  exact .inl ⟨A,pc,rfl,h2,hl⟩
 ·obtain ⟨b,off,rfl,hlt,hc⟩:=h.2 h0
  refine .inr ⟨b,off,pc,by rw [hl],by omega,h2,hlt,fun i hi=>⟨_,rfl,fun j hj=>?_⟩⟩
  have hc':=hc i (by omega)
  rw [List.getD_eq_getElem?_getD,List.getElem?_eq_getElem hi,Option.getD_some] at hc'
  have hj2:j=0∨j=1:=by have:j<2:=hj; omega
  rcases hj2 with rfl | rfl
  ·exact hc'.1
  ·exact hc'.2
theorem LQ {w:World} {A:Option Addr} {n pc:Nat} {ps:List (Int×Int)} (h:gI Bv w (.slice A n pc) ps):clk.dV w w.heap.size A ps.length ps:=by
 refine ⟨rfl,fun h0=>?_⟩
 obtain ⟨g,o,rfl,hg,hc⟩:=h.some h0
 refine ⟨g,o,rfl,hg,fun k hk=>?_⟩
 obtain ⟨cs,rfl,hcell⟩:=hc k hk
 rw [List.getD_eq_getElem?_getD,List.getElem?_eq_getElem hk,Option.getD_some]
 have c0:=hcell 0 (by show 0<2; omega)
 have c1:=hcell 1 (by show 1<2; omega)
 exact ⟨c0,c1⟩
theorem SG:(Tryz.prog.info? 154).map (fun i=>(i.zero,i.size,i.bytes))=some (some (.agg #[.int .i64 0,.int .i64 0]),2,16):=by kernel_rfl
theorem Oh {α:Type} (el:El α) (hk:el.k=2) (h1:∀ (w:World) (x:α) (cs:List Value),el.E w x cs→∀ u∈cs,u.oneCell'=true) (v:Value) (xs:List α) (w:World) (h:gI el w v xs) (hl:xs.length≤1000000) :
  Calls Tryz.prog 88 #[v] w (ji el 154 xs w):=by
 obtain ⟨i0,hi,hz0,hz1,hz2⟩:=jC SG
 have hq:=fun (w:World) (a:Option Addr) (n c:Nat)=>Lib.run_eql_slice_nil (P:=Tryz.prog) w 47 154 a n c 0 0 Tryz.underlying47
 have hown0:(w.alloc (.cells #[] 154)).ownsRow w.heap.size 154 2 (.slice (some ⟨w.heap.size,0,none⟩) 0 0) 0 []:=World.ownsRow_made w #[] 0 (Nat.le_refl _) (by unfold maxLen; omega) rfl
 obtain ⟨a,n,c,vs,rfl,hn,hvl,hone,hE,hcell⟩:=mX h1 h
 rw [hk] at hvl
 have HR:=hid hE
 cases a with
 | none =>
  have hn0:n=0:=hcell.1 rfl
  subst hn0
  obtain rfl:xs=[]:=List.length_eq_zero_iff.1 hn.symm
  clear h hl hE hcell hown0 hn hvl hone HR hi hz0 hz1 hz2
  go_enter Tryz.func88,Tryz.ntmps88
  go_wp2
  go_ret
  exact ⟨_,[],rfl,World.ownsRow_nil _ _ _ _,(fun i hi=>by cases hi),Below.refl _ _⟩
 | some ad =>
  have hnews:∀ j u,vs[j]?=some u→(w.alloc (.cells #[] 154)).cell? (ad.add j)=some u:=fun j u hu=>by
   have hc:=hcell.2 ad rfl j u hu
   rw [World.cell?_of_block (w:=w) (a:=ad.add j) (Below.heap_alloc w _ _ (World.block_lt_of_cell? w _ hc))]
   exact hc
  have oM:=hid hown0
  have oN:=hid hnews
  have ML:=hid hvl
  have Ej:=hid hone
  have hnl:n≤1000000:=by omega
  have HN:=hid hn
  clear hown0 hnews hcell h hE hvl hone hl hn
  go_enter Tryz.func88,Tryz.ntmps88
  go_wp2_with (at_builtin; refine wpList_append_own _ rfl _ _ 47 rfl w.heap.size 154 i0 (.agg #[.int .i64 0,.int .i64 0]) 2 16 Tryz.underlying47 hi hz0 hz1 hz2 rfl (by decide) _ 0 [] rfl oM.out ad n c vs rfl ML.out oN.out Ej.out ?c3 ?c4 ?c5 ?_)
  case c3=>unfold maxLen; omega
  case c4=>omega
  case c5=>simp
  intro v' w2 hown' hgrow _
  try simp only [Nat.zero_add,List.nil_append] at hown'
  have hb:Below w.heap.size w w2:=Below.grown ((Below.refl _ w).alloc (Nat.le_refl _) _) hgrow (by simp) (fun q hq=>by simp [Value.ownBlock] at hq; omega)
  have HO:=hid hown'
  have HB:=hid hb
  clear hown' hgrow hb
  go_wp2
  go_ret
  exact ⟨v',vs,rfl,by rw [← HN.out,hk]; exact HO.out,fun i hi=>el.mono (HR.out i hi) HB.out (Nat.le_refl _),HB.out⟩
def Oi (CR:nJ) (w:World) (e:Ending) (w':World):Prop:=∃ pa' pc' vs,e=.returned (.agg #[.slice pa' CR.ps.length pc',.int .i64 CR.inc,.int .i64 CR.delay])∧w'.ownsRow w.heap.size 154 2 (.slice pa' CR.ps.length pc') CR.ps.length vs∧gI Bv w' (.slice pa' CR.ps.length pc') CR.ps∧Below w.heap.size w w'
set_option maxRecDepth 100000 in
set_option maxHeartbeats 4000000 in
theorem Oj (CR:nJ) (pa:Option Addr) (pc:Nat) (w:World) (hp:clk.dV w w.heap.size pa CR.ps.length CR.ps) (h1:CR.ps.length≤pc) (h2:pc≤maxLen) (hl:CR.ps.length≤1000) :
  Calls Tryz.prog 44 #[.agg #[.slice pa CR.ps.length pc,.int .i64 CR.inc,.int .i64 CR.delay]] w (Oi CR w):=by
 have HR:=hid (Wp hp h1 h2)
 have HL:=hid hl
 clear hp hl
 go_enter Tryz.func44,Tryz.ntmps44
 go_upto_region 1 with (fail)
 refine sV fun w0 jU DJ dM hs_=>?_
 have HX0:=hid jU
 have dn:=hid DJ
 have HB:=hid dM
 clear hs_ jU DJ dM
 have c0:=HX0.out.cell 0 rfl
 have HCl:=hid (Oh Bv rfl (fun w x cs h u hu=>by subst h; simp at hu; rcases hu with rfl | rfl <;> rfl) _ CR.ps w0 (HR.out.below HB.out (Nat.le_refl _)) (by have:=HL.out; omega))
 have hs0:w.heap.size+1<w0.heap.size:=dn.out.lt
 go_wp2_with fail
 refine HCl.out.mono ?_
 rintro e w1 ⟨v,vs,rfl,hown,hE,hb1⟩
 have oC:=hid (HX0.out.stays hb1)
 have dZ:=hid (dn.out.stays hb1)
 have HB1:=hid (HB.out.trans (hb1.mono HB.out.size))
 obtain ⟨pa',pc',hv⟩:=aI hown
 subst hv
 have gW:Hid (∀ (w:World) i (h:i<CR.ps.length),Bv.E w CR.ps[i] ((vs.drop (i * 2)).take 2)):=hid fun _=>hE
 have HO:=hid hown
 have c1:=oC.out.cell 0 rfl
 have f1:=oC.out.frozen 0
 clear hown hE hb1 c0
 go_upto_region 2 with (fail)
 have jH:=hid (oC.out.set 0 (.slice pa' CR.ps.length pc'))
 have CS:=hid (dZ.out.far ⟨w.heap.size,0,none⟩ (.slice pa' CR.ps.length pc') (by show w.heap.size+1≠w.heap.size; omega))
 have uw:Hid ((w1.setCell ⟨w.heap.size,0,none⟩ (.slice pa' CR.ps.length pc')).ownsRow w0.heap.size 154 2 (.slice pa' CR.ps.length pc') CR.ps.length vs):=hid (aQ HO.out (b:=w.heap.size) (by omega) 0 [.slice pa' CR.ps.length pc'])
 have HB2:Hid (Below w.heap.size w (w1.setCell ⟨w.heap.size,0,none⟩ (.slice pa' CR.ps.length pc'))):=hid (HB1.out.setCell (Nat.le_refl _) _)
 generalize w1.setCell ⟨w.heap.size,0,none⟩ (.slice pa' CR.ps.length pc')=w2 at *
 refine wp_region_lit ?_
 refine aB (cs:=[.slice pa' CR.ps.length pc',.int .i64 CR.inc,.int .i64 CR.delay]) (by rfl) 49 (.tmp 1) (by rfl) w.heap.size (by rfl) jH.out Tryz.underlying49 (by rfl) (by kernel_rfl) ?_
 refine aT (vs:=[.slice pa' CR.ps.length pc',.int .i64 CR.inc,.int .i64 CR.delay]) (by rfl) 49 (.tmp 2) (.tmp 7) (by rfl) (w.heap.size+1) (by rfl) (by rfl) CS.out (by rfl) (by kernel_rfl) (by rfl) ?_
 have HS:=hid (CS.out.store (vs:=[.slice pa' CR.ps.length pc',.int .i64 CR.inc,.int .i64 CR.delay]) rfl)
 have Gu:=hid (below_setCells HB2.out (Nat.le_succ _) 0 [.slice pa' CR.ps.length pc',.int .i64 CR.inc,.int .i64 CR.delay])
 have HOf:=hid (aQ uw.out (b:=w.heap.size+1) hs0 0 [.slice pa' CR.ps.length pc',.int .i64 CR.inc,.int .i64 CR.delay])
 generalize w2.setCells (w.heap.size+1) 0 [.slice pa' CR.ps.length pc',.int .i64 CR.inc,.int .i64 CR.delay]=wf at *
 go_wp2_with fail
 exact bodyPost_ret (dR rfl (by rfl) HS.out Tryz.underlying49 (by rfl) (by kernel_rfl)) rfl ⟨pa',pc',vs,rfl,own_base HOf.out (by omega),gI.fD HOf.out (fun i h=>gW.out wf i h),Gu.out⟩
end Go.Proofs.YtmabaojkignodaaGreatDoor
namespace Go.Proofs.YtmabaojkignodaaGreatDoor
open Go.ChangeShapes Go.WideShapes Go.ChangeAt Go.RowKit
set_option linter.unusedVariables false
open Go.Lib (hid)
variable {S:Nat→Prop} {base b:Nat} {M:aG} {B:jv}
theorem aau {w:World} {a:Option Addr} {n c:Nat} {xs:List bT} (h:gI dF w (.slice a n c) xs) (i:Nat) (hi:i<xs.length):∃ g o,a=some ⟨g,o,none⟩∧g<w.heap.size∧w.cell? ⟨g,o+i * 4,none⟩=some (.int .i64 xs[i].au)∧w.cell? ⟨g,o+i * 4+1,none⟩=some (.int .i64 xs[i].move.src) ∧
  w.cell? ⟨g,o+i * 4+2,none⟩=some (.int .i64 xs[i].move.dst)∧w.cell? ⟨g,o+i * 4+3,none⟩=some (.int .i64 xs[i].move.piece):=by
 obtain ⟨g,o,ha,hg,hc⟩:=h.some (by omega)
 obtain ⟨cs,rfl,hx⟩:=hc i hi
 exact ⟨g,o,ha,hg,hx 0 (by show 0<4; omega),hx 1 (by show 1<4; omega),hx 2 (by show 2<4; omega),hx 3 (by show 3<4; omega)⟩
theorem aaR (d:Nat) (a b:Int) (w:World):(Op.equalIn (d+1+1) 65 (.agg #[.int .i64 a,.int .i64 b]) (.agg #[.int .i64 a,.int .i64 b])).run Tryz.prog w=.ok true w:=by
 have u3:=Tryz.underlying3
 have a3:=Tryz.isAgg3
 have z3:=Tryz.sizeOf3
 rw [Op.equalIn]
 simp only [Sem.run_bind,run_underlying Tryz.underlying65,Result.andThen_ok]
 simp only [Std.Legacy.Range.forIn_eq_forIn_range',Std.Legacy.Range.size,Nat.sub_zero,Nat.add_sub_cancel,Nat.div_one,List.range'_succ,List.range'_zero,List.forIn_cons,List.forIn_nil]
 go_simp
theorem abz (d:Nat) (a b a' b':Int) (w:World):(Op.equalIn (d+1+1+1) 68 (.agg #[.int .i64 a,.int .i64 b,.int .i64 a',.int .i64 b']) (.agg #[.int .i64 a,.int .i64 b,.int .i64 a',.int .i64 b'])).run Tryz.prog w=.ok true w:=by
 have u3:=Tryz.underlying65
 have a3:=Tryz.isAgg65
 have z3:=Tryz.sizeOf65
 have e1:=fun w=>aaR d a b w
 have e2:=fun w=>aaR d a' b' w
 rw [Op.equalIn]
 simp only [Sem.run_bind,run_underlying Tryz.underlying68,Result.andThen_ok]
 simp only [Std.Legacy.Range.forIn_eq_forIn_range',Std.Legacy.Range.size,Nat.sub_zero,Nat.add_sub_cancel,Nat.div_one,List.range'_succ,List.range'_zero,List.forIn_cons,List.forIn_nil]
 go_simp
set_option maxRecDepth 100000 in
set_option maxHeartbeats 4000000 in
theorem aak (M:aG) (ma na qa ra:Option Addr) (mc nc qc rc:Nat) (w:World) (h1:gI ni w (.slice ma M.ms.length mc) M.ms) (h2:gI ni w (.slice na M.ms.length nc) M.ms) (p1:gI dF w (.slice qa M.aS.length qc) M.aS) (p2:gI dF w (.slice ra M.aS.length rc) M.aS) (hl:M.ms.length≤1000) (hl2:M.aS.length≤1000) :
  Calls Tryz.prog 17 #[.agg #[.slice ma M.ms.length mc,.int .i64 M.res,.int .i64 M.reason,.int .i64 M.clk.l0,.int .i64 M.clk.l1,.int .i64 M.clk.m0,.int .i64 M.clk.m1,.int .i64 M.clk.p0,.int .i64 M.clk.p1,.int .i64 M.clk.turn,.int .i64 M.clk.since,.bool M.clk.st,.int .i64 M.clk.ak,.int .i64 M.off.b0,.int .i64 M.off.b1,.int .i64 M.off.aY,.int .i64 M.off.aZ,.int .i64 M.off.l10,.int .i64 M.off.aX,.slice qa M.aS.length qc],.agg #[.slice na M.ms.length nc,.int .i64 M.res,.int .i64 M.reason,.int .i64 M.clk.l0,.int .i64 M.clk.l1,.int .i64 M.clk.m0,.int .i64 M.clk.m1,.int .i64 M.clk.p0,.int .i64 M.clk.p1,.int .i64 M.clk.turn,.int .i64 M.clk.since,.bool M.clk.st,.int .i64 M.clk.ak,.int .i64 M.off.b0,.int .i64 M.off.b1,.int .i64 M.off.aY,.int .i64 M.off.aZ,.int .i64 M.off.l10,.int .i64 M.off.aX,.slice ra M.aS.length rc]] w fun e w'=>e=.returned (.bool true)∧Below w.heap.size w w':=by
 have H1:=hid h1
 have H2:=hid h2
 have P1:=hid p1
 have P2:=hid p2
 have HL:=hid hl
 clear h1 h2 p1 p2
 go_enter Tryz.func17,Tryz.ntmps17
 go_upto_region 1 with (fail)
 refine sV fun w0 jU DJ dM hs_=>?_
 have HX0:=hid jU
 have dn:=hid DJ
 have HB:=hid dM
 clear hs_ jU DJ dM
 have hs0:w.heap.size+1<w0.heap.size:=dn.out.lt
 have HS:=hid (aah _ _ M.ms M.ms w0 (H1.out.below HB.out (Nat.le_refl _)) (H2.out.below HB.out (Nat.le_refl _)) (by have:=HL.out; omega))
 have c0:=HX0.out.cell 0 rfl
 have d0:=dn.out.cell 0 rfl
 go_wp2_with fail
 refine HS.out.mono ?_
 rintro e w1 ⟨rfl,hb1⟩
 simp only [decide_true]
 have oC:=hid (HX0.out.stays hb1)
 have dZ:=hid (dn.out.stays hb1)
 have HB1:=hid (HB.out.trans (hb1.mono HB.out.size))
 have P11:=hid (P1.out.below HB1.out (Nat.le_refl _))
 have P21:=hid (P2.out.below HB1.out (Nat.le_refl _))
 have hs1:w.heap.size+1<w1.heap.size:=dZ.out.lt
 have x0:=oC.out.cell 0 rfl
 have x1:=oC.out.cell 1 rfl
 have x2:=oC.out.cell 2 rfl
 have x3:=oC.out.cell 3 rfl
 have x4:=oC.out.cell 4 rfl
 have x5:=oC.out.cell 5 rfl
 have x6:=oC.out.cell 6 rfl
 have x7:=oC.out.cell 7 rfl
 have x8:=oC.out.cell 8 rfl
 have x9:=oC.out.cell 9 rfl
 have x10:=oC.out.cell 10 rfl
 have x11:=oC.out.cell 11 rfl
 have x12:=oC.out.cell 12 rfl
 have x13:=oC.out.cell 13 rfl
 have x14:=oC.out.cell 14 rfl
 have x15:=oC.out.cell 15 rfl
 have x16:=oC.out.cell 16 rfl
 have x17:=oC.out.cell 17 rfl
 have x18:=oC.out.cell 18 rfl
 have x19:=oC.out.cell 19 rfl
 have y0:=dZ.out.cell 0 rfl
 have y1:=dZ.out.cell 1 rfl
 have y2:=dZ.out.cell 2 rfl
 have y3:=dZ.out.cell 3 rfl
 have y4:=dZ.out.cell 4 rfl
 have y5:=dZ.out.cell 5 rfl
 have y6:=dZ.out.cell 6 rfl
 have y7:=dZ.out.cell 7 rfl
 have y8:=dZ.out.cell 8 rfl
 have y9:=dZ.out.cell 9 rfl
 have y10:=dZ.out.cell 10 rfl
 have y11:=dZ.out.cell 11 rfl
 have y12:=dZ.out.cell 12 rfl
 have y13:=dZ.out.cell 13 rfl
 have y14:=dZ.out.cell 14 rfl
 have y15:=dZ.out.cell 15 rfl
 have y16:=dZ.out.cell 16 rfl
 have y17:=dZ.out.cell 17 rfl
 have y18:=dZ.out.cell 18 rfl
 have y19:=dZ.out.cell 19 rfl
 clear c0 d0 hb1
 go_wp2_with fail
 go_loopw [24] (fun i wr=>∃ k n:Nat,k≤M.aS.length∧i=.int .i64 k∧wr=w1.drewN n) (fun i _=>M.aS.length - (intOf i).toNat)
 case atStart=>exact ⟨0,0,Nat.zero_le _,rfl,rfl⟩
 case round =>
  obtain ⟨k,n,hk,rfl,rfl⟩:=hrel
  by_cases hlt:k<M.aS.length
  ·obtain ⟨g,o,rfl,hg,a0,a1,a2,a3⟩:=aau P11.out k hlt
   obtain ⟨g',o',rfl,hg',b0,b1,b2,b3⟩:=aau P21.out k hlt
   have hlz:(k:Int)<(M.aS.length:Int):=by omega
   generalize M.aS[k]=x at *
   go_wp2_with fail
   go_quiet (fail)
   go_wp2_with fail
   go_roundw
   case rel=>exact ⟨k+1,n+nq,by omega,by go_num,rfl⟩
   case measure=>simp [intOf]; omega
  ·obtain rfl:k=M.aS.length:=by omega
   have q1:∀ (a b:Int) (w:World),(Op.equalIn 9999 65 (.agg #[.int .i64 a,.int .i64 b]) (.agg #[.int .i64 a,.int .i64 b])).run Tryz.prog w=.ok true w:=fun a b w=>aaR 9997 a b w
   have q2:∀ (a b a' b':Int) (w:World),(Op.equalIn 9999 68 (.agg #[.int .i64 a,.int .i64 b,.int .i64 a',.int .i64 b']) (.agg #[.int .i64 a,.int .i64 b,.int .i64 a',.int .i64 b'])).run Tryz.prog w=.ok true w:=fun a b a' b' w=>abz 9996 a b a' b' w
   go_wp2_with fail
   go_ret
   exact ⟨rfl,below_drewN HB1.out n⟩
end Go.Proofs.YtmabaojkignodaaGreatDoor
namespace Go.Proofs.YtmabaojkignodaaGreatDoor
open Go.ChangeShapes Go.WideShapes Go.ChangeAt Go.RowKit
set_option linter.unusedVariables false
variable {S:Nat→Prop} {base b:Nat} {M:aG} {B:jv}
def nO:nJ:=⟨[(0,60000)],1000,0⟩
theorem BA (w:World):Calls Tryz.prog 39 #[] w fun e w'=>e=.returned (.agg #[.slice (some ⟨w.heap.size+1,0,none⟩) 1 1,.int .i64 1000,.int .i64 0])∧clk.dV w' w'.heap.size (some ⟨w.heap.size+1,0,none⟩) 1 nO.ps∧Below w.heap.size w w':=by
 go_enter Tryz.func39,Tryz.ntmps39
 go_upto_region 1 with (fail)
 go_wp2_with fail
 have HX:=(Box.new w [.slice (some ⟨w.heap.size+1,0,none⟩) 1 1,.int .i64 1000,.int .i64 0] 49).alloc (.cells #[.int .i64 0,.int .i64 60000] 154)
 have HY:=Box.new' (w.alloc (.cells #[.slice (some ⟨w.heap.size+1,0,none⟩) 1 1,.int .i64 1000,.int .i64 0] 49)) (w.heap.size+1) [.int .i64 0,.int .i64 60000] 154 (by simp)
 have HB:Below w.heap.size w ((w.alloc (.cells #[.slice (some ⟨w.heap.size+1,0,none⟩) 1 1,.int .i64 1000,.int .i64 0] 49)).alloc (.cells #[.int .i64 0,.int .i64 60000] 154)):=((Below.refl w.heap.size w).alloc (Nat.le_refl _) _).alloc (by simp) _
 refine bodyPost_ret (dR rfl (by rfl) HX Tryz.underlying49 (by rfl) (by kernel_rfl)) rfl ⟨rfl,⟨rfl,fun _=>⟨w.heap.size+1,0,rfl,HY.lt,fun k hk=>?_⟩⟩,HB⟩
 obtain rfl:k=0:=by omega
 exact ⟨HY.cell 0 rfl,HY.cell 1 rfl⟩
end Go.Proofs.YtmabaojkignodaaGreatDoor
