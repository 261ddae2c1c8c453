/- match's doMove. -/
import Derived.Test.YtmabaojkignodaaGreatDoorE24
namespace Go.Proofs.YtmabaojkignodaaGreatDoor
open Go.ChangeShapes Go.WideShapes Go.ChangeAt Go.RowKit
set_option linter.unusedVariables false
open Go.Lib (hid)
variable {X S:Nat→Prop} {base b:Nat} {M:aG} {B:jv}
def DR (w:World) (b:Nat):Nat:=match w.cell? ⟨b,14,none⟩ with | some (.pointer (some a))=>(match w.cell? ⟨a.block,12,none⟩ with | some (.slice _ n _)=>n | _=>0) | _=>0
theorem wQ {w:World} (h:aH X S base w b M B):DR w b=M.ms.length:=by
 obtain ⟨up,us,ue,vl,vm,rows,hg⟩:=h.game
 have c14:=h.box.cell 14 rfl
 obtain ⟨a,c,rfl⟩:=aI hg.om
 have c12:=hg.box.cell 12 rfl
 unfold DR
 rw [c14]
 simp only [c12]
set_option maxRecDepth 100000 in
set_option maxHeartbeats 16000000 in
theorem Kt (HS:SortMvSaid) (ev:iY) (w:World) (h:aH X S base w b M B) (hb:base≤w.heap.size) (hm:Mid M ev.now) (hg:M.game=0):Calls Tryz.prog 96 #[.pointer (some ⟨b,0,none⟩),.agg #[.int .i64 ev.kind,.int .i64 ev.au,.int .i64 ev.n,.int .i64 ev.now,.int .i64 ev.m.src,.int .i64 ev.m.dst,.int .i64 ev.m.piece]] w fun e w'=>e=.returned (.int .i64 (M.jO ev).2)∧wM X S base b w (M.jO ev).1 w':=by
 have V7:=hid hm
 have NR:=hid hg
 have Xm:Hid (M.jO ev=if M.pos.turn≠ev.au then (M,12) else if ev.m∉iy M.R M.pos then (M,13) else if M.ms.length=400 then (M,2) else (aG.runs ev.now 400 (M.move ev.m ev.now),0)):=hid rfl
 clear hm hg
 have lY:=hid HS
 have HM:=hid h
 have qg:=hid hb
 have LJ:Hid (¬ S w.heap.size):=hid (fun hk=>by obtain ⟨up,us,ue,vl,vm,rows,hg⟩:=h.game; have:=(hg.lo _ hk).2; omega)
 have EP:Hid (b<w.heap.size):=hid h.box.lt
 clear h hb HS
 go_enter Tryz.func96,Tryz.ntmps96
 go_upto_region 1 with (fail)
 refine lM fun w0 jU dM hs_=>?_
 have jy:=hid jU
 have HB0:=hid dM
 clear hs_ jU dM
 have iZ:=hid (HM.out.below HB0.out)
 generalize w0=wq at *
 have Mz:aH X S base wq.drew b M B:=iZ.out.below (aA (Below.refl _ _))
 have Ez:=jy.out.drew
 have Lz:Below w.heap.size w wq.drew:=aA HB0.out
 clear iZ jy HB0
 refine wp_region_noPanic ?_
 refine bG (S:=(fun w'=>w'.cell? ⟨w.heap.size,1,none⟩=some (.int .i64 ev.au))) (L:=[]) (by kernel_rfl) (Ez.cell 1 rfl) (fun hHeld=>?_)
 refine aF 0 ?_
 refine aF 2 ?_
 refine dL 3 ?_
 refine dO 1 fun K hK=>?_
 go_simp
 refine (lF _ Mz).mono ?_
 rintro e w1 ⟨rfl,hb1⟩
 have M1:=Mz.below hb1
 have E1:=Ez.stays hb1
 have L1:=aj Lz hb1 Lz.size
 clear hb1
 refine hK.out _ _ (E1.cell 1 rfl) (fun hHeld=>?_)
 clear hK K
 refine aF 4 ?_
 refine aF 5 ?_
 refine iE ?_
 have bM:=hid M1
 have gW:=hid E1
 have HB1:=hid L1
 clear M1 E1 L1 Mz Ez Lz hHeld
 generalize w1=wr at *
 by_cases ht:M.pos.turn=ev.au
 rotate_left
 ·have HD2:Hid (M.jO ev=(M,12)):=hid (by rw [Xm.out,if_pos ht])
  have htb:(M.pos.turn != ev.au)=true:=by simpa using ht
  clear ht Xm
  generalize M.pos.turn=tt at *
  go_wp2_with fail
  go_ret
  exact ⟨by rw [HD2.out]; rfl,S,B,by rw [HD2.out]; exact bM.out,dw.refl _ _,dD.new HB1.out⟩
 have htb:(M.pos.turn != ev.au)=false:=by simpa using ht
 have HT:=hid ht
 clear ht
 go_upto_region 3 with (fail)
 clear htb
 generalize wr=wq at *
 have Mz:aH X S base wq.drew b M B:=bM.out.below (aA (Below.refl _ _))
 have Ez:=gW.out.drew
 have Lz:Below w.heap.size w wq.drew:=aA HB1.out
 have HK:Hid (nV M.R (bn M.R M.ms)):=hid (by obtain ⟨up,us,ue,vl,vm,rows,hg⟩:=HM.out.game; exact hg.Ub)
 obtain ⟨up,us,ue,vl,vm,rows,hg⟩:=Mz.game
 have Gz:=hg.plain
 clear bM gW HB1 hg
 refine wp_region_noPanic ?_
 refine bG (S:=(fun w'=>w'.cell? ⟨b,0,none⟩=some (.string M.R.name)∧w'.cell? ⟨b,1,none⟩=some (.int .i64 M.R.width)∧w'.cell? ⟨b,2,none⟩=some (.int .i64 M.R.height)∧w'.cell? ⟨b,3,none⟩=some B.vp∧w'.cell? ⟨b,4,none⟩=some B.vs∧w'.cell? ⟨b,5,none⟩=some (.bool M.R.falls)∧w'.cell? ⟨b,6,none⟩=some (.bool M.R.keeps)∧w'.cell? ⟨b,7,none⟩=some B.ve∧w'.cell? ⟨b,8,none⟩=some (.int .i64 M.R.blocked)∧w'.cell? ⟨b,9,none⟩=some (.int .i64 M.R.quiet)∧w'.cell? ⟨b,10,none⟩=some (.int .i64 M.R.bF)∧w'.cell? ⟨b,14,none⟩=some (.pointer (some ⟨B.g,0,none⟩))∧w'.cell? ⟨w.heap.size,4,none⟩=some (.int .i64 ev.m.src)∧w'.cell? ⟨w.heap.size,5,none⟩=some (.int .i64 ev.m.dst)∧w'.cell? ⟨w.heap.size,6,none⟩=some (.int .i64 ev.m.piece))) (L:=[]) (by kernel_rfl) (by and_intros <;> first | exact Mz.box.cell _ rfl | exact Ez.cell _ rfl) (fun hHeld=>?_)
 refine aF 0 ?_
 refine aF 4 ?_
 refine aF 10 ?_
 refine aF 1 ?_
 refine aF 5 ?_
 refine dL 11 ?_
 refine aF 2 ?_
 refine aF 6 ?_
 refine dL 3 ?_
 refine dL 7 ?_
 refine dO 8 fun K hK=>?_
 go_simp
 refine (iG _ Gz).mono ?_
 rintro e w8 ⟨vc,v0,v1,rfl,Xn,hb8⟩
 have M8:=Mz.below hb8
 have E8:=Ez.stays hb8
 have L8:=aj Lz hb8 Lz.size
 have P8:=Xn.rd
 clear Xn hb8
 refine hK.out _ _ (by and_intros <;> first | exact M8.box.cell _ rfl | exact E8.cell _ rfl) (fun hHeld=>?_)
 clear hK K
 refine dO 9 fun K hK=>?_
 go_simp
 refine (xM lY.out M.R B.vp B.vs B.ve (bn M.R M.ms) vc v0 v1 _ M8.fr.rd P8 HK.out).mono ?_
 rintro e w9 ⟨vx,rfl,ER,Eu⟩
 obtain ⟨a9,c9,rfl⟩:=aI ER
 have M9:=M8.below Eu
 have E9:=E8.stays Eu
 have L9:=aj L8 Eu L8.size
 have R9:=kQ ER
 clear ER Eu
 refine hK.out _ _ (by and_intros <;> first | exact M9.box.cell _ rfl | exact E9.cell _ rfl) (fun hHeld=>?_)
 clear hK K
 refine dO 12 fun K hK=>?_
 go_simp
 refine (lC _ ev.m _ _ R9).mono ?_
 rintro e w12 ⟨rfl,iR⟩
 have M12:=M9.below iR
 have uN:=E9.stays iR
 have lQ:=aj L9 iR L9.size
 clear iR
 refine hK.out _ _ (by and_intros <;> first | exact M12.box.cell _ rfl | exact uN.cell _ rfl) (fun hHeld=>?_)
 clear hK K
 refine aF 13 ?_
 refine aF 14 ?_
 refine iE ?_
 have nR:=hid M12
 have xu:=hid uN
 have HB3:=hid lQ
 clear M12 uN lQ M9 E9 L9 M8 E8 L8 P8 R9 Mz Ez Lz Gz hHeld
 generalize w12=w2 at *
 by_cases hmv:ev.m∈iy M.R (bn M.R M.ms)
 rotate_left
 ·have HD2:Hid (M.jO ev=(M,13)):=hid (by rw [Xm.out,if_neg (fun h=>h HT.out),if_pos (show ev.m∉iy M.R M.pos from hmv)])
  rw [decide_eq_false hmv]
  clear hmv Xm
  go_wp2_with fail
  go_ret
  exact ⟨by rw [HD2.out]; rfl,S,B,by rw [HD2.out]; exact nR.out,dw.refl _ _,dD.new HB3.out⟩
 have XZ:=hid hmv
 rw [decide_eq_true hmv]
 clear hmv
 go_upto_region 5 with (fail)
 go_wp2_with fail
 refine (kW w2 nR.out).mono ?_
 rintro e w3 ⟨rfl,hb3⟩
 have qh:=hid (nR.out.below hb3)
 have YN:=hid (xu.out.stays hb3)
 have HB4:=hid (aj HB3.out hb3 HB3.out.size)
 clear hb3 nR xu HB3
 by_cases hl:M.ms.length=400
 ·have HD2:Hid (M.jO ev=(M,2)):=hid (by rw [Xm.out,if_neg (fun h=>h HT.out),if_neg (fun h=>h XZ.out),if_pos hl])
  have hlb:((M.ms.length:Int) == 400)=true:=by simp; omega
  clear hl Xm
  generalize (M.ms.length:Int)=ll at *
  go_wp2_with fail
  go_ret
  exact ⟨by rw [HD2.out]; rfl,S,B,by rw [HD2.out]; exact qh.out,dw.refl _ _,dD.new HB4.out⟩
 have HD2:Hid (M.jO ev=(aG.runs ev.now 400 (M.move ev.m ev.now),0)):=hid (by rw [Xm.out,if_neg (fun h=>h HT.out),if_neg (fun h=>h XZ.out),if_neg hl])
 have abG:Hid (wP M ev.m ev.now):=hid ⟨sN NR.out XZ.out hl,V7.out.cr,V7.out.ck,V7.out.sn,V7.out.nw,V7.out.st,V7.out.fl,V7.out.us,V7.out.og,HK.out.tu⟩
 have Uo:Hid (M.ms.length<400):=hid (by obtain ⟨up,us,ue,vl,vm,rows,hg⟩:=HM.out.game; have:=hg.lt; omega)
 have hlb:((M.ms.length:Int) == 400)=false:=by simp; omega
 have hll:¬ ((M.ms.length:Int)=400):=by omega
 clear hl Xm
 go_upto_region 7 with (fail)
 clear hlb hll
 have e3:=YN.out.cell 3 rfl
 have e4:=YN.out.cell 4 rfl
 have e5:=YN.out.cell 5 rfl
 have e6:=YN.out.cell 6 rfl
 go_wp2_with fail
 clear e3 e4 e5 e6
 refine (move_any lY.out ev.m ev.now w3 qh.out (Nat.le_trans qg.out HB4.out.size) abG.out).mono ?_
 rintro e w4 ⟨rfl,S1,B1,hm4,hs4,hf4⟩
 have zu:=hid hm4
 have G9:Hid (Box w4 w.heap.size [.int .i64 ev.kind,.int .i64 ev.au,.int .i64 ev.n,.int .i64 ev.now,.int .i64 ev.m.src,.int .i64 ev.m.dst,.int .i64 ev.m.piece] 54):=hid (YN.out.held hf4 (fun h=>by
  rcases h with h | h
  ·exact LJ.out h
  ·have h2:w.heap.size=b:=h
   have:=EP.out; omega))
 have HS5:Hid (dw w S S1):=hid (fun k hk h=>hs4 k (Nat.lt_of_lt_of_le hk HB4.out.size) h)
 have Ko:Hid (dD S b w w4):=hid ((dD.new HB4.out).trans hf4 (dw.refl _ _))
 have HN5:Hid (¬ S1 w.heap.size):=hid (fun h=>LJ.out (hs4 _ YN.out.lt h))
 have abH:Hid (Mid (M.move ev.m ev.now) ev.now):=hid (V7.out.move ev.m)
 have HLen:Hid (400<400+(M.move ev.m ev.now).ms.length):=hid (by show _<400+(M.ms++[ev.m]).length; simp)
 clear hm4 hs4 hf4 qh YN HB4 abG
 generalize M.move ev.m ev.now=M1 at *
 go_wp2_with fail
 go_loopw [5,6,7,8] (fun v5 v6 v7 v8 wr=>∃ (f:Nat) (Mk:aG) (Sk:Nat→Prop) (Bk:jv) (o5 o6 o7 o8:Value),o5=v5∧o6=v6∧o7=v7∧o8=v8∧Hid (aH X Sk base wr b Mk Bk)∧Hid (aG.runs ev.now 400 M1=aG.runs ev.now f Mk)∧Hid (400<f+Mk.ms.length)∧Hid (Mid Mk ev.now)∧Hid (dw w S Sk)∧Hid (dD S b w wr)∧Hid (Box wr w.heap.size [.int .i64 ev.kind,.int .i64 ev.au,.int .i64 ev.n,.int .i64 ev.now,.int .i64 ev.m.src,.int .i64 ev.m.dst,.int .i64 ev.m.piece] 54)∧Hid (¬ Sk w.heap.size)) (fun _ _ _ _ wr=>401 - DR wr b)
 case atStart=>exact ⟨400,M1,S1,B1,_,_,_,_,rfl,rfl,rfl,rfl,zu,hid rfl,HLen,abH,HS5,Ko,G9,HN5⟩
 case round =>
  obtain ⟨f,Mk,Sk,Bk,o5,o6,o7,o8,rfl,rfl,rfl,rfl,OL,Ij,HFu,uO,CV,HFk,HEk,HNk⟩:=hrel
  have HLa:=hid (wQ OL.out)
  have IY:Hid (Mk.ms.length≤400):=hid (by obtain ⟨up,us,ue,vl,vm,rows,hg⟩:=OL.out.game; exact hg.lt)
  have HBk:Hid (base≤wr.heap.size):=hid (Nat.le_trans qg.out HFk.out.size)
  have HWk:Hid (w.heap.size≤wr.heap.size):=hid HFk.out.size
  have c14:=OL.out.box.cell 14 rfl
  have HGk:Hid (∃ up us ue vl vm rows,bP Sk base wr Bk.g Mk.R Mk.ms up us ue vl vm rows):=hid (by obtain ⟨up,us,ue,vl,vm,rows,hg⟩:=OL.out.game; exact ⟨_,_,_,_,_,_,hg.plain⟩)
  go_wp2_with fail
  obtain ⟨up,us,ue,vl,vm,rows,hgk⟩:=HGk.out
  refine (rU lY.out wr hgk).mono ?_
  rintro e w5 ⟨rfl,hb5⟩
  have OM:=hid (OL.out.below hb5)
  have CW:=hid (HEk.out.stays hb5)
  have HF6:Hid (dD S b w w5):=hid (HFk.out.trans (dD.new (S:=Sk) hb5) CV.out)
  have OJ:Hid (wr.heap.size≤w5.heap.size):=hid hb5.size
  clear hb5 hgk c14
  by_cases hgm:fM Mk.R Mk.ms=0
  rotate_left
  ·have hgb:(fM Mk.R Mk.ms == 0)=false:=by simpa using hgm
   have uP:Hid (aG.runs ev.now 400 M1=Mk):=hid (by rw [Ij.out]; exact DL _ _ _ (fun h=>hgm h.1))
   clear hgm
   generalize fM Mk.R Mk.ms=gm at *
   go_wp2_with fail
   go_ret
   exact ⟨by rw [HD2.out]; rfl,Sk,Bk,by rw [HD2.out,uP.out]; exact OM.out,CV.out,HF6.out⟩
  have V8:Hid (Mk.game=0):=hid hgm
  rw [hgm]
  clear hgm
  go_wp2_with fail
  refine (kW w5 OM.out).mono ?_
  rintro e w6 ⟨rfl,hb6⟩
  have FK:=hid (OM.out.below hb6)
  have Xo:=hid (CW.out.stays hb6)
  have HF7:Hid (dD S b w w6):=hid (HF6.out.trans (dD.new (S:=Sk) hb6) CV.out)
  have YI:Hid (wr.heap.size≤w6.heap.size):=hid (Nat.le_trans OJ.out hb6.size)
  clear hb6 OM CW HF6 OJ
  by_cases hl4:Mk.ms.length<400
  rotate_left
  ·have hlb:¬ ((Mk.ms.length:Int)<400):=by omega
   have uP:Hid (aG.runs ev.now 400 M1=Mk):=hid (by rw [Ij.out]; exact DL _ _ _ (fun h=>hl4 h.2))
   clear hl4
   generalize (Mk.ms.length:Int)=ll at *
   go_wp2_with fail
   go_ret
   exact ⟨by rw [HD2.out]; rfl,Sk,Bk,by rw [HD2.out,uP.out]; exact FK.out,CV.out,HF7.out⟩
  have pY:=hid hl4
  have hlb:((Mk.ms.length:Int)<400):=by omega
  have DT:=hid (N8 ev.now f Mk V8.out hl4 (by have:=HFu.out; omega))
  clear hl4
  go_upto_region 9 with (fail)
  clear hlb
  generalize w6=wq at *
  have Mz:aH X Sk base wq.drew b Mk Bk:=FK.out.below (aA (Below.refl _ _))
  have Ez:=Xo.out.drew
  have Lz:Below wq.drew.heap.size wq.drew wq.drew:=Below.refl _ _
  have HF8:Hid (dD S b w wq.drew):=hid (Fr.drew HF7.out)
  have BU:Hid (∀ q,(Sk q∨out1 X b q)→q<wq.heap.size):=hid FK.out.wL
  have HK9:Hid (nV Mk.R Mk.pos):=hid (by obtain ⟨up,us,ue,vl,vm,rows,hg⟩:=Mz.game; exact hg.Ub)
  have ae3:Hid (aW Mk.R=0):=hid (by obtain ⟨up,us,ue,vl,vm,rows,hg⟩:=Mz.game; exact hg.re)
  have iH:Hid (gy Mk.R Mk.pos Mk.aS=0):=hid (by unfold gy; rw [if_neg (by rw [Jm ae3.out HK9.out]; decide)]; exact DN uO.out.pr)
  clear FK Xo HF7 YI
  refine wp_region_noPanic ?_
  refine bG (S:=(fun w'=>w'.cell? ⟨b,0,none⟩=some (.string Mk.R.name)∧w'.cell? ⟨b,1,none⟩=some (.int .i64 Mk.R.width)∧w'.cell? ⟨b,2,none⟩=some (.int .i64 Mk.R.height)∧w'.cell? ⟨b,3,none⟩=some Bk.vp∧w'.cell? ⟨b,4,none⟩=some Bk.vs∧w'.cell? ⟨b,5,none⟩=some (.bool Mk.R.falls)∧w'.cell? ⟨b,6,none⟩=some (.bool Mk.R.keeps)∧w'.cell? ⟨b,7,none⟩=some Bk.ve∧w'.cell? ⟨b,8,none⟩=some (.int .i64 Mk.R.blocked)∧w'.cell? ⟨b,9,none⟩=some (.int .i64 Mk.R.quiet)∧w'.cell? ⟨b,10,none⟩=some (.int .i64 Mk.R.bF)∧w'.cell? ⟨b,14,none⟩=some (.pointer (some ⟨Bk.g,0,none⟩))∧w'.cell? ⟨b,34,none⟩=some Bk.vr∧w'.cell? ⟨w.heap.size,3,none⟩=some (.int .i64 ev.now))) (L:=[]) (by kernel_rfl) (by and_intros <;> first | exact Mz.box.cell _ rfl | exact Ez.cell _ rfl) (fun hHeld=>?_)
  refine aF 0 ?_
  refine aF 4 ?_
  refine aF 9 ?_
  refine aF 1 ?_
  refine aF 5 ?_
  refine aF 10 ?_
  refine aF 2 ?_
  refine aF 6 ?_
  refine aF 11 ?_
  refine dL 3 ?_
  refine dL 7 ?_
  refine aF 12 ?_
  refine dL 13 ?_
  refine IL (rs:=[8,20]) ?_
  refine (aO.cons (by first | (simp only [List.getElem?_toArray,List.getElem?_cons_zero,List.getElem?_cons_succ] <;> rfl) | rfl) (fun K hK=>?_) (aO.cons (by first | (simp only [List.getElem?_toArray,List.getElem?_cons_zero,List.getElem?_cons_succ] <;> rfl) | rfl) (fun K hK=>?_) aO.nil))
  ·skip
   go_simp
   obtain ⟨up',us',ue',VB,VD,rows',IU⟩:=Mz.game
   refine (iG _ IU.plain).mono ?_
   clear IU
   rintro e w8 ⟨vc,v0,v1,rfl,Xn,hbb⟩
   have M8:=Mz.below hbb
   have E8:=Ez.stays hbb
   have L8:=aj Lz hbb Lz.size
   have P8:=Xn.rd
   clear Xn hbb
   refine hK.out _ _ (by and_intros <;> first | exact M8.box.cell _ rfl | exact E8.cell _ rfl) (fun hHeld=>?_)
   clear hK K
   refine IL (rs:=[14,20]) ?_
   refine (aO.cons (by first | (simp only [List.getElem?_toArray,List.getElem?_cons_zero,List.getElem?_cons_succ] <;> rfl) | rfl) (fun K hK=>?_) (aO.cons (by first | (simp only [List.getElem?_toArray,List.getElem?_cons_zero,List.getElem?_cons_succ] <;> rfl) | rfl) (fun K hK=>?_) aO.nil))
   ·skip
    go_simp
    refine (Aw lY.out Mk.R Bk.vp Bk.vs Bk.ve Mk.pos vc v0 v1 Bk.vr Mk.aS _ M8.fr.rd uO.out.nm P8 M8.fr.pr (by have:=uO.out.pr.len; omega)).mono ?_
    rintro e mM hp
    rcases hp with ⟨hn,-⟩ | ⟨-,vr,rfl,wH,hbb⟩
    ·exact absurd iH.out hn
    obtain ⟨ra,rc,rfl⟩:=aI wH
    have M14:=M8.below hbb
    have OI:=E8.stays hbb
    have zf:=aj L8 hbb L8.size
    have BR:=wH
    have NS:wq.drew.heap.size≤w8.heap.size:=L8.size
    clear wH hbb
    refine hK.out _ _ (by and_intros <;> first | exact M14.box.cell _ rfl | exact OI.cell _ rfl) (fun hHeld=>?_)
    clear hK K
    refine aF 15 ?_
    refine aF 16 ?_
    refine aF 17 ?_
    refine aF 18 ?_
    refine aF 19 ?_
    refine dO 20 fun K hK=>?_
    go_simp
    refine aK ?_
    intro RG e20
    have hbb:Below mM.heap.size mM RG:=by rw [e20]; exact (Below.refl _ _).alloc (Nat.le_refl _) _
    have Uu:Box RG (mM.heap.size) [.int .i64 0,.int .i64 0,.int .i64 0] 52:=by rw [e20]; exact Box.new' _ _ _ _ rfl
    have N9:=M14.below hbb
    have Uw:=OI.stays hbb
    have RH:=aj zf hbb zf.size
    have O20:=bK BR hbb
    clear hbb e20
    refine hK.out _ _ (by and_intros <;> first | exact N9.box.cell _ rfl | exact Uw.cell _ rfl) (fun hHeld=>?_)
    clear hK K
    refine dO 21 fun K hK=>?_
    rw [if_pos (by rfl)]
    refine wp_store_mid 52 (.tmp 5) (.tmp 67) (by rfl) (mM.heap.size) 0 #[.int .i64 (bf Mk.R Mk.pos Mk.aS).src,.int .i64 (bf Mk.R Mk.pos Mk.aS).dst,.int .i64 (bf Mk.R Mk.pos Mk.aS).piece] (by rfl) (by rfl) (Uu.has 0 3 (by simp)) (by kernel_rfl) (by simp [Value.oneCell']) ?_
    refine aK ?_
    intro kJ e21
    have Xp:Box kJ (mM.heap.size) [.int .i64 (bf Mk.R Mk.pos Mk.aS).src,.int .i64 (bf Mk.R Mk.pos Mk.aS).dst,.int .i64 (bf Mk.R Mk.pos Mk.aS).piece] 52:=by rw [e21]; exact Uu.store rfl
    have hbn:wq.heap.size≤mM.heap.size:=by first | exact Nat.le_refl _ | exact L8.size | exact zf.size
    have LK:Below wq.drew.heap.size wq.drew kJ:=by rw [e21]; exact below_setCells RH hbn 0 _
    have Ik:Fr (fun k=>k=mM.heap.size) RG kJ:=by rw [e21]; exact (Fr.refl (fun k=>k=mM.heap.size) RG).setCells (b:=mM.heap.size) rfl 0 _
    have RI:kJ.ownsRow wq.drew.heap.size 139 4 (.slice ra (aJ Mk.R Mk.pos Mk.aS).length rc) (aJ Mk.R Mk.pos Mk.aS).length (bW (aJ Mk.R Mk.pos Mk.aS)):=own_base (gV O20 Ik (fun q hq e=>(by have h1:=(BR.lt q hq).2; omega))) NS
    have RJ:=Mz.below LK
    have RN:=Ez.stays LK
    clear e21 Ik
    refine hK.out _ _ (by and_intros <;> first | exact RJ.box.cell _ rfl | exact RN.cell _ rfl) (fun hHeld=>?_)
    clear hK K
    refine aF 22 ?_
    refine aF 23 ?_
    refine aF 24 ?_
    refine iE ?_
    have lG:=hid RJ
    have RP:=hid RN
    have Qc:=hid Xp
    have IV:Hid (kJ.ownsRow wq.drew.heap.size 139 4 (.slice ra (aJ Mk.R Mk.pos Mk.aS).length rc) (aJ Mk.R Mk.pos Mk.aS).length (bW (aJ Mk.R Mk.pos Mk.aS))):=hid RI
    have FI:Hid (dD S b w kJ):=hid (HF8.out.trans (dD.new (S:=Sk) LK) CV.out)
    have uQ:Hid (¬ (Sk mM.heap.size∨out1 X b mM.heap.size)):=hid (fun h=>by have:=BU.out _ h; omega)
    have Ux:Hid (∀ k,Value.ownBlock (.slice ra (aJ Mk.R Mk.pos Mk.aS).length rc)=some k→¬ (Sk k∨out1 X b k)):=hid (fun k hk h=>by have h1:=(RI.lt k hk).1; have h2:=BU.out k h; exact absurd h2 (Nat.not_lt.2 h1))
    clear M8 E8 L8 M14 OI zf N9 Uw RH RJ RN LK RI Xp hbn P8 BR NS O20 Uu Mz Ez Lz hHeld BU
    generalize mM.heap.size=bx at *
    have YO:=lG.out.box.cell 34 rfl
    have f34:=lG.out.box.frozen 34
    have HP:=hid (lG.out.put (M':={ Mk with aS:=(aJ Mk.R Mk.pos Mk.aS) }) (B':={ Bk with vr:=.slice ra (aJ Mk.R Mk.pos Mk.aS).length rc }) 34 [.slice ra (aJ Mk.R Mk.pos Mk.aS).length rc] (by simp) rfl rfl rfl rfl (fun w' hw=>⟨(lG.out.rd w' hw).rd,(lG.out.rd w' hw).per,(lG.out.rd w' hw).pc,nI (gV IV.out hw Ux.out),(lG.out.rd w' hw).jr⟩))
    have Xq:Hid (aH X Sk base (kJ.setCell ⟨b,34,none⟩ (.slice ra (aJ Mk.R Mk.pos Mk.aS).length rc)) b { Mk with aS:=(aJ Mk.R Mk.pos Mk.aS) } { Bk with vr:=.slice ra (aJ Mk.R Mk.pos Mk.aS).length rc }):=hid HP.out.1
    have IZ:Hid (dD S b w (kJ.setCell ⟨b,34,none⟩ (.slice ra (aJ Mk.R Mk.pos Mk.aS).length rc))):=hid (FI.out.trans HP.out.2 CV.out)
    have NJ:Hid (Box (kJ.setCell ⟨b,34,none⟩ (.slice ra (aJ Mk.R Mk.pos Mk.aS).length rc)) bx [.int .i64 (bf Mk.R Mk.pos Mk.aS).src,.int .i64 (bf Mk.R Mk.pos Mk.aS).dst,.int .i64 (bf Mk.R Mk.pos Mk.aS).piece] 52):=hid (Qc.out.far ⟨b,34,none⟩ _ (fun e=>uQ.out (.inr (.inl e))))
    have RQ:Hid (Box (kJ.setCell ⟨b,34,none⟩ (.slice ra (aJ Mk.R Mk.pos Mk.aS).length rc)) w.heap.size [.int .i64 ev.kind,.int .i64 ev.au,.int .i64 ev.n,.int .i64 ev.now,.int .i64 ev.m.src,.int .i64 ev.m.dst,.int .i64 ev.m.piece] 54):=hid (RP.out.far ⟨b,34,none⟩ _ (fun e=>by have:=EP.out; have h2:w.heap.size=b:=e; omega))
    clear HP IV Ux
    go_upto_region 11 with (fail)
    clear YO f34
    generalize (kJ.setCell ⟨b,34,none⟩ (.slice ra (aJ Mk.R Mk.pos Mk.aS).length rc))=Xr at *
    clear lG RP Qc FI
    by_cases hok:gB Mk.R Mk.pos Mk.aS=true
    rotate_left
    ·have uP:Hid (aG.runs ev.now 400 M1=({ Mk with aS:=aJ Mk.R Mk.pos Mk.aS }:aG)):=hid (by rw [Ij.out,DT.out,if_neg hok])
     have hob:gB Mk.R Mk.pos Mk.aS=false:=by simpa using hok
     rw [hob]
     clear hok hob
     go_wp2_with fail
     go_ret
     exact ⟨by rw [HD2.out]; rfl,Sk,_,by rw [HD2.out,uP.out]; exact Xq.out,CV.out,IZ.out⟩
    have CX:=hid hok
    have RS:Hid (wP ({ Mk with aS:=aJ Mk.R Mk.pos Mk.aS }:aG) (bf Mk.R Mk.pos Mk.aS) ev.now):=hid (by
     have hm:=uO.out.rest
     exact ⟨sN V8.out (Bd hok) (by have:=pY.out; show Mk.ms.length≠400; omega),hm.cr,hm.ck,hm.sn,hm.nw,hm.st,hm.fl,hm.us,hm.og,HK9.out.tu⟩)
    have Il:=hid (uO.out.rest.move (bf Mk.R Mk.pos Mk.aS))
    rw [hok]
    clear hok
    go_upto_region 12 with (fail)
    have x0:=NJ.out.cell 0 rfl
    have x1:=NJ.out.cell 1 rfl
    have x2:=NJ.out.cell 2 rfl
    have e3:=RQ.out.cell 3 rfl
    have Bf:Hid (aG.runs ev.now 400 M1=aG.runs ev.now (f - 1) (aG.move ({ Mk with aS:=aJ Mk.R Mk.pos Mk.aS }:aG) (bf Mk.R Mk.pos Mk.aS) ev.now)):=hid (by rw [Ij.out,DT.out,if_pos CX.out])
    have fH:Hid (base≤Xr.heap.size):=hid (Nat.le_trans qg.out IZ.out.size)
    go_wp2_with fail
    clear x0 x1 x2 e3
    refine (move_any lY.out (bf Mk.R Mk.pos Mk.aS) ev.now Xr Xq.out fH.out RS.out).mono ?_
    rintro e w12 ⟨rfl,S2,B2,hm2,hs2,hf2⟩
    have RU:=hid hm2
    have RV:Hid (Box w12 w.heap.size [.int .i64 ev.kind,.int .i64 ev.au,.int .i64 ev.n,.int .i64 ev.now,.int .i64 ev.m.src,.int .i64 ev.m.dst,.int .i64 ev.m.piece] 54):=hid (RQ.out.held hf2 (fun h=>by
     rcases h with h | h
     ·exact HNk.out h
     ·have h2:w.heap.size=b:=h
      have:=EP.out; omega))
    have RX:Hid (dw w S S2):=hid (fun k hk h=>CV.out k hk (hs2 k (Nat.lt_of_lt_of_le hk IZ.out.size) h))
    have RY:Hid (dD S b w w12):=hid (IZ.out.trans hf2 CV.out)
    have RZ:Hid (¬ S2 w.heap.size):=hid (fun h=>HNk.out (hs2 _ RQ.out.lt h))
    have I7:Hid (DR w12 b=Mk.ms.length+1):=hid (by rw [wQ hm2]; show (Mk.ms++[_]).length=_; simp)
    have HLn:Hid (400<f - 1+(aG.move ({ Mk with aS:=aJ Mk.R Mk.pos Mk.aS }:aG) (bf Mk.R Mk.pos Mk.aS) ev.now).ms.length):=hid (by
     have h1:=HFu.out; have h2:=pY.out
     show 400<f - 1+(Mk.ms++[_]).length
     simp; omega)
    clear hm2 hs2 hf2
    go_wp2_with fail
    go_roundw
    case rel=>exact ⟨f - 1,_,S2,B2,_,_,_,_,rfl,rfl,rfl,rfl,RU,Bf,HLn,Il,RX,RY,RV,RZ⟩
    case measure=>rw [I7.out,HLa.out]; have:=pY.out; omega
   ·skip
    go_simp
    refine aK ?_
    intro RG e20
    have hbb:Below w8.heap.size w8 RG:=by rw [e20]; exact (Below.refl _ _).alloc (Nat.le_refl _) _
    have Uu:Box RG (w8.heap.size) [.int .i64 0,.int .i64 0,.int .i64 0] 52:=by rw [e20]; exact Box.new' _ _ _ _ rfl
    have N9:=M8.below hbb
    have Uw:=E8.stays hbb
    have RH:=aj L8 hbb L8.size
    have P20:=P8.below hbb (Nat.le_refl _)
    clear hbb e20
    refine hK.out _ _ (by and_intros <;> first | exact N9.box.cell _ rfl | exact Uw.cell _ rfl) (fun hHeld=>?_)
    clear hK K
    refine dO 14 fun K hK=>?_
    go_simp
    refine (Aw lY.out Mk.R Bk.vp Bk.vs Bk.ve Mk.pos vc v0 v1 Bk.vr Mk.aS _ N9.fr.rd uO.out.nm P20 N9.fr.pr (by have:=uO.out.pr.len; omega)).mono ?_
    rintro e mM hp
    rcases hp with ⟨hn,-⟩ | ⟨-,vr,rfl,wH,hbb⟩
    ·exact absurd iH.out hn
    obtain ⟨ra,rc,rfl⟩:=aI wH
    have M14:=N9.below hbb
    have OI:=Uw.stays hbb
    have zf:=aj RH hbb RH.size
    have LM:=Uu.stays hbb
    have BR:=wH
    have NS:wq.drew.heap.size≤RG.heap.size:=RH.size
    clear wH hbb
    refine hK.out _ _ (by and_intros <;> first | exact M14.box.cell _ rfl | exact OI.cell _ rfl) (fun hHeld=>?_)
    clear hK K
    refine aF 15 ?_
    refine aF 16 ?_
    refine aF 17 ?_
    refine aF 18 ?_
    refine aF 19 ?_
    refine dO 21 fun K hK=>?_
    rw [if_pos (by rfl)]
    refine wp_store_mid 52 (.tmp 5) (.tmp 67) (by rfl) (w8.heap.size) 0 #[.int .i64 (bf Mk.R Mk.pos Mk.aS).src,.int .i64 (bf Mk.R Mk.pos Mk.aS).dst,.int .i64 (bf Mk.R Mk.pos Mk.aS).piece] (by rfl) (by rfl) (LM.has 0 3 (by simp)) (by kernel_rfl) (by simp [Value.oneCell']) ?_
    refine aK ?_
    intro kJ e21
    have Xp:Box kJ (w8.heap.size) [.int .i64 (bf Mk.R Mk.pos Mk.aS).src,.int .i64 (bf Mk.R Mk.pos Mk.aS).dst,.int .i64 (bf Mk.R Mk.pos Mk.aS).piece] 52:=by rw [e21]; exact LM.store rfl
    have hbn:wq.heap.size≤w8.heap.size:=by first | exact Nat.le_refl _ | exact L8.size | exact zf.size
    have LK:Below wq.drew.heap.size wq.drew kJ:=by rw [e21]; exact below_setCells zf hbn 0 _
    have Ik:Fr (fun k=>k=w8.heap.size) mM kJ:=by rw [e21]; exact (Fr.refl (fun k=>k=w8.heap.size) mM).setCells (b:=w8.heap.size) rfl 0 _
    have RI:kJ.ownsRow wq.drew.heap.size 139 4 (.slice ra (aJ Mk.R Mk.pos Mk.aS).length rc) (aJ Mk.R Mk.pos Mk.aS).length (bW (aJ Mk.R Mk.pos Mk.aS)):=own_base (gV BR Ik (fun q hq e=>(by have h1:=(BR.lt q hq).1; have h2:=Uu.lt; omega))) NS
    have RJ:=Mz.below LK
    have RN:=Ez.stays LK
    clear e21 Ik
    refine hK.out _ _ (by and_intros <;> first | exact RJ.box.cell _ rfl | exact RN.cell _ rfl) (fun hHeld=>?_)
    clear hK K
    refine aF 22 ?_
    refine aF 23 ?_
    refine aF 24 ?_
    refine iE ?_
    have lG:=hid RJ
    have RP:=hid RN
    have Qc:=hid Xp
    have IV:Hid (kJ.ownsRow wq.drew.heap.size 139 4 (.slice ra (aJ Mk.R Mk.pos Mk.aS).length rc) (aJ Mk.R Mk.pos Mk.aS).length (bW (aJ Mk.R Mk.pos Mk.aS))):=hid RI
    have FI:Hid (dD S b w kJ):=hid (HF8.out.trans (dD.new (S:=Sk) LK) CV.out)
    have uQ:Hid (¬ (Sk w8.heap.size∨out1 X b w8.heap.size)):=hid (fun h=>by have:=BU.out _ h; omega)
    have Ux:Hid (∀ k,Value.ownBlock (.slice ra (aJ Mk.R Mk.pos Mk.aS).length rc)=some k→¬ (Sk k∨out1 X b k)):=hid (fun k hk h=>by have h1:=(RI.lt k hk).1; have h2:=BU.out k h; exact absurd h2 (Nat.not_lt.2 h1))
    clear M8 E8 L8 M14 OI zf N9 Uw RH RJ RN LK RI Xp hbn P8 BR NS P20 Uu LM Mz Ez Lz hHeld BU
    generalize w8.heap.size=bx at *
    have YO:=lG.out.box.cell 34 rfl
    have f34:=lG.out.box.frozen 34
    have HP:=hid (lG.out.put (M':={ Mk with aS:=(aJ Mk.R Mk.pos Mk.aS) }) (B':={ Bk with vr:=.slice ra (aJ Mk.R Mk.pos Mk.aS).length rc }) 34 [.slice ra (aJ Mk.R Mk.pos Mk.aS).length rc] (by simp) rfl rfl rfl rfl (fun w' hw=>⟨(lG.out.rd w' hw).rd,(lG.out.rd w' hw).per,(lG.out.rd w' hw).pc,nI (gV IV.out hw Ux.out),(lG.out.rd w' hw).jr⟩))
    have Xq:Hid (aH X Sk base (kJ.setCell ⟨b,34,none⟩ (.slice ra (aJ Mk.R Mk.pos Mk.aS).length rc)) b { Mk with aS:=(aJ Mk.R Mk.pos Mk.aS) } { Bk with vr:=.slice ra (aJ Mk.R Mk.pos Mk.aS).length rc }):=hid HP.out.1
    have IZ:Hid (dD S b w (kJ.setCell ⟨b,34,none⟩ (.slice ra (aJ Mk.R Mk.pos Mk.aS).length rc))):=hid (FI.out.trans HP.out.2 CV.out)
    have NJ:Hid (Box (kJ.setCell ⟨b,34,none⟩ (.slice ra (aJ Mk.R Mk.pos Mk.aS).length rc)) bx [.int .i64 (bf Mk.R Mk.pos Mk.aS).src,.int .i64 (bf Mk.R Mk.pos Mk.aS).dst,.int .i64 (bf Mk.R Mk.pos Mk.aS).piece] 52):=hid (Qc.out.far ⟨b,34,none⟩ _ (fun e=>uQ.out (.inr (.inl e))))
    have RQ:Hid (Box (kJ.setCell ⟨b,34,none⟩ (.slice ra (aJ Mk.R Mk.pos Mk.aS).length rc)) w.heap.size [.int .i64 ev.kind,.int .i64 ev.au,.int .i64 ev.n,.int .i64 ev.now,.int .i64 ev.m.src,.int .i64 ev.m.dst,.int .i64 ev.m.piece] 54):=hid (RP.out.far ⟨b,34,none⟩ _ (fun e=>by have:=EP.out; have h2:w.heap.size=b:=e; omega))
    clear HP IV Ux
    go_upto_region 11 with (fail)
    clear YO f34
    generalize (kJ.setCell ⟨b,34,none⟩ (.slice ra (aJ Mk.R Mk.pos Mk.aS).length rc))=Xr at *
    clear lG RP Qc FI
    by_cases hok:gB Mk.R Mk.pos Mk.aS=true
    rotate_left
    ·have uP:Hid (aG.runs ev.now 400 M1=({ Mk with aS:=aJ Mk.R Mk.pos Mk.aS }:aG)):=hid (by rw [Ij.out,DT.out,if_neg hok])
     have hob:gB Mk.R Mk.pos Mk.aS=false:=by simpa using hok
     rw [hob]
     clear hok hob
     go_wp2_with fail
     go_ret
     exact ⟨by rw [HD2.out]; rfl,Sk,_,by rw [HD2.out,uP.out]; exact Xq.out,CV.out,IZ.out⟩
    have CX:=hid hok
    have RS:Hid (wP ({ Mk with aS:=aJ Mk.R Mk.pos Mk.aS }:aG) (bf Mk.R Mk.pos Mk.aS) ev.now):=hid (by
     have hm:=uO.out.rest
     exact ⟨sN V8.out (Bd hok) (by have:=pY.out; show Mk.ms.length≠400; omega),hm.cr,hm.ck,hm.sn,hm.nw,hm.st,hm.fl,hm.us,hm.og,HK9.out.tu⟩)
    have Il:=hid (uO.out.rest.move (bf Mk.R Mk.pos Mk.aS))
    rw [hok]
    clear hok
    go_upto_region 12 with (fail)
    have x0:=NJ.out.cell 0 rfl
    have x1:=NJ.out.cell 1 rfl
    have x2:=NJ.out.cell 2 rfl
    have e3:=RQ.out.cell 3 rfl
    have Bf:Hid (aG.runs ev.now 400 M1=aG.runs ev.now (f - 1) (aG.move ({ Mk with aS:=aJ Mk.R Mk.pos Mk.aS }:aG) (bf Mk.R Mk.pos Mk.aS) ev.now)):=hid (by rw [Ij.out,DT.out,if_pos CX.out])
    have fH:Hid (base≤Xr.heap.size):=hid (Nat.le_trans qg.out IZ.out.size)
    go_wp2_with fail
    clear x0 x1 x2 e3
    refine (move_any lY.out (bf Mk.R Mk.pos Mk.aS) ev.now Xr Xq.out fH.out RS.out).mono ?_
    rintro e w12 ⟨rfl,S2,B2,hm2,hs2,hf2⟩
    have RU:=hid hm2
    have RV:Hid (Box w12 w.heap.size [.int .i64 ev.kind,.int .i64 ev.au,.int .i64 ev.n,.int .i64 ev.now,.int .i64 ev.m.src,.int .i64 ev.m.dst,.int .i64 ev.m.piece] 54):=hid (RQ.out.held hf2 (fun h=>by
     rcases h with h | h
     ·exact HNk.out h
     ·have h2:w.heap.size=b:=h
      have:=EP.out; omega))
    have RX:Hid (dw w S S2):=hid (fun k hk h=>CV.out k hk (hs2 k (Nat.lt_of_lt_of_le hk IZ.out.size) h))
    have RY:Hid (dD S b w w12):=hid (IZ.out.trans hf2 CV.out)
    have RZ:Hid (¬ S2 w.heap.size):=hid (fun h=>HNk.out (hs2 _ RQ.out.lt h))
    have I7:Hid (DR w12 b=Mk.ms.length+1):=hid (by rw [wQ hm2]; show (Mk.ms++[_]).length=_; simp)
    have HLn:Hid (400<f - 1+(aG.move ({ Mk with aS:=aJ Mk.R Mk.pos Mk.aS }:aG) (bf Mk.R Mk.pos Mk.aS) ev.now).ms.length):=hid (by
     have h1:=HFu.out; have h2:=pY.out
     show 400<f - 1+(Mk.ms++[_]).length
     simp; omega)
    clear hm2 hs2 hf2
    go_wp2_with fail
    go_roundw
    case rel=>exact ⟨f - 1,_,S2,B2,_,_,_,_,rfl,rfl,rfl,rfl,RU,Bf,HLn,Il,RX,RY,RV,RZ⟩
    case measure=>rw [I7.out,HLa.out]; have:=pY.out; omega
  ·skip
   go_simp
   refine aK ?_
   intro RG e20
   have hbb:Below wq.drew.heap.size wq.drew RG:=by rw [e20]; exact (Below.refl _ _).alloc (Nat.le_refl _) _
   have Uu:Box RG (wq.heap.size) [.int .i64 0,.int .i64 0,.int .i64 0] 52:=by rw [e20]; exact Box.new' _ _ _ _ rfl
   have N9:=Mz.below hbb
   have Uw:=Ez.stays hbb
   have RH:=aj Lz hbb Lz.size
   clear hbb e20
   refine hK.out _ _ (by and_intros <;> first | exact N9.box.cell _ rfl | exact Uw.cell _ rfl) (fun hHeld=>?_)
   clear hK K
   refine dO 8 fun K hK=>?_
   go_simp
   obtain ⟨up',us',ue',VB,VD,rows',IU⟩:=N9.game
   refine (iG _ IU.plain).mono ?_
   clear IU
   rintro e w8 ⟨vc,v0,v1,rfl,Xn,hbb⟩
   have M8:=N9.below hbb
   have E8:=Uw.stays hbb
   have L8:=aj RH hbb RH.size
   have X8:=Uu.stays hbb
   have P8:=Xn.rd
   clear Xn hbb
   refine hK.out _ _ (by and_intros <;> first | exact M8.box.cell _ rfl | exact E8.cell _ rfl) (fun hHeld=>?_)
   clear hK K
   refine dO 14 fun K hK=>?_
   go_simp
   refine (Aw lY.out Mk.R Bk.vp Bk.vs Bk.ve Mk.pos vc v0 v1 Bk.vr Mk.aS _ M8.fr.rd uO.out.nm P8 M8.fr.pr (by have:=uO.out.pr.len; omega)).mono ?_
   rintro e mM hp
   rcases hp with ⟨hn,-⟩ | ⟨-,vr,rfl,wH,hbb⟩
   ·exact absurd iH.out hn
   obtain ⟨ra,rc,rfl⟩:=aI wH
   have M14:=M8.below hbb
   have OI:=E8.stays hbb
   have zf:=aj L8 hbb L8.size
   have LM:=X8.stays hbb
   have BR:=wH
   have NS:wq.drew.heap.size≤w8.heap.size:=L8.size
   clear wH hbb
   refine hK.out _ _ (by and_intros <;> first | exact M14.box.cell _ rfl | exact OI.cell _ rfl) (fun hHeld=>?_)
   clear hK K
   refine aF 15 ?_
   refine aF 16 ?_
   refine aF 17 ?_
   refine aF 18 ?_
   refine aF 19 ?_
   refine dO 21 fun K hK=>?_
   rw [if_pos (by rfl)]
   refine wp_store_mid 52 (.tmp 5) (.tmp 67) (by rfl) (wq.heap.size) 0 #[.int .i64 (bf Mk.R Mk.pos Mk.aS).src,.int .i64 (bf Mk.R Mk.pos Mk.aS).dst,.int .i64 (bf Mk.R Mk.pos Mk.aS).piece] (by rfl) (by rfl) (LM.has 0 3 (by simp)) (by kernel_rfl) (by simp [Value.oneCell']) ?_
   refine aK ?_
   intro kJ e21
   have Xp:Box kJ (wq.heap.size) [.int .i64 (bf Mk.R Mk.pos Mk.aS).src,.int .i64 (bf Mk.R Mk.pos Mk.aS).dst,.int .i64 (bf Mk.R Mk.pos Mk.aS).piece] 52:=by rw [e21]; exact LM.store rfl
   have hbn:wq.heap.size≤wq.heap.size:=by first | exact Nat.le_refl _ | exact L8.size | exact zf.size
   have LK:Below wq.drew.heap.size wq.drew kJ:=by rw [e21]; exact below_setCells zf hbn 0 _
   have Ik:Fr (fun k=>k=wq.heap.size) mM kJ:=by rw [e21]; exact (Fr.refl (fun k=>k=wq.heap.size) mM).setCells (b:=wq.heap.size) rfl 0 _
   have RI:kJ.ownsRow wq.drew.heap.size 139 4 (.slice ra (aJ Mk.R Mk.pos Mk.aS).length rc) (aJ Mk.R Mk.pos Mk.aS).length (bW (aJ Mk.R Mk.pos Mk.aS)):=own_base (gV BR Ik (fun q hq e=>(by have h1:=(BR.lt q hq).1; have h2:=X8.lt; omega))) NS
   have RJ:=Mz.below LK
   have RN:=Ez.stays LK
   clear e21 Ik
   refine hK.out _ _ (by and_intros <;> first | exact RJ.box.cell _ rfl | exact RN.cell _ rfl) (fun hHeld=>?_)
   clear hK K
   refine aF 22 ?_
   refine aF 23 ?_
   refine aF 24 ?_
   refine iE ?_
   have lG:=hid RJ
   have RP:=hid RN
   have Qc:=hid Xp
   have IV:Hid (kJ.ownsRow wq.drew.heap.size 139 4 (.slice ra (aJ Mk.R Mk.pos Mk.aS).length rc) (aJ Mk.R Mk.pos Mk.aS).length (bW (aJ Mk.R Mk.pos Mk.aS))):=hid RI
   have FI:Hid (dD S b w kJ):=hid (HF8.out.trans (dD.new (S:=Sk) LK) CV.out)
   have uQ:Hid (¬ (Sk wq.heap.size∨out1 X b wq.heap.size)):=hid (fun h=>by have:=BU.out _ h; omega)
   have Ux:Hid (∀ k,Value.ownBlock (.slice ra (aJ Mk.R Mk.pos Mk.aS).length rc)=some k→¬ (Sk k∨out1 X b k)):=hid (fun k hk h=>by have h1:=(RI.lt k hk).1; have h2:=BU.out k h; exact absurd h2 (Nat.not_lt.2 h1))
   clear M8 E8 L8 M14 OI zf N9 Uw RH RJ RN LK RI Xp hbn P8 BR NS Uu X8 LM Mz Ez Lz hHeld BU
   obtain ⟨bx,hbx⟩:∃ bx,bx=wq.heap.size:=⟨_,rfl⟩
   rw [← hbx] at Qc uQ ⊢
   clear hbx
   have YO:=lG.out.box.cell 34 rfl
   have f34:=lG.out.box.frozen 34
   have HP:=hid (lG.out.put (M':={ Mk with aS:=(aJ Mk.R Mk.pos Mk.aS) }) (B':={ Bk with vr:=.slice ra (aJ Mk.R Mk.pos Mk.aS).length rc }) 34 [.slice ra (aJ Mk.R Mk.pos Mk.aS).length rc] (by simp) rfl rfl rfl rfl (fun w' hw=>⟨(lG.out.rd w' hw).rd,(lG.out.rd w' hw).per,(lG.out.rd w' hw).pc,nI (gV IV.out hw Ux.out),(lG.out.rd w' hw).jr⟩))
   have Xq:Hid (aH X Sk base (kJ.setCell ⟨b,34,none⟩ (.slice ra (aJ Mk.R Mk.pos Mk.aS).length rc)) b { Mk with aS:=(aJ Mk.R Mk.pos Mk.aS) } { Bk with vr:=.slice ra (aJ Mk.R Mk.pos Mk.aS).length rc }):=hid HP.out.1
   have IZ:Hid (dD S b w (kJ.setCell ⟨b,34,none⟩ (.slice ra (aJ Mk.R Mk.pos Mk.aS).length rc))):=hid (FI.out.trans HP.out.2 CV.out)
   have NJ:Hid (Box (kJ.setCell ⟨b,34,none⟩ (.slice ra (aJ Mk.R Mk.pos Mk.aS).length rc)) bx [.int .i64 (bf Mk.R Mk.pos Mk.aS).src,.int .i64 (bf Mk.R Mk.pos Mk.aS).dst,.int .i64 (bf Mk.R Mk.pos Mk.aS).piece] 52):=hid (Qc.out.far ⟨b,34,none⟩ _ (fun e=>uQ.out (.inr (.inl e))))
   have RQ:Hid (Box (kJ.setCell ⟨b,34,none⟩ (.slice ra (aJ Mk.R Mk.pos Mk.aS).length rc)) w.heap.size [.int .i64 ev.kind,.int .i64 ev.au,.int .i64 ev.n,.int .i64 ev.now,.int .i64 ev.m.src,.int .i64 ev.m.dst,.int .i64 ev.m.piece] 54):=hid (RP.out.far ⟨b,34,none⟩ _ (fun e=>by have:=EP.out; have h2:w.heap.size=b:=e; omega))
   clear HP IV Ux
   go_upto_region 11 with (fail)
   clear YO f34
   generalize (kJ.setCell ⟨b,34,none⟩ (.slice ra (aJ Mk.R Mk.pos Mk.aS).length rc))=Xr at *
   clear lG RP Qc FI
   by_cases hok:gB Mk.R Mk.pos Mk.aS=true
   rotate_left
   ·have uP:Hid (aG.runs ev.now 400 M1=({ Mk with aS:=aJ Mk.R Mk.pos Mk.aS }:aG)):=hid (by rw [Ij.out,DT.out,if_neg hok])
    have hob:gB Mk.R Mk.pos Mk.aS=false:=by simpa using hok
    rw [hob]
    clear hok hob
    go_wp2_with fail
    go_ret
    exact ⟨by rw [HD2.out]; rfl,Sk,_,by rw [HD2.out,uP.out]; exact Xq.out,CV.out,IZ.out⟩
   have CX:=hid hok
   have RS:Hid (wP ({ Mk with aS:=aJ Mk.R Mk.pos Mk.aS }:aG) (bf Mk.R Mk.pos Mk.aS) ev.now):=hid (by
    have hm:=uO.out.rest
    exact ⟨sN V8.out (Bd hok) (by have:=pY.out; show Mk.ms.length≠400; omega),hm.cr,hm.ck,hm.sn,hm.nw,hm.st,hm.fl,hm.us,hm.og,HK9.out.tu⟩)
   have Il:=hid (uO.out.rest.move (bf Mk.R Mk.pos Mk.aS))
   rw [hok]
   clear hok
   go_upto_region 12 with (fail)
   have x0:=NJ.out.cell 0 rfl
   have x1:=NJ.out.cell 1 rfl
   have x2:=NJ.out.cell 2 rfl
   have e3:=RQ.out.cell 3 rfl
   have Bf:Hid (aG.runs ev.now 400 M1=aG.runs ev.now (f - 1) (aG.move ({ Mk with aS:=aJ Mk.R Mk.pos Mk.aS }:aG) (bf Mk.R Mk.pos Mk.aS) ev.now)):=hid (by rw [Ij.out,DT.out,if_pos CX.out])
   have fH:Hid (base≤Xr.heap.size):=hid (Nat.le_trans qg.out IZ.out.size)
   go_wp2_with fail
   clear x0 x1 x2 e3
   refine (move_any lY.out (bf Mk.R Mk.pos Mk.aS) ev.now Xr Xq.out fH.out RS.out).mono ?_
   rintro e w12 ⟨rfl,S2,B2,hm2,hs2,hf2⟩
   have RU:=hid hm2
   have RV:Hid (Box w12 w.heap.size [.int .i64 ev.kind,.int .i64 ev.au,.int .i64 ev.n,.int .i64 ev.now,.int .i64 ev.m.src,.int .i64 ev.m.dst,.int .i64 ev.m.piece] 54):=hid (RQ.out.held hf2 (fun h=>by
    rcases h with h | h
    ·exact HNk.out h
    ·have h2:w.heap.size=b:=h
     have:=EP.out; omega))
   have RX:Hid (dw w S S2):=hid (fun k hk h=>CV.out k hk (hs2 k (Nat.lt_of_lt_of_le hk IZ.out.size) h))
   have RY:Hid (dD S b w w12):=hid (IZ.out.trans hf2 CV.out)
   have RZ:Hid (¬ S2 w.heap.size):=hid (fun h=>HNk.out (hs2 _ RQ.out.lt h))
   have I7:Hid (DR w12 b=Mk.ms.length+1):=hid (by rw [wQ hm2]; show (Mk.ms++[_]).length=_; simp)
   have HLn:Hid (400<f - 1+(aG.move ({ Mk with aS:=aJ Mk.R Mk.pos Mk.aS }:aG) (bf Mk.R Mk.pos Mk.aS) ev.now).ms.length):=hid (by
    have h1:=HFu.out; have h2:=pY.out
    show 400<f - 1+(Mk.ms++[_]).length
    simp; omega)
   clear hm2 hs2 hf2
   go_wp2_with fail
   go_roundw
   case rel=>exact ⟨f - 1,_,S2,B2,_,_,_,_,rfl,rfl,rfl,rfl,RU,Bf,HLn,Il,RX,RY,RV,RZ⟩
   case measure=>rw [I7.out,HLa.out]; have:=pY.out; omega
end Go.Proofs.YtmabaojkignodaaGreatDoor
