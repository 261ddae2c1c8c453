/- MaE, MaF. -/
import Derived.Test.YteablcielclaeaaGreatDoorC20
namespace Go.Proofs.YteablcielclaeaaGreatDoor
open Go.ChangeShapes Go.WideShapes Go.ChangeAt Go.RowKit
set_option linter.unusedVariables false
open Go.Lib (hid)
variable {X S:Nat→Prop} {base b:Nat} {M:aO} {B:mg}
def Gg (w:World) (b:Nat):Nat:=match w.cell? ⟨b,14,none⟩ with | some (.pointer (some a))=>(match w.cell? ⟨a.block,12,none⟩ with | some (.slice _ n _)=>n | _=>0) | _=>0
theorem yL {w:World} (h:aY X S base w b M B):Gg w b=M.ms.length:=by
 obtain ⟨up,us,ue,vl,vm,rows,hg⟩:=h.game
 have c14:=h.box.cell 14 rfl
 obtain ⟨a,c,rfl⟩:=aH hg.om
 have c12:=hg.box.cell 12 rfl
 unfold Gg
 rw [c14]
 simp only [c12]
def NextSaid (P:List fK→Prop):Prop:=∀ (R:au) (vp vs ve:Value) (p:aV) (vc v0 v1 v:Value) (l:List fK) (w:World),P l→qo w R vp vs ve→R.name.size≤maxLen→tJ w p vc v0 v1→iQ pW w v l→l.length≤1000 →
  Calls Tryz.prog 130 #[(.agg #[.string R.name,.int .i64 R.width,.int .i64 R.height,vp,vs,.bool R.falls,.bool R.keeps,ve,.int .i64 R.blocked,.int .i64 R.quiet,.int .i64 R.aZ]),(.agg #[vc,v0,v1,.int .i64 p.turn,.int .i64 p.quiet]),v] w (Dp R p l w)
set_option maxRecDepth 100000 in
set_option maxHeartbeats 16000000 in
theorem LV {P:List fK→Prop} (HNS:NextSaid P) (HPS:∀ R p l,P l→P (aI R p l)) (Vj:P M.aQ) (HS:SortMvSaid) (ev:yD) (w:World) (h:aY X S base w b M B) (hb:base≤w.heap.size) (hm:Mid M ev.now) (hg:M.game=0):Calls Tryz.prog 93 #[.pointer (some ⟨b,0,none⟩),.agg #[.int .i64 ev.kind,.int .i64 ev.aT,.int .i64 ev.n,.int .i64 ev.now,.int .i64 ev.m.src,.int .i64 ev.m.dst,.int .i64 ev.m.piece]] w fun e w'=>e=.returned (.int .i64 (M.jQ ev).2)∧AA X S base b w (M.jQ ev).1 w':=by
 have HNx:=hid HNS
 have HPn:=hid HPS
 have HPp:=hid Vj
 clear HNS HPS Vj
 have Vt:=hid hm
 have N8:=hid hg
 have HDM:Hid (M.jQ ev=if M.pos.turn≠ev.aT then (M,12) else if ev.m∉jP M.R M.pos then (M,13) else if M.ms.length=400 then (M,2) else (aO.runs ev.now 400 (M.move ev.m ev.now),0)):=hid rfl
 clear hm hg
 have pq:=hid HS
 have HM:=hid h
 have Ba:=hid hb
 have HSX:Hid (¬ S w.heap.size):=hid (fun hk=>by obtain ⟨up,us,ue,vl,vm,rows,hg⟩:=h.game; have:=(hg.lo _ hk).2; omega)
 have TY:Hid (b<w.heap.size):=hid h.box.lt
 clear h hb HS
 go_enter Tryz.func93,Tryz.ntmps93
 go_upto_region 1 with (fail)
 refine pV fun w0 uo fG hs_=>?_
 have sN:=hid uo
 have HB0:=hid fG
 clear hs_ uo fG
 have DJ:=hid (HM.out.below HB0.out)
 generalize w0=wq at *
 have Mz:aY X S base wq.drew b M B:=DJ.out.below (aP (Below.refl _ _))
 have Ez:=sN.out.drew
 have Lz:Below w.heap.size w wq.drew:=aP HB0.out
 clear DJ sN HB0
 refine wp_region_noPanic ?_
 refine bU (S:=(fun w'=>w'.cell? ⟨w.heap.size,1,none⟩=some (.int .i64 ev.aT))) (L:=[]) (by kernel_rfl) (Ez.cell 1 rfl) (fun hHeld=>?_)
 refine aJ 0 ?_
 refine aJ 2 ?_
 refine eH 3 ?_
 refine gI 1 fun K hK=>?_
 go_simp
 refine (LU _ Mz).mono ?_
 rintro e w1 ⟨rfl,hb1⟩
 have M1:=Mz.below hb1
 have E1:=Ez.stays hb1
 have L1:=aj Lz hb1 Lz.size
 clear hb1
 refine hK.out _ _ (E1.cell 1 rfl) (fun hHeld=>?_)
 clear hK K
 refine aJ 4 ?_
 refine aJ 5 ?_
 refine kW ?_
 have wY:=hid M1
 have jR:=hid E1
 have HB1:=hid L1
 clear M1 E1 L1 Mz Ez Lz hHeld
 generalize w1=wr at *
 by_cases ht:M.pos.turn=ev.aT
 rotate_left
 ·have HD2:Hid (M.jQ ev=(M,12)):=hid (by rw [HDM.out,if_pos ht])
  have htb:(M.pos.turn != ev.aT)=true:=by simpa using ht
  clear ht HDM
  generalize M.pos.turn=tt at *
  go_wp2_with fail
  go_ret
  exact ⟨by rw [HD2.out]; rfl,S,B,by rw [HD2.out]; exact wY.out,iI.refl _ _,iC.new HB1.out⟩
 have htb:(M.pos.turn != ev.aT)=false:=by simpa using ht
 have HT:=hid ht
 clear ht
 go_upto_region 3 with (fail)
 clear htb
 generalize wr=wq at *
 have Mz:aY X S base wq.drew b M B:=wY.out.below (aP (Below.refl _ _))
 have Ez:=jR.out.drew
 have Lz:Below w.heap.size w wq.drew:=aP HB1.out
 have HK:Hid (oK M.R (bJ M.R M.ms)):=hid (by obtain ⟨up,us,ue,vl,vm,rows,hg⟩:=HM.out.game; exact hg.nok)
 obtain ⟨up,us,ue,vl,vm,rows,hg⟩:=Mz.game
 have Gz:=hg.plain
 clear wY jR HB1 hg
 refine wp_region_noPanic ?_
 refine bU (S:=(fun w'=>w'.cell? ⟨b,0,none⟩=some (.string M.R.name)∧w'.cell? ⟨b,1,none⟩=some (.int .i64 M.R.width)∧w'.cell? ⟨b,2,none⟩=some (.int .i64 M.R.height)∧w'.cell? ⟨b,3,none⟩=some B.vp∧w'.cell? ⟨b,4,none⟩=some B.vs∧w'.cell? ⟨b,5,none⟩=some (.bool M.R.falls)∧w'.cell? ⟨b,6,none⟩=some (.bool M.R.keeps)∧w'.cell? ⟨b,7,none⟩=some B.ve∧w'.cell? ⟨b,8,none⟩=some (.int .i64 M.R.blocked)∧w'.cell? ⟨b,9,none⟩=some (.int .i64 M.R.quiet)∧w'.cell? ⟨b,10,none⟩=some (.int .i64 M.R.aZ)∧w'.cell? ⟨b,14,none⟩=some (.pointer (some ⟨B.g,0,none⟩))∧w'.cell? ⟨w.heap.size,4,none⟩=some (.int .i64 ev.m.src)∧w'.cell? ⟨w.heap.size,5,none⟩=some (.int .i64 ev.m.dst)∧w'.cell? ⟨w.heap.size,6,none⟩=some (.int .i64 ev.m.piece))) (L:=[]) (by kernel_rfl) (by and_intros <;> first | exact Mz.box.cell _ rfl | exact Ez.cell _ rfl) (fun hHeld=>?_)
 refine aJ 0 ?_
 refine aJ 4 ?_
 refine aJ 10 ?_
 refine aJ 1 ?_
 refine aJ 5 ?_
 refine eH 11 ?_
 refine aJ 2 ?_
 refine aJ 6 ?_
 refine eH 3 ?_
 refine eH 7 ?_
 refine gI 8 fun K hK=>?_
 go_simp
 refine (l9 _ Gz).mono ?_
 rintro e w8 ⟨vc,v0,v1,rfl,ho8,hb8⟩
 have M8:=Mz.below hb8
 have E8:=Ez.stays hb8
 have L8:=aj Lz hb8 Lz.size
 have P8:=ho8.rd
 clear ho8 hb8
 refine hK.out _ _ (by and_intros <;> first | exact M8.box.cell _ rfl | exact E8.cell _ rfl) (fun hHeld=>?_)
 clear hK K
 refine gI 9 fun K hK=>?_
 go_simp
 refine (Ti pq.out M.R B.vp B.vs B.ve (bJ M.R M.ms) vc v0 v1 _ M8.fr.rd P8 HK.out).mono ?_
 rintro e w9 ⟨vx,rfl,ho9,xP⟩
 obtain ⟨a9,c9,rfl⟩:=aH ho9
 have M9:=M8.below xP
 have E9:=E8.stays xP
 have L9:=aj L8 xP L8.size
 have R9:=lJ ho9
 clear ho9 xP
 refine hK.out _ _ (by and_intros <;> first | exact M9.box.cell _ rfl | exact E9.cell _ rfl) (fun hHeld=>?_)
 clear hK K
 refine gI 12 fun K hK=>?_
 go_simp
 refine (Ap _ ev.m _ _ R9).mono ?_
 rintro e w12 ⟨rfl,IQ⟩
 have M12:=M9.below IQ
 have E12:=E9.stays IQ
 have Xp:=aj L9 IQ L9.size
 clear IQ
 refine hK.out _ _ (by and_intros <;> first | exact M12.box.cell _ rfl | exact E12.cell _ rfl) (fun hHeld=>?_)
 clear hK K
 refine aJ 13 ?_
 refine aJ 14 ?_
 refine kW ?_
 have vO:=hid M12
 have xQ:=hid E12
 have HB3:=hid Xp
 clear M12 E12 Xp M9 E9 L9 M8 E8 L8 P8 R9 Mz Ez Lz Gz hHeld
 generalize w12=w2 at *
 by_cases hmv:ev.m∈jP M.R (bJ M.R M.ms)
 rotate_left
 ·have HD2:Hid (M.jQ ev=(M,13)):=hid (by rw [HDM.out,if_neg (fun h=>h HT.out),if_pos (show ev.m∉jP M.R M.pos from hmv)])
  rw [decide_eq_false hmv]
  clear hmv HDM
  go_wp2_with fail
  go_ret
  exact ⟨by rw [HD2.out]; rfl,S,B,by rw [HD2.out]; exact vO.out,iI.refl _ _,iC.new HB3.out⟩
 have HMV:=hid hmv
 rw [decide_eq_true hmv]
 clear hmv
 go_upto_region 5 with (fail)
 go_wp2_with fail
 refine (QV w2 vO.out).mono ?_
 rintro e w3 ⟨rfl,hb3⟩
 have HM4:=hid (vO.out.below hb3)
 have EZ:=hid (xQ.out.stays hb3)
 have HB4:=hid (aj HB3.out hb3 HB3.out.size)
 clear hb3 vO xQ HB3
 by_cases hl:M.ms.length=400
 ·have HD2:Hid (M.jQ ev=(M,2)):=hid (by rw [HDM.out,if_neg (fun h=>h HT.out),if_neg (fun h=>h HMV.out),if_pos hl])
  have hlb:((M.ms.length:Int) == 400)=true:=by simp; omega
  clear hl HDM
  generalize (M.ms.length:Int)=ll at *
  go_wp2_with fail
  go_ret
  exact ⟨by rw [HD2.out]; rfl,S,B,by rw [HD2.out]; exact HM4.out,iI.refl _ _,iC.new HB4.out⟩
 have HD2:Hid (M.jQ ev=(aO.runs ev.now 400 (M.move ev.m ev.now),0)):=hid (by rw [HDM.out,if_neg (fun h=>h HT.out),if_neg (fun h=>h HMV.out),if_neg hl])
 have ahi:Hid (yK M ev.m ev.now):=hid ⟨uV N8.out HMV.out hl,Vt.out.cr,Vt.out.ck,Vt.out.sn,Vt.out.nw,Vt.out.st,Vt.out.fl,Vt.out.us,Vt.out.og,HK.out.tu⟩
 have ZL:Hid (M.ms.length<400):=hid (by obtain ⟨up,us,ue,vl,vm,rows,hg⟩:=HM.out.game; have:=hg.lt; omega)
 have hlb:((M.ms.length:Int) == 400)=false:=by simp; omega
 have hll:¬ ((M.ms.length:Int)=400):=by omega
 clear hl HDM
 go_upto_region 7 with (fail)
 clear hlb hll
 have e3:=EZ.out.cell 3 rfl
 have e4:=EZ.out.cell 4 rfl
 have e5:=EZ.out.cell 5 rfl
 have e6:=EZ.out.cell 6 rfl
 go_wp2_with fail
 clear e3 e4 e5 e6
 refine (move_any pq.out ev.m ev.now w3 HM4.out (Nat.le_trans Ba.out HB4.out.size) ahi.out).mono ?_
 rintro e w4 ⟨rfl,S1,B1,hm4,hs4,hf4⟩
 have TR:=hid hm4
 have QH:Hid (Box w4 w.heap.size [.int .i64 ev.kind,.int .i64 ev.aT,.int .i64 ev.n,.int .i64 ev.now,.int .i64 ev.m.src,.int .i64 ev.m.dst,.int .i64 ev.m.piece] 71):=hid (EZ.out.held hf4 (fun h=>by
  rcases h with h | h
  ·exact HSX.out h
  ·have h2:w.heap.size=b:=h
   have:=TY.out; omega))
 have TU:Hid (iI w S S1):=hid (fun k hk h=>hs4 k (Nat.lt_of_lt_of_le hk HB4.out.size) h)
 have TT:Hid (iC S b w w4):=hid ((iC.new HB4.out).trans hf4 (iI.refl _ _))
 have HN5:Hid (¬ S1 w.heap.size):=hid (fun h=>HSX.out (hs4 _ EZ.out.lt h))
 have ahj:Hid (Mid (M.move ev.m ev.now) ev.now∧P (M.move ev.m ev.now).aQ):=hid ⟨Vt.out.move ev.m,HPp.out⟩
 have HLen:Hid (400<400+(M.move ev.m ev.now).ms.length):=hid (by show _<400+(M.ms++[ev.m]).length; simp)
 clear hm4 hs4 hf4 HM4 EZ HB4 ahi
 generalize M.move ev.m ev.now=M1 at *
 go_wp2_with fail
 go_loopw [5,6,7,8] (fun v5 v6 v7 v8 wr=>∃ (f:Nat) (Mk:aO) (Sk:Nat→Prop) (Bk:mg) (o5 o6 o7 o8:Value),o5=v5∧o6=v6∧o7=v7∧o8=v8∧Hid (aY X Sk base wr b Mk Bk)∧Hid (aO.runs ev.now 400 M1=aO.runs ev.now f Mk)∧Hid (400<f+Mk.ms.length)∧Hid (Mid Mk ev.now∧P Mk.aQ)∧Hid (iI w S Sk)∧Hid (iC S b w wr)∧Hid (Box wr w.heap.size [.int .i64 ev.kind,.int .i64 ev.aT,.int .i64 ev.n,.int .i64 ev.now,.int .i64 ev.m.src,.int .i64 ev.m.dst,.int .i64 ev.m.piece] 71)∧Hid (¬ Sk w.heap.size)) (fun _ _ _ _ wr=>401 - Gg wr b)
 case atStart=>exact ⟨400,M1,S1,B1,_,_,_,_,rfl,rfl,rfl,rfl,TR,hid rfl,HLen,ahj,TU,TT,QH,HN5⟩
 case round =>
  obtain ⟨f,Mk,Sk,Bk,o5,o6,o7,o8,rfl,rfl,rfl,rfl,HMk,LW,HFu,mV,IV,HFk,HEk,HNk⟩:=hrel
  have Po:=hid (yL HMk.out)
  have TD:Hid (Mk.ms.length≤400):=hid (by obtain ⟨up,us,ue,vl,vm,rows,hg⟩:=HMk.out.game; exact hg.lt)
  have HBk:Hid (base≤wr.heap.size):=hid (Nat.le_trans Ba.out HFk.out.size)
  have HWk:Hid (w.heap.size≤wr.heap.size):=hid HFk.out.size
  have c14:=HMk.out.box.cell 14 rfl
  have ZM:Hid (∃ up us ue vl vm rows,bM Sk base wr Bk.g Mk.R Mk.ms up us ue vl vm rows):=hid (by obtain ⟨up,us,ue,vl,vm,rows,hg⟩:=HMk.out.game; exact ⟨_,_,_,_,_,_,hg.plain⟩)
  go_wp2_with fail
  obtain ⟨up,us,ue,vl,vm,rows,hgk⟩:=ZM.out
  refine (pG pq.out wr hgk).mono ?_
  rintro e w5 ⟨rfl,hb5⟩
  have HM6:=hid (HMk.out.below hb5)
  have HE6:=hid (HEk.out.stays hb5)
  have HF6:Hid (iC S b w w5):=hid (HFk.out.trans (iC.new (S:=Sk) hb5) IV.out)
  have Vq:Hid (wr.heap.size≤w5.heap.size):=hid hb5.size
  clear hb5 hgk c14
  by_cases hgm:dV Mk.R Mk.ms=0
  rotate_left
  ·have hgb:(dV Mk.R Mk.ms == 0)=false:=by simpa using hgm
   have DL:Hid (aO.runs ev.now 400 M1=Mk):=hid (by rw [LW.out]; exact Gf _ _ _ (fun h=>hgm h.1))
   clear hgm
   generalize dV Mk.R Mk.ms=gm at *
   go_wp2_with fail
   go_ret
   exact ⟨by rw [HD2.out]; rfl,Sk,Bk,by rw [HD2.out,DL.out]; exact HM6.out,IV.out,HF6.out⟩
  have aa0:Hid (Mk.game=0):=hid hgm
  rw [hgm]
  clear hgm
  go_wp2_with fail
  refine (QV w5 HM6.out).mono ?_
  rintro e w6 ⟨rfl,hb6⟩
  have HM7:=hid (HM6.out.below hb6)
  have HE7:=hid (HE6.out.stays hb6)
  have HF7:Hid (iC S b w w6):=hid (HF6.out.trans (iC.new (S:=Sk) hb6) IV.out)
  have HZ7:Hid (wr.heap.size≤w6.heap.size):=hid (Nat.le_trans Vq.out hb6.size)
  clear hb6 HM6 HE6 HF6 Vq
  by_cases hl4:Mk.ms.length<400
  rotate_left
  ·have hlb:¬ ((Mk.ms.length:Int)<400):=by omega
   have DL:Hid (aO.runs ev.now 400 M1=Mk):=hid (by rw [LW.out]; exact Gf _ _ _ (fun h=>hl4 h.2))
   clear hl4
   generalize (Mk.ms.length:Int)=ll at *
   go_wp2_with fail
   go_ret
   exact ⟨by rw [HD2.out]; rfl,Sk,Bk,by rw [HD2.out,DL.out]; exact HM7.out,IV.out,HF7.out⟩
  have qY:=hid hl4
  have hlb:((Mk.ms.length:Int)<400):=by omega
  have Gh:=hid (TV ev.now f Mk aa0.out hl4 (by have:=HFu.out; omega))
  clear hl4
  go_upto_region 9 with (fail)
  clear hlb
  generalize w6=wq at *
  have Mz:aY X Sk base wq.drew b Mk Bk:=HM7.out.below (aP (Below.refl _ _))
  have Ez:=HE7.out.drew
  have Lz:Below wq.drew.heap.size wq.drew wq.drew:=Below.refl _ _
  have HF8:Hid (iC S b w wq.drew):=hid (Fr.drew HF7.out)
  have IW:Hid (∀ q,(Sk q∨out1 X b q)→q<wq.heap.size):=hid HM7.out.LQ
  have HK9:Hid (oK Mk.R Mk.pos):=hid (by obtain ⟨up,us,ue,vl,vm,rows,hg⟩:=Mz.game; exact hg.nok)
  have als:Hid (aF Mk.R=0):=hid (by obtain ⟨up,us,ue,vl,vm,rows,hg⟩:=Mz.game; exact hg.re)
  have kL:Hid (gY Mk.R Mk.pos Mk.aQ=0):=hid (by unfold gY; rw [if_neg (by rw [V9 als.out HK9.out]; decide)]; exact TW mV.out.1.pr)
  clear HM7 HE7 HF7 HZ7
  refine wp_region_noPanic ?_
  refine bU (S:=(fun w'=>w'.cell? ⟨b,0,none⟩=some (.string Mk.R.name)∧w'.cell? ⟨b,1,none⟩=some (.int .i64 Mk.R.width)∧w'.cell? ⟨b,2,none⟩=some (.int .i64 Mk.R.height)∧w'.cell? ⟨b,3,none⟩=some Bk.vp∧w'.cell? ⟨b,4,none⟩=some Bk.vs∧w'.cell? ⟨b,5,none⟩=some (.bool Mk.R.falls)∧w'.cell? ⟨b,6,none⟩=some (.bool Mk.R.keeps)∧w'.cell? ⟨b,7,none⟩=some Bk.ve∧w'.cell? ⟨b,8,none⟩=some (.int .i64 Mk.R.blocked)∧w'.cell? ⟨b,9,none⟩=some (.int .i64 Mk.R.quiet)∧w'.cell? ⟨b,10,none⟩=some (.int .i64 Mk.R.aZ)∧w'.cell? ⟨b,14,none⟩=some (.pointer (some ⟨Bk.g,0,none⟩))∧w'.cell? ⟨b,34,none⟩=some Bk.vr∧w'.cell? ⟨w.heap.size,3,none⟩=some (.int .i64 ev.now))) (L:=[]) (by kernel_rfl) (by and_intros <;> first | exact Mz.box.cell _ rfl | exact Ez.cell _ rfl) (fun hHeld=>?_)
  refine aJ 0 ?_
  refine aJ 4 ?_
  refine aJ 9 ?_
  refine aJ 1 ?_
  refine aJ 5 ?_
  refine aJ 10 ?_
  refine aJ 2 ?_
  refine aJ 6 ?_
  refine aJ 11 ?_
  refine eH 3 ?_
  refine eH 7 ?_
  refine aJ 12 ?_
  refine eH 13 ?_
  refine ZT (rs:=[8,20]) ?_
  refine (bC.cons (by first | (simp only [List.getElem?_toArray,List.getElem?_cons_zero,List.getElem?_cons_succ] <;> rfl) | rfl) (fun K hK=>?_) (bC.cons (by first | (simp only [List.getElem?_toArray,List.getElem?_cons_zero,List.getElem?_cons_succ] <;> rfl) | rfl) (fun K hK=>?_) bC.nil))
  ·skip
   go_simp
   obtain ⟨up',us',ue',W9,Vl,rows',hgp⟩:=Mz.game
   refine (l9 _ hgp.plain).mono ?_
   clear hgp
   rintro e w8 ⟨vc,v0,v1,rfl,ho8,hbb⟩
   have M8:=Mz.below hbb
   have E8:=Ez.stays hbb
   have L8:=aj Lz hbb Lz.size
   have P8:=ho8.rd
   clear ho8 hbb
   refine hK.out _ _ (by and_intros <;> first | exact M8.box.cell _ rfl | exact E8.cell _ rfl) (fun hHeld=>?_)
   clear hK K
   refine ZT (rs:=[14,20]) ?_
   refine (bC.cons (by first | (simp only [List.getElem?_toArray,List.getElem?_cons_zero,List.getElem?_cons_succ] <;> rfl) | rfl) (fun K hK=>?_) (bC.cons (by first | (simp only [List.getElem?_toArray,List.getElem?_cons_zero,List.getElem?_cons_succ] <;> rfl) | rfl) (fun K hK=>?_) bC.nil))
   ·skip
    go_simp
    refine (HNx.out Mk.R Bk.vp Bk.vs Bk.ve Mk.pos vc v0 v1 Bk.vr Mk.aQ _ mV.out.2 M8.fr.rd mV.out.1.nm P8 M8.fr.pr (by have:=mV.out.1.pr.len; omega)).mono ?_
    rintro e wV hp
    rcases hp with ⟨hn,-⟩ | ⟨-,vr,rfl,yH,hbb⟩
    ·exact absurd kL.out hn
    obtain ⟨ra,rc,rfl⟩:=aH yH
    have M14:=M8.below hbb
    have E14:=E8.stays hbb
    have LX:=aj L8 hbb L8.size
    have JO:=yH
    have TL:wq.drew.heap.size≤w8.heap.size:=L8.size
    clear yH hbb
    refine hK.out _ _ (by and_intros <;> first | exact M14.box.cell _ rfl | exact E14.cell _ rfl) (fun hHeld=>?_)
    clear hK K
    refine aJ 15 ?_
    refine aJ 16 ?_
    refine aJ 17 ?_
    refine aJ 18 ?_
    refine aJ 19 ?_
    refine gI 20 fun K hK=>?_
    go_simp
    refine bg ?_
    intro wZ e20
    have hbb:Below wV.heap.size wV wZ:=by rw [e20]; exact (Below.refl _ _).alloc (Nat.le_refl _) _
    have QW:Box wZ (wV.heap.size) [.int .i64 0,.int .i64 0,.int .i64 0] 68:=by rw [e20]; exact Box.new' _ _ _ _ rfl
    have Ua:=M14.below hbb
    have zl:=E14.stays hbb
    have qg:=aj LX hbb LX.size
    have O20:=aU JO hbb
    clear hbb e20
    refine hK.out _ _ (by and_intros <;> first | exact Ua.box.cell _ rfl | exact zl.cell _ rfl) (fun hHeld=>?_)
    clear hK K
    refine gI 21 fun K hK=>?_
    rw [if_pos (by rfl)]
    refine wp_store_mid 68 (.tmp 5) (.tmp 67) (by rfl) (wV.heap.size) 0 #[.int .i64 (bn Mk.R Mk.pos Mk.aQ).src,.int .i64 (bn Mk.R Mk.pos Mk.aQ).dst,.int .i64 (bn Mk.R Mk.pos Mk.aQ).piece] (by rfl) (by rfl) (QW.has 0 3 (by simp)) (by kernel_rfl) (by simp [Value.oneCell']) ?_
    refine bg ?_
    intro jC e21
    have Pq:Box jC (wV.heap.size) [.int .i64 (bn Mk.R Mk.pos Mk.aQ).src,.int .i64 (bn Mk.R Mk.pos Mk.aQ).dst,.int .i64 (bn Mk.R Mk.pos Mk.aQ).piece] 68:=by rw [e21]; exact QW.store rfl
    have hbn:wq.heap.size≤wV.heap.size:=by first | exact Nat.le_refl _ | exact L8.size | exact LX.size
    have DN:Below wq.drew.heap.size wq.drew jC:=by rw [e21]; exact below_setCells qg hbn 0 _
    have LY:Fr (fun k=>k=wV.heap.size) wZ jC:=by rw [e21]; exact (Fr.refl (fun k=>k=wV.heap.size) wZ).setCells (b:=wV.heap.size) rfl 0 _
    have XD:jC.ownsRow wq.drew.heap.size 173 4 (.slice ra (aI Mk.R Mk.pos Mk.aQ).length rc) (aI Mk.R Mk.pos Mk.aQ).length (jy (aI Mk.R Mk.pos Mk.aQ)):=own_base (fD O20 LY (fun q hq e=>(by have h1:=(JO.lt q hq).2; omega))) TL
    have XE:=Mz.below DN
    have JQ:=Ez.stays DN
    clear e21 LY
    refine hK.out _ _ (by and_intros <;> first | exact XE.box.cell _ rfl | exact JQ.cell _ rfl) (fun hHeld=>?_)
    clear hK K
    refine aJ 22 ?_
    refine aJ 23 ?_
    refine aJ 24 ?_
    refine kW ?_
    have kS:=hid XE
    have HE9:=hid JQ
    have WB:=hid Pq
    have xO:Hid (jC.ownsRow wq.drew.heap.size 173 4 (.slice ra (aI Mk.R Mk.pos Mk.aQ).length rc) (aI Mk.R Mk.pos Mk.aQ).length (jy (aI Mk.R Mk.pos Mk.aQ))):=hid XD
    have EX:Hid (iC S b w jC):=hid (HF8.out.trans (iC.new (S:=Sk) DN) IV.out)
    have HNX:Hid (¬ (Sk wV.heap.size∨out1 X b wV.heap.size)):=hid (fun h=>by have:=IW.out _ h; omega)
    have HNV:Hid (∀ k,Value.ownBlock (.slice ra (aI Mk.R Mk.pos Mk.aQ).length rc)=some k→¬ (Sk k∨out1 X b k)):=hid (fun k hk h=>by have h1:=(XD.lt k hk).1; have h2:=IW.out k h; exact absurd h2 (Nat.not_lt.2 h1))
    clear M8 E8 L8 M14 E14 LX Ua zl qg XE JQ DN XD Pq hbn P8 JO TL O20 QW Mz Ez Lz hHeld IW
    generalize wV.heap.size=bx at *
    have d34:=kS.out.box.cell 34 rfl
    have f34:=kS.out.box.frozen 34
    have HP:=hid (kS.out.put (M':={ Mk with aQ:=(aI Mk.R Mk.pos Mk.aQ) }) (B':={ Bk with vr:=.slice ra (aI Mk.R Mk.pos Mk.aQ).length rc }) 34 [.slice ra (aI Mk.R Mk.pos Mk.aQ).length rc] (by simp) rfl rfl rfl rfl (fun w' hw=>⟨(kS.out.rd w' hw).rd,(kS.out.rd w' hw).per,(kS.out.rd w' hw).pc,wR (fD xO.out hw HNV.out),(kS.out.rd w' hw).jr⟩))
    have HMn:Hid (aY X Sk base (jC.setCell ⟨b,34,none⟩ (.slice ra (aI Mk.R Mk.pos Mk.aQ).length rc)) b { Mk with aQ:=(aI Mk.R Mk.pos Mk.aQ) } { Bk with vr:=.slice ra (aI Mk.R Mk.pos Mk.aQ).length rc }):=hid HP.out.1
    have QX:Hid (iC S b w (jC.setCell ⟨b,34,none⟩ (.slice ra (aI Mk.R Mk.pos Mk.aQ).length rc))):=hid (EX.out.trans HP.out.2 IV.out)
    have Ub:Hid (Box (jC.setCell ⟨b,34,none⟩ (.slice ra (aI Mk.R Mk.pos Mk.aQ).length rc)) bx [.int .i64 (bn Mk.R Mk.pos Mk.aQ).src,.int .i64 (bn Mk.R Mk.pos Mk.aQ).dst,.int .i64 (bn Mk.R Mk.pos Mk.aQ).piece] 68):=hid (WB.out.far ⟨b,34,none⟩ _ (fun e=>HNX.out (.inr (.inl e))))
    have XF:Hid (Box (jC.setCell ⟨b,34,none⟩ (.slice ra (aI Mk.R Mk.pos Mk.aQ).length rc)) w.heap.size [.int .i64 ev.kind,.int .i64 ev.aT,.int .i64 ev.n,.int .i64 ev.now,.int .i64 ev.m.src,.int .i64 ev.m.dst,.int .i64 ev.m.piece] 71):=hid (HE9.out.far ⟨b,34,none⟩ _ (fun e=>by have:=TY.out; have h2:w.heap.size=b:=e; omega))
    clear HP xO HNV
    go_upto_region 11 with (fail)
    clear d34 f34
    generalize (jC.setCell ⟨b,34,none⟩ (.slice ra (aI Mk.R Mk.pos Mk.aQ).length rc))=w22 at *
    clear kS HE9 WB EX
    by_cases hok:jA Mk.R Mk.pos Mk.aQ=true
    rotate_left
    ·have DL:Hid (aO.runs ev.now 400 M1=({ Mk with aQ:=aI Mk.R Mk.pos Mk.aQ }:aO)):=hid (by rw [LW.out,Gh.out,if_neg hok])
     have hob:jA Mk.R Mk.pos Mk.aQ=false:=by simpa using hok
     rw [hob]
     clear hok hob
     go_wp2_with fail
     go_ret
     exact ⟨by rw [HD2.out]; rfl,Sk,_,by rw [HD2.out,DL.out]; exact HMn.out,IV.out,QX.out⟩
    have Pv:=hid hok
    have XG:Hid (yK ({ Mk with aQ:=aI Mk.R Mk.pos Mk.aQ }:aO) (bn Mk.R Mk.pos Mk.aQ) ev.now):=hid (by
     have hm:=mV.out.1.rest
     exact ⟨uV aa0.out (DK hok) (by have:=qY.out; show Mk.ms.length≠400; omega),hm.cr,hm.ck,hm.sn,hm.nw,hm.st,hm.fl,hm.us,hm.og,HK9.out.tu⟩)
    have LZ:Hid (Mid (aO.move { Mk with aQ:=aI Mk.R Mk.pos Mk.aQ } (bn Mk.R Mk.pos Mk.aQ) ev.now) ev.now∧P (aI Mk.R Mk.pos Mk.aQ)):=hid ⟨mV.out.1.rest.move (bn Mk.R Mk.pos Mk.aQ),HPn.out _ _ _ mV.out.2⟩
    rw [hok]
    clear hok
    go_upto_region 12 with (fail)
    have x0:=Ub.out.cell 0 rfl
    have x1:=Ub.out.cell 1 rfl
    have x2:=Ub.out.cell 2 rfl
    have e3:=XF.out.cell 3 rfl
    have DR:Hid (aO.runs ev.now 400 M1=aO.runs ev.now (f - 1) (aO.move ({ Mk with aQ:=aI Mk.R Mk.pos Mk.aQ }:aO) (bn Mk.R Mk.pos Mk.aQ) ev.now)):=hid (by rw [LW.out,Gh.out,if_pos Pv.out])
    have gG:Hid (base≤w22.heap.size):=hid (Nat.le_trans Ba.out QX.out.size)
    go_wp2_with fail
    clear x0 x1 x2 e3
    refine (move_any pq.out (bn Mk.R Mk.pos Mk.aQ) ev.now w22 HMn.out gG.out XG.out).mono ?_
    rintro e w12 ⟨rfl,S2,B2,hm2,hs2,hf2⟩
    have XH:=hid hm2
    have XI:Hid (Box w12 w.heap.size [.int .i64 ev.kind,.int .i64 ev.aT,.int .i64 ev.n,.int .i64 ev.now,.int .i64 ev.m.src,.int .i64 ev.m.dst,.int .i64 ev.m.piece] 71):=hid (XF.out.held hf2 (fun h=>by
     rcases h with h | h
     ·exact HNk.out h
     ·have h2:w.heap.size=b:=h
      have:=TY.out; omega))
    have XJ:Hid (iI w S S2):=hid (fun k hk h=>IV.out k hk (hs2 k (Nat.lt_of_lt_of_le hk QX.out.size) h))
    have XK:Hid (iC S b w w12):=hid (QX.out.trans hf2 IV.out)
    have XL:Hid (¬ S2 w.heap.size):=hid (fun h=>HNk.out (hs2 _ XF.out.lt h))
    have Px:Hid (Gg w12 b=Mk.ms.length+1):=hid (by rw [yL hm2]; show (Mk.ms++[_]).length=_; simp)
    have HLn:Hid (400<f - 1+(aO.move ({ Mk with aQ:=aI Mk.R Mk.pos Mk.aQ }:aO) (bn Mk.R Mk.pos Mk.aQ) ev.now).ms.length):=hid (by
     have h1:=HFu.out; have h2:=qY.out
     show 400<f - 1+(Mk.ms++[_]).length
     simp; omega)
    clear hm2 hs2 hf2
    go_wp2_with fail
    go_roundw
    case rel=>exact ⟨f - 1,_,S2,B2,_,_,_,_,rfl,rfl,rfl,rfl,XH,DR,HLn,LZ,XJ,XK,XI,XL⟩
    case measure=>rw [Px.out,Po.out]; have:=qY.out; omega
   ·skip
    go_simp
    refine bg ?_
    intro wZ e20
    have hbb:Below w8.heap.size w8 wZ:=by rw [e20]; exact (Below.refl _ _).alloc (Nat.le_refl _) _
    have QW:Box wZ (w8.heap.size) [.int .i64 0,.int .i64 0,.int .i64 0] 68:=by rw [e20]; exact Box.new' _ _ _ _ rfl
    have Ua:=M8.below hbb
    have zl:=E8.stays hbb
    have qg:=aj L8 hbb L8.size
    have P20:=P8.below hbb (Nat.le_refl _)
    clear hbb e20
    refine hK.out _ _ (by and_intros <;> first | exact Ua.box.cell _ rfl | exact zl.cell _ rfl) (fun hHeld=>?_)
    clear hK K
    refine gI 14 fun K hK=>?_
    go_simp
    refine (HNx.out Mk.R Bk.vp Bk.vs Bk.ve Mk.pos vc v0 v1 Bk.vr Mk.aQ _ mV.out.2 Ua.fr.rd mV.out.1.nm P20 Ua.fr.pr (by have:=mV.out.1.pr.len; omega)).mono ?_
    rintro e wV hp
    rcases hp with ⟨hn,-⟩ | ⟨-,vr,rfl,yH,hbb⟩
    ·exact absurd kL.out hn
    obtain ⟨ra,rc,rfl⟩:=aH yH
    have M14:=Ua.below hbb
    have E14:=zl.stays hbb
    have LX:=aj qg hbb qg.size
    have XM:=QW.stays hbb
    have JO:=yH
    have TL:wq.drew.heap.size≤wZ.heap.size:=qg.size
    clear yH hbb
    refine hK.out _ _ (by and_intros <;> first | exact M14.box.cell _ rfl | exact E14.cell _ rfl) (fun hHeld=>?_)
    clear hK K
    refine aJ 15 ?_
    refine aJ 16 ?_
    refine aJ 17 ?_
    refine aJ 18 ?_
    refine aJ 19 ?_
    refine gI 21 fun K hK=>?_
    rw [if_pos (by rfl)]
    refine wp_store_mid 68 (.tmp 5) (.tmp 67) (by rfl) (w8.heap.size) 0 #[.int .i64 (bn Mk.R Mk.pos Mk.aQ).src,.int .i64 (bn Mk.R Mk.pos Mk.aQ).dst,.int .i64 (bn Mk.R Mk.pos Mk.aQ).piece] (by rfl) (by rfl) (XM.has 0 3 (by simp)) (by kernel_rfl) (by simp [Value.oneCell']) ?_
    refine bg ?_
    intro jC e21
    have Pq:Box jC (w8.heap.size) [.int .i64 (bn Mk.R Mk.pos Mk.aQ).src,.int .i64 (bn Mk.R Mk.pos Mk.aQ).dst,.int .i64 (bn Mk.R Mk.pos Mk.aQ).piece] 68:=by rw [e21]; exact XM.store rfl
    have hbn:wq.heap.size≤w8.heap.size:=by first | exact Nat.le_refl _ | exact L8.size | exact LX.size
    have DN:Below wq.drew.heap.size wq.drew jC:=by rw [e21]; exact below_setCells LX hbn 0 _
    have LY:Fr (fun k=>k=w8.heap.size) wV jC:=by rw [e21]; exact (Fr.refl (fun k=>k=w8.heap.size) wV).setCells (b:=w8.heap.size) rfl 0 _
    have XD:jC.ownsRow wq.drew.heap.size 173 4 (.slice ra (aI Mk.R Mk.pos Mk.aQ).length rc) (aI Mk.R Mk.pos Mk.aQ).length (jy (aI Mk.R Mk.pos Mk.aQ)):=own_base (fD JO LY (fun q hq e=>(by have h1:=(JO.lt q hq).1; have h2:=QW.lt; omega))) TL
    have XE:=Mz.below DN
    have JQ:=Ez.stays DN
    clear e21 LY
    refine hK.out _ _ (by and_intros <;> first | exact XE.box.cell _ rfl | exact JQ.cell _ rfl) (fun hHeld=>?_)
    clear hK K
    refine aJ 22 ?_
    refine aJ 23 ?_
    refine aJ 24 ?_
    refine kW ?_
    have kS:=hid XE
    have HE9:=hid JQ
    have WB:=hid Pq
    have xO:Hid (jC.ownsRow wq.drew.heap.size 173 4 (.slice ra (aI Mk.R Mk.pos Mk.aQ).length rc) (aI Mk.R Mk.pos Mk.aQ).length (jy (aI Mk.R Mk.pos Mk.aQ))):=hid XD
    have EX:Hid (iC S b w jC):=hid (HF8.out.trans (iC.new (S:=Sk) DN) IV.out)
    have HNX:Hid (¬ (Sk w8.heap.size∨out1 X b w8.heap.size)):=hid (fun h=>by have:=IW.out _ h; omega)
    have HNV:Hid (∀ k,Value.ownBlock (.slice ra (aI Mk.R Mk.pos Mk.aQ).length rc)=some k→¬ (Sk k∨out1 X b k)):=hid (fun k hk h=>by have h1:=(XD.lt k hk).1; have h2:=IW.out k h; exact absurd h2 (Nat.not_lt.2 h1))
    clear M8 E8 L8 M14 E14 LX Ua zl qg XE JQ DN XD Pq hbn P8 JO TL P20 QW XM Mz Ez Lz hHeld IW
    generalize w8.heap.size=bx at *
    have d34:=kS.out.box.cell 34 rfl
    have f34:=kS.out.box.frozen 34
    have HP:=hid (kS.out.put (M':={ Mk with aQ:=(aI Mk.R Mk.pos Mk.aQ) }) (B':={ Bk with vr:=.slice ra (aI Mk.R Mk.pos Mk.aQ).length rc }) 34 [.slice ra (aI Mk.R Mk.pos Mk.aQ).length rc] (by simp) rfl rfl rfl rfl (fun w' hw=>⟨(kS.out.rd w' hw).rd,(kS.out.rd w' hw).per,(kS.out.rd w' hw).pc,wR (fD xO.out hw HNV.out),(kS.out.rd w' hw).jr⟩))
    have HMn:Hid (aY X Sk base (jC.setCell ⟨b,34,none⟩ (.slice ra (aI Mk.R Mk.pos Mk.aQ).length rc)) b { Mk with aQ:=(aI Mk.R Mk.pos Mk.aQ) } { Bk with vr:=.slice ra (aI Mk.R Mk.pos Mk.aQ).length rc }):=hid HP.out.1
    have QX:Hid (iC S b w (jC.setCell ⟨b,34,none⟩ (.slice ra (aI Mk.R Mk.pos Mk.aQ).length rc))):=hid (EX.out.trans HP.out.2 IV.out)
    have Ub:Hid (Box (jC.setCell ⟨b,34,none⟩ (.slice ra (aI Mk.R Mk.pos Mk.aQ).length rc)) bx [.int .i64 (bn Mk.R Mk.pos Mk.aQ).src,.int .i64 (bn Mk.R Mk.pos Mk.aQ).dst,.int .i64 (bn Mk.R Mk.pos Mk.aQ).piece] 68):=hid (WB.out.far ⟨b,34,none⟩ _ (fun e=>HNX.out (.inr (.inl e))))
    have XF:Hid (Box (jC.setCell ⟨b,34,none⟩ (.slice ra (aI Mk.R Mk.pos Mk.aQ).length rc)) w.heap.size [.int .i64 ev.kind,.int .i64 ev.aT,.int .i64 ev.n,.int .i64 ev.now,.int .i64 ev.m.src,.int .i64 ev.m.dst,.int .i64 ev.m.piece] 71):=hid (HE9.out.far ⟨b,34,none⟩ _ (fun e=>by have:=TY.out; have h2:w.heap.size=b:=e; omega))
    clear HP xO HNV
    go_upto_region 11 with (fail)
    clear d34 f34
    generalize (jC.setCell ⟨b,34,none⟩ (.slice ra (aI Mk.R Mk.pos Mk.aQ).length rc))=w22 at *
    clear kS HE9 WB EX
    by_cases hok:jA Mk.R Mk.pos Mk.aQ=true
    rotate_left
    ·have DL:Hid (aO.runs ev.now 400 M1=({ Mk with aQ:=aI Mk.R Mk.pos Mk.aQ }:aO)):=hid (by rw [LW.out,Gh.out,if_neg hok])
     have hob:jA Mk.R Mk.pos Mk.aQ=false:=by simpa using hok
     rw [hob]
     clear hok hob
     go_wp2_with fail
     go_ret
     exact ⟨by rw [HD2.out]; rfl,Sk,_,by rw [HD2.out,DL.out]; exact HMn.out,IV.out,QX.out⟩
    have Pv:=hid hok
    have XG:Hid (yK ({ Mk with aQ:=aI Mk.R Mk.pos Mk.aQ }:aO) (bn Mk.R Mk.pos Mk.aQ) ev.now):=hid (by
     have hm:=mV.out.1.rest
     exact ⟨uV aa0.out (DK hok) (by have:=qY.out; show Mk.ms.length≠400; omega),hm.cr,hm.ck,hm.sn,hm.nw,hm.st,hm.fl,hm.us,hm.og,HK9.out.tu⟩)
    have LZ:Hid (Mid (aO.move { Mk with aQ:=aI Mk.R Mk.pos Mk.aQ } (bn Mk.R Mk.pos Mk.aQ) ev.now) ev.now∧P (aI Mk.R Mk.pos Mk.aQ)):=hid ⟨mV.out.1.rest.move (bn Mk.R Mk.pos Mk.aQ),HPn.out _ _ _ mV.out.2⟩
    rw [hok]
    clear hok
    go_upto_region 12 with (fail)
    have x0:=Ub.out.cell 0 rfl
    have x1:=Ub.out.cell 1 rfl
    have x2:=Ub.out.cell 2 rfl
    have e3:=XF.out.cell 3 rfl
    have DR:Hid (aO.runs ev.now 400 M1=aO.runs ev.now (f - 1) (aO.move ({ Mk with aQ:=aI Mk.R Mk.pos Mk.aQ }:aO) (bn Mk.R Mk.pos Mk.aQ) ev.now)):=hid (by rw [LW.out,Gh.out,if_pos Pv.out])
    have gG:Hid (base≤w22.heap.size):=hid (Nat.le_trans Ba.out QX.out.size)
    go_wp2_with fail
    clear x0 x1 x2 e3
    refine (move_any pq.out (bn Mk.R Mk.pos Mk.aQ) ev.now w22 HMn.out gG.out XG.out).mono ?_
    rintro e w12 ⟨rfl,S2,B2,hm2,hs2,hf2⟩
    have XH:=hid hm2
    have XI:Hid (Box w12 w.heap.size [.int .i64 ev.kind,.int .i64 ev.aT,.int .i64 ev.n,.int .i64 ev.now,.int .i64 ev.m.src,.int .i64 ev.m.dst,.int .i64 ev.m.piece] 71):=hid (XF.out.held hf2 (fun h=>by
     rcases h with h | h
     ·exact HNk.out h
     ·have h2:w.heap.size=b:=h
      have:=TY.out; omega))
    have XJ:Hid (iI w S S2):=hid (fun k hk h=>IV.out k hk (hs2 k (Nat.lt_of_lt_of_le hk QX.out.size) h))
    have XK:Hid (iC S b w w12):=hid (QX.out.trans hf2 IV.out)
    have XL:Hid (¬ S2 w.heap.size):=hid (fun h=>HNk.out (hs2 _ XF.out.lt h))
    have Px:Hid (Gg w12 b=Mk.ms.length+1):=hid (by rw [yL hm2]; show (Mk.ms++[_]).length=_; simp)
    have HLn:Hid (400<f - 1+(aO.move ({ Mk with aQ:=aI Mk.R Mk.pos Mk.aQ }:aO) (bn Mk.R Mk.pos Mk.aQ) ev.now).ms.length):=hid (by
     have h1:=HFu.out; have h2:=qY.out
     show 400<f - 1+(Mk.ms++[_]).length
     simp; omega)
    clear hm2 hs2 hf2
    go_wp2_with fail
    go_roundw
    case rel=>exact ⟨f - 1,_,S2,B2,_,_,_,_,rfl,rfl,rfl,rfl,XH,DR,HLn,LZ,XJ,XK,XI,XL⟩
    case measure=>rw [Px.out,Po.out]; have:=qY.out; omega
  ·skip
   go_simp
   refine bg ?_
   intro wZ e20
   have hbb:Below wq.drew.heap.size wq.drew wZ:=by rw [e20]; exact (Below.refl _ _).alloc (Nat.le_refl _) _
   have QW:Box wZ (wq.heap.size) [.int .i64 0,.int .i64 0,.int .i64 0] 68:=by rw [e20]; exact Box.new' _ _ _ _ rfl
   have Ua:=Mz.below hbb
   have zl:=Ez.stays hbb
   have qg:=aj Lz hbb Lz.size
   clear hbb e20
   refine hK.out _ _ (by and_intros <;> first | exact Ua.box.cell _ rfl | exact zl.cell _ rfl) (fun hHeld=>?_)
   clear hK K
   refine gI 8 fun K hK=>?_
   go_simp
   obtain ⟨up',us',ue',W9,Vl,rows',hgp⟩:=Ua.game
   refine (l9 _ hgp.plain).mono ?_
   clear hgp
   rintro e w8 ⟨vc,v0,v1,rfl,ho8,hbb⟩
   have M8:=Ua.below hbb
   have E8:=zl.stays hbb
   have L8:=aj qg hbb qg.size
   have X8:=QW.stays hbb
   have P8:=ho8.rd
   clear ho8 hbb
   refine hK.out _ _ (by and_intros <;> first | exact M8.box.cell _ rfl | exact E8.cell _ rfl) (fun hHeld=>?_)
   clear hK K
   refine gI 14 fun K hK=>?_
   go_simp
   refine (HNx.out Mk.R Bk.vp Bk.vs Bk.ve Mk.pos vc v0 v1 Bk.vr Mk.aQ _ mV.out.2 M8.fr.rd mV.out.1.nm P8 M8.fr.pr (by have:=mV.out.1.pr.len; omega)).mono ?_
   rintro e wV hp
   rcases hp with ⟨hn,-⟩ | ⟨-,vr,rfl,yH,hbb⟩
   ·exact absurd kL.out hn
   obtain ⟨ra,rc,rfl⟩:=aH yH
   have M14:=M8.below hbb
   have E14:=E8.stays hbb
   have LX:=aj L8 hbb L8.size
   have XM:=X8.stays hbb
   have JO:=yH
   have TL:wq.drew.heap.size≤w8.heap.size:=L8.size
   clear yH hbb
   refine hK.out _ _ (by and_intros <;> first | exact M14.box.cell _ rfl | exact E14.cell _ rfl) (fun hHeld=>?_)
   clear hK K
   refine aJ 15 ?_
   refine aJ 16 ?_
   refine aJ 17 ?_
   refine aJ 18 ?_
   refine aJ 19 ?_
   refine gI 21 fun K hK=>?_
   rw [if_pos (by rfl)]
   refine wp_store_mid 68 (.tmp 5) (.tmp 67) (by rfl) (wq.heap.size) 0 #[.int .i64 (bn Mk.R Mk.pos Mk.aQ).src,.int .i64 (bn Mk.R Mk.pos Mk.aQ).dst,.int .i64 (bn Mk.R Mk.pos Mk.aQ).piece] (by rfl) (by rfl) (XM.has 0 3 (by simp)) (by kernel_rfl) (by simp [Value.oneCell']) ?_
   refine bg ?_
   intro jC e21
   have Pq:Box jC (wq.heap.size) [.int .i64 (bn Mk.R Mk.pos Mk.aQ).src,.int .i64 (bn Mk.R Mk.pos Mk.aQ).dst,.int .i64 (bn Mk.R Mk.pos Mk.aQ).piece] 68:=by rw [e21]; exact XM.store rfl
   have hbn:wq.heap.size≤wq.heap.size:=by first | exact Nat.le_refl _ | exact L8.size | exact LX.size
   have DN:Below wq.drew.heap.size wq.drew jC:=by rw [e21]; exact below_setCells LX hbn 0 _
   have LY:Fr (fun k=>k=wq.heap.size) wV jC:=by rw [e21]; exact (Fr.refl (fun k=>k=wq.heap.size) wV).setCells (b:=wq.heap.size) rfl 0 _
   have XD:jC.ownsRow wq.drew.heap.size 173 4 (.slice ra (aI Mk.R Mk.pos Mk.aQ).length rc) (aI Mk.R Mk.pos Mk.aQ).length (jy (aI Mk.R Mk.pos Mk.aQ)):=own_base (fD JO LY (fun q hq e=>(by have h1:=(JO.lt q hq).1; have h2:=X8.lt; omega))) TL
   have XE:=Mz.below DN
   have JQ:=Ez.stays DN
   clear e21 LY
   refine hK.out _ _ (by and_intros <;> first | exact XE.box.cell _ rfl | exact JQ.cell _ rfl) (fun hHeld=>?_)
   clear hK K
   refine aJ 22 ?_
   refine aJ 23 ?_
   refine aJ 24 ?_
   refine kW ?_
   have kS:=hid XE
   have HE9:=hid JQ
   have WB:=hid Pq
   have xO:Hid (jC.ownsRow wq.drew.heap.size 173 4 (.slice ra (aI Mk.R Mk.pos Mk.aQ).length rc) (aI Mk.R Mk.pos Mk.aQ).length (jy (aI Mk.R Mk.pos Mk.aQ))):=hid XD
   have EX:Hid (iC S b w jC):=hid (HF8.out.trans (iC.new (S:=Sk) DN) IV.out)
   have HNX:Hid (¬ (Sk wq.heap.size∨out1 X b wq.heap.size)):=hid (fun h=>by have:=IW.out _ h; omega)
   have HNV:Hid (∀ k,Value.ownBlock (.slice ra (aI Mk.R Mk.pos Mk.aQ).length rc)=some k→¬ (Sk k∨out1 X b k)):=hid (fun k hk h=>by have h1:=(XD.lt k hk).1; have h2:=IW.out k h; exact absurd h2 (Nat.not_lt.2 h1))
   clear M8 E8 L8 M14 E14 LX Ua zl qg XE JQ DN XD Pq hbn P8 JO TL QW X8 XM Mz Ez Lz hHeld IW
   obtain ⟨bx,hbx⟩:∃ bx,bx=wq.heap.size:=⟨_,rfl⟩
   rw [← hbx] at WB HNX ⊢
   clear hbx
   have d34:=kS.out.box.cell 34 rfl
   have f34:=kS.out.box.frozen 34
   have HP:=hid (kS.out.put (M':={ Mk with aQ:=(aI Mk.R Mk.pos Mk.aQ) }) (B':={ Bk with vr:=.slice ra (aI Mk.R Mk.pos Mk.aQ).length rc }) 34 [.slice ra (aI Mk.R Mk.pos Mk.aQ).length rc] (by simp) rfl rfl rfl rfl (fun w' hw=>⟨(kS.out.rd w' hw).rd,(kS.out.rd w' hw).per,(kS.out.rd w' hw).pc,wR (fD xO.out hw HNV.out),(kS.out.rd w' hw).jr⟩))
   have HMn:Hid (aY X Sk base (jC.setCell ⟨b,34,none⟩ (.slice ra (aI Mk.R Mk.pos Mk.aQ).length rc)) b { Mk with aQ:=(aI Mk.R Mk.pos Mk.aQ) } { Bk with vr:=.slice ra (aI Mk.R Mk.pos Mk.aQ).length rc }):=hid HP.out.1
   have QX:Hid (iC S b w (jC.setCell ⟨b,34,none⟩ (.slice ra (aI Mk.R Mk.pos Mk.aQ).length rc))):=hid (EX.out.trans HP.out.2 IV.out)
   have Ub:Hid (Box (jC.setCell ⟨b,34,none⟩ (.slice ra (aI Mk.R Mk.pos Mk.aQ).length rc)) bx [.int .i64 (bn Mk.R Mk.pos Mk.aQ).src,.int .i64 (bn Mk.R Mk.pos Mk.aQ).dst,.int .i64 (bn Mk.R Mk.pos Mk.aQ).piece] 68):=hid (WB.out.far ⟨b,34,none⟩ _ (fun e=>HNX.out (.inr (.inl e))))
   have XF:Hid (Box (jC.setCell ⟨b,34,none⟩ (.slice ra (aI Mk.R Mk.pos Mk.aQ).length rc)) w.heap.size [.int .i64 ev.kind,.int .i64 ev.aT,.int .i64 ev.n,.int .i64 ev.now,.int .i64 ev.m.src,.int .i64 ev.m.dst,.int .i64 ev.m.piece] 71):=hid (HE9.out.far ⟨b,34,none⟩ _ (fun e=>by have:=TY.out; have h2:w.heap.size=b:=e; omega))
   clear HP xO HNV
   go_upto_region 11 with (fail)
   clear d34 f34
   generalize (jC.setCell ⟨b,34,none⟩ (.slice ra (aI Mk.R Mk.pos Mk.aQ).length rc))=w22 at *
   clear kS HE9 WB EX
   by_cases hok:jA Mk.R Mk.pos Mk.aQ=true
   rotate_left
   ·have DL:Hid (aO.runs ev.now 400 M1=({ Mk with aQ:=aI Mk.R Mk.pos Mk.aQ }:aO)):=hid (by rw [LW.out,Gh.out,if_neg hok])
    have hob:jA Mk.R Mk.pos Mk.aQ=false:=by simpa using hok
    rw [hob]
    clear hok hob
    go_wp2_with fail
    go_ret
    exact ⟨by rw [HD2.out]; rfl,Sk,_,by rw [HD2.out,DL.out]; exact HMn.out,IV.out,QX.out⟩
   have Pv:=hid hok
   have XG:Hid (yK ({ Mk with aQ:=aI Mk.R Mk.pos Mk.aQ }:aO) (bn Mk.R Mk.pos Mk.aQ) ev.now):=hid (by
    have hm:=mV.out.1.rest
    exact ⟨uV aa0.out (DK hok) (by have:=qY.out; show Mk.ms.length≠400; omega),hm.cr,hm.ck,hm.sn,hm.nw,hm.st,hm.fl,hm.us,hm.og,HK9.out.tu⟩)
   have LZ:Hid (Mid (aO.move { Mk with aQ:=aI Mk.R Mk.pos Mk.aQ } (bn Mk.R Mk.pos Mk.aQ) ev.now) ev.now∧P (aI Mk.R Mk.pos Mk.aQ)):=hid ⟨mV.out.1.rest.move (bn Mk.R Mk.pos Mk.aQ),HPn.out _ _ _ mV.out.2⟩
   rw [hok]
   clear hok
   go_upto_region 12 with (fail)
   have x0:=Ub.out.cell 0 rfl
   have x1:=Ub.out.cell 1 rfl
   have x2:=Ub.out.cell 2 rfl
   have e3:=XF.out.cell 3 rfl
   have DR:Hid (aO.runs ev.now 400 M1=aO.runs ev.now (f - 1) (aO.move ({ Mk with aQ:=aI Mk.R Mk.pos Mk.aQ }:aO) (bn Mk.R Mk.pos Mk.aQ) ev.now)):=hid (by rw [LW.out,Gh.out,if_pos Pv.out])
   have gG:Hid (base≤w22.heap.size):=hid (Nat.le_trans Ba.out QX.out.size)
   go_wp2_with fail
   clear x0 x1 x2 e3
   refine (move_any pq.out (bn Mk.R Mk.pos Mk.aQ) ev.now w22 HMn.out gG.out XG.out).mono ?_
   rintro e w12 ⟨rfl,S2,B2,hm2,hs2,hf2⟩
   have XH:=hid hm2
   have XI:Hid (Box w12 w.heap.size [.int .i64 ev.kind,.int .i64 ev.aT,.int .i64 ev.n,.int .i64 ev.now,.int .i64 ev.m.src,.int .i64 ev.m.dst,.int .i64 ev.m.piece] 71):=hid (XF.out.held hf2 (fun h=>by
    rcases h with h | h
    ·exact HNk.out h
    ·have h2:w.heap.size=b:=h
     have:=TY.out; omega))
   have XJ:Hid (iI w S S2):=hid (fun k hk h=>IV.out k hk (hs2 k (Nat.lt_of_lt_of_le hk QX.out.size) h))
   have XK:Hid (iC S b w w12):=hid (QX.out.trans hf2 IV.out)
   have XL:Hid (¬ S2 w.heap.size):=hid (fun h=>HNk.out (hs2 _ XF.out.lt h))
   have Px:Hid (Gg w12 b=Mk.ms.length+1):=hid (by rw [yL hm2]; show (Mk.ms++[_]).length=_; simp)
   have HLn:Hid (400<f - 1+(aO.move ({ Mk with aQ:=aI Mk.R Mk.pos Mk.aQ }:aO) (bn Mk.R Mk.pos Mk.aQ) ev.now).ms.length):=hid (by
    have h1:=HFu.out; have h2:=qY.out
    show 400<f - 1+(Mk.ms++[_]).length
    simp; omega)
   clear hm2 hs2 hf2
   go_wp2_with fail
   go_roundw
   case rel=>exact ⟨f - 1,_,S2,B2,_,_,_,_,rfl,rfl,rfl,rfl,XH,DR,HLn,LZ,XJ,XK,XI,XL⟩
   case measure=>rw [Px.out,Po.out]; have:=qY.out; omega
end Go.Proofs.YteablcielclaeaaGreatDoor
namespace Go.Proofs.YteablcielclaeaaGreatDoor
open Go.ChangeShapes Go.WideShapes Go.ChangeAt Go.RowKit
set_option linter.unusedVariables false
set_option maxHeartbeats 8000000
set_option maxRecDepth 100000
variable {X S:Nat→Prop} {base b:Nat} {M:aO} {B:mg}
end Go.Proofs.YteablcielclaeaaGreatDoor
