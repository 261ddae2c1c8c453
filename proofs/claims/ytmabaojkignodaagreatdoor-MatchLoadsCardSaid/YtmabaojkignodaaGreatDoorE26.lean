/- match's doPremove and doOffer. -/
import Derived.Test.YtmabaojkignodaaGreatDoorE25
namespace Go.Proofs.YtmabaojkignodaaGreatDoor
open Go.ChangeShapes Go.WideShapes Go.ChangeAt Go.RowKit
set_option linter.unusedVariables false
set_option maxHeartbeats 8000000
set_option maxRecDepth 100000
open Go.Lib (hid)
variable {X S:Nat→Prop} {base b:Nat} {M:aG} {B:jv}
theorem CY (HS:SortMvSaid) (ev:iY) (w:World) (h:aH X S base w b M B) (hb:base≤w.heap.size) (hpg:nM M.aS) (hpl:ev.au=0∨ev.au=1):Calls Tryz.prog 100 #[.pointer (some ⟨b,0,none⟩),.agg #[.int .i64 ev.kind,.int .i64 ev.au,.int .i64 ev.n,.int .i64 ev.now,.int .i64 ev.m.src,.int .i64 ev.m.dst,.int .i64 ev.m.piece]] w fun e w'=>e=.returned (.int .i64 (M.eY ev).2)∧wM X S base b w (M.eY ev).1 w':=by
 have HPg:=hid hpg
 have yS:=hid hpl
 clear hpg hpl
 have lY:=hid HS
 have HM:=hid h
 have qg:=hid hb
 have LJ:Hid (¬ S w.heap.size):=hid (fun hk=>by obtain ⟨up,us,ue,vl,vm,rows,hg⟩:=h.game; have:=(hg.lo _ hk).2; omega)
 have EP:Hid (b<w.heap.size):=hid h.box.lt
 clear h hb HS
 go_enter Tryz.func100,Tryz.ntmps100
 go_upto_region 1 with (fail)
 refine lM fun w0 jU dM hs_=>?_
 have jy:=hid jU
 have HB0:=hid dM
 clear hs_ jU dM
 have iZ:=hid (HM.out.below HB0.out)
 generalize w0=wq at *
 have Mz:aH X S base wq.drew b M B:=iZ.out.below (aA (Below.refl _ _))
 have Ez:=jy.out.drew
 have Lz:Below wq.drew.heap.size wq.drew wq.drew:=Below.refl _ _
 have gQ:Hid (Below w.heap.size w wq.drew):=hid (aA HB0.out)
 clear iZ jy HB0
 refine wp_region_noPanic ?_
 refine bG (S:=(fun w'=>w'.cell? ⟨w.heap.size,1,none⟩=some (.int .i64 ev.au))) (L:=[]) (by kernel_rfl) (Ez.cell 1 rfl) (fun hHeld=>?_)
 refine aF 0 ?_
 refine aF 2 ?_
 refine dL 3 ?_
 refine dO 1 fun K hK=>?_
 go_simp
 refine (lF _ Mz).mono ?_
 rintro e w1 ⟨rfl,hbb⟩
 have M1:=Mz.below hbb
 have E1:=Ez.stays hbb
 have L1:=aj Lz hbb Lz.size
 clear hbb
 refine hK.out _ _ (E1.cell 1 rfl) (fun hHeld=>?_)
 clear hK K
 refine aF 4 ?_
 refine iE ?_
 have bM:=hid M1
 have gW:=hid E1
 have HB1:Hid (Below w.heap.size w w1):=hid (aj gQ.out L1 gQ.out.size)
 clear M1 E1 L1 Mz Ez Lz hHeld gQ
 generalize w1=wr at *
 by_cases ht:M.pos.turn=ev.au
 ·have HD2:Hid (M.eY ev=(M,12)):=hid (by unfold aG.eY; rw [if_pos ht])
  have htb:(M.pos.turn == ev.au)=true:=by simpa using ht
  clear ht
  generalize M.pos.turn=tt at *
  go_wp2_with fail
  go_ret
  exact ⟨by rw [HD2.out]; rfl,S,B,by rw [HD2.out]; exact bM.out,dw.refl _ _,dD.new HB1.out⟩
 have htb:(M.pos.turn == ev.au)=false:=by simpa using ht
 have HT:=hid ht
 clear ht
 have HAE:Hid (jG M.aS ev.au=if (oz M.aS ev.au).length=4 then 9 else 0):=hid (by
  unfold jG; rw [if_neg (by rw [DN HPg.out]; decide),if_neg (by have:=yS.out; omega)])
 go_upto_region 3 with (fail)
 clear htb
 generalize wr=wq at *
 have Mz:aH X S base wq.drew b M B:=bM.out.below (aA (Below.refl _ _))
 have Ez:=gW.out.drew
 have Lz:Below wq.drew.heap.size wq.drew wq.drew:=Below.refl _ _
 have gQ:Hid (Below w.heap.size w wq.drew):=hid (aA HB1.out)
 clear bM gW HB1
 by_cases hf:(oz M.aS ev.au).length=4
 ·have HAd:Hid (jG M.aS ev.au=9):=hid (by rw [HAE.out,if_pos hf])
  have HD2:Hid (M.eY ev=(M,9)):=hid (by unfold aG.eY; rw [if_neg HT.out,if_pos hf])
  clear hf HAE
  refine wp_region_noPanic ?_
  refine bG (S:=(fun w'=>w'.cell? ⟨b,34,none⟩=some B.vr∧w'.cell? ⟨w.heap.size,1,none⟩=some (.int .i64 ev.au)∧w'.cell? ⟨w.heap.size,4,none⟩=some (.int .i64 ev.m.src)∧w'.cell? ⟨w.heap.size,5,none⟩=some (.int .i64 ev.m.dst)∧w'.cell? ⟨w.heap.size,6,none⟩=some (.int .i64 ev.m.piece))) (L:=[]) (by kernel_rfl) (by and_intros <;> first | exact Mz.box.cell _ rfl | exact Ez.cell _ rfl) (fun hHeld=>?_)
  refine aF 0 ?_
  refine aF 5 ?_
  refine aF 7 ?_
  refine aF 1 ?_
  refine dL 6 ?_
  refine dL 8 ?_
  refine aF 2 ?_
  refine aF 3 ?_
  refine dL 4 ?_
  refine dO 9 fun K hK=>?_
  go_simp
  refine (Lm B.vr M.aS ev.au ev.m _ Mz.fr.pr (by have:=HPg.out.len; omega)).mono ?_
  rintro e w9 hp
  rcases hp with ⟨-,rfl,hbb⟩ | ⟨hn,-⟩
  rotate_left
  ·exact absurd hn (by rw [HAd.out]; decide)
  rw [HAd.out]
  have M9:=Mz.below hbb
  have E9:=Ez.stays hbb
  have L9:=aj Lz hbb Lz.size
  clear hbb
  refine hK.out _ _ (by and_intros <;> first | exact M9.box.cell _ rfl | exact E9.cell _ rfl) (fun hHeld=>?_)
  clear hK K
  refine aF 10 ?_
  refine aF 11 ?_
  refine aF 12 ?_
  refine aF 13 ?_
  refine aF 14 ?_
  refine iE ?_
  have bM:=hid M9
  have gW:=hid E9
  have HB1:Hid (Below w.heap.size w w9):=hid (aj gQ.out L9 gQ.out.size)
  clear M9 E9 L9 Mz Ez Lz hHeld gQ
  go_wp2_with fail
  go_ret
  exact ⟨by rw [HD2.out]; rfl,S,B,by rw [HD2.out]; exact bM.out,dw.refl _ _,dD.new HB1.out⟩
 have HAd:Hid (jG M.aS ev.au=0):=hid (by rw [HAE.out,if_neg hf])
 have HD2:Hid (M.eY ev=({ M with aS:=M.aS++[⟨ev.au,ev.m⟩] },0)):=hid (by unfold aG.eY; rw [if_neg HT.out,if_neg hf])
 clear hf HAE
 refine wp_region_noPanic ?_
 refine bG (S:=(fun w'=>w'.cell? ⟨b,34,none⟩=some B.vr∧w'.cell? ⟨w.heap.size,1,none⟩=some (.int .i64 ev.au)∧w'.cell? ⟨w.heap.size,4,none⟩=some (.int .i64 ev.m.src)∧w'.cell? ⟨w.heap.size,5,none⟩=some (.int .i64 ev.m.dst)∧w'.cell? ⟨w.heap.size,6,none⟩=some (.int .i64 ev.m.piece))) (L:=[]) (by kernel_rfl) (by and_intros <;> first | exact Mz.box.cell _ rfl | exact Ez.cell _ rfl) (fun hHeld=>?_)
 refine aF 0 ?_
 refine aF 5 ?_
 refine aF 7 ?_
 refine aF 1 ?_
 refine dL 6 ?_
 refine dL 8 ?_
 refine aF 2 ?_
 refine aF 3 ?_
 refine dL 4 ?_
 refine dO 9 fun K hK=>?_
 go_simp
 refine (Lm B.vr M.aS ev.au ev.m _ Mz.fr.pr (by have:=HPg.out.len; omega)).mono ?_
 rintro e w9 hp
 rcases hp with ⟨hn,-⟩ | ⟨-,v9,rfl,ER,hbb⟩
 ·exact absurd HAd.out hn
 obtain ⟨ra,rc,rfl⟩:=aI ER
 have M9:=Mz.below hbb
 have E9:=Ez.stays hbb
 have L9:=aj Lz hbb Lz.size
 have O9:=ER
 clear hbb
 refine hK.out _ _ (by and_intros <;> first | exact M9.box.cell _ rfl | exact E9.cell _ rfl) (fun hHeld=>?_)
 clear hK K
 refine aF 10 ?_
 refine aF 11 ?_
 refine aF 12 ?_
 refine aF 13 ?_
 refine aF 14 ?_
 refine iE ?_
 have IQ:Hid (w9.ownsRow wq.drew.heap.size 139 4 (.slice ra (M.aS.length+1) rc) (M.aS.length+1) (bW (M.aS++[⟨ev.au,ev.m⟩]))):=hid O9
 have Ux:Hid (∀ k,Value.ownBlock (.slice ra (M.aS.length+1) rc)=some k→¬ (S k∨out1 X b k)):=hid (fun k hk h=>by
  have h1:=(O9.lt k hk).1
  have h2:=Mz.wL k h
  omega)
 clear O9 ER
 have bM:=hid M9
 have gW:=hid E9
 have HB1:Hid (Below w.heap.size w w9):=hid (aj gQ.out L9 gQ.out.size)
 clear M9 E9 L9 Mz Ez Lz hHeld gQ
 have YO:=bM.out.box.cell 34 rfl
 have f34:=bM.out.box.frozen 34
 have HP:=hid (bM.out.put (M':={ M with aS:=M.aS++[⟨ev.au,ev.m⟩] }) (B':={ B with vr:=.slice ra (M.aS.length+1) rc }) 34 [.slice ra (M.aS.length+1) rc] (by simp) rfl rfl rfl rfl (fun w' hw=>⟨(bM.out.rd w' hw).rd,(bM.out.rd w' hw).per,(bM.out.rd w' hw).pc,nI (by rw [List.length_append]; exact gV IQ.out hw Ux.out),(bM.out.rd w' hw).jr⟩))
 go_wp2_with fail
 go_ret
 exact ⟨by rw [HD2.out]; rfl,S,_,by rw [HD2.out]; exact HP.out.1,dw.refl _ _,(dD.new HB1.out).trans HP.out.2 (dw.refl _ _)⟩
theorem Si (o:iW) (k p:Int) (n:Nat) (w:World) (h:kF o) (hp:p=0∨p=1) (hn:n≤400) :
  Calls Tryz.prog 138 #[.agg #[.int .i64 o.b0,.int .i64 o.b1,.int .i64 o.aY,.int .i64 o.aZ,.int .i64 o.l10,.int .i64 o.aX],.int .i64 k,.int .i64 p,.int .i64 n] w fun e w'=>∃ ro:iW,(dH o k p n=0→ro=qO o k p n)∧e=.returned (.tuple #[.agg #[.int .i64 ro.b0,.int .i64 ro.b1,.int .i64 ro.aY,.int .i64 ro.aZ,.int .i64 ro.l10,.int .i64 ro.aX],.int .i64 (dH o k p n)])∧Below w.heap.size w w':=
 (V3 o k p n w h hp hn).mono fun e w' h=>⟨_,fun hz=>if_pos hz,h.1,h.2⟩
theorem Ku (o:iW) (k p:Int) (n:Nat) (w:World) (h:kF o) (hp:p=0∨p=1) (hn:n≤400) :
  Calls Tryz.prog 139 #[.agg #[.int .i64 o.b0,.int .i64 o.b1,.int .i64 o.aY,.int .i64 o.aZ,.int .i64 o.l10,.int .i64 o.aX],.int .i64 k,.int .i64 p,.int .i64 n] w fun e w'=>∃ ro:iW,(bU o k p n=0→ro=iM o k)∧e=.returned (.tuple #[.agg #[.int .i64 ro.b0,.int .i64 ro.b1,.int .i64 ro.aY,.int .i64 ro.aZ,.int .i64 ro.l10,.int .i64 ro.aX],.int .i64 (bU o k p n)])∧Below w.heap.size w w':=
 (LH false o k p n w h hp hn).mono fun e w' h=>⟨_,fun hz=>if_pos hz,h.1,h.2⟩
theorem Kv (o:iW) (k p:Int) (n:Nat) (w:World) (h:kF o) (hp:p=0∨p=1) (hn:n≤400) :
  Calls Tryz.prog 140 #[.agg #[.int .i64 o.b0,.int .i64 o.b1,.int .i64 o.aY,.int .i64 o.aZ,.int .i64 o.l10,.int .i64 o.aX],.int .i64 k,.int .i64 p,.int .i64 n] w fun e w'=>∃ ro:iW,(bU o k p n=0→ro=kE o)∧e=.returned (.tuple #[.agg #[.int .i64 ro.b0,.int .i64 ro.b1,.int .i64 ro.aY,.int .i64 ro.aZ,.int .i64 ro.l10,.int .i64 ro.aX],.int .i64 (bU o k p n)])∧Below w.heap.size w w':=
 (LH true o k p n w h hp hn).mono fun e w' h=>⟨_,fun hz=>if_pos hz,h.1,h.2⟩
theorem yT (HS:SortMvSaid) (ev:iY) (w:World) (h:aH X S base w b M B) (hb:base≤w.heap.size) (hog:kF M.off) (hpl:ev.au=0∨ev.au=1):Calls Tryz.prog 97 #[.pointer (some ⟨b,0,none⟩),.agg #[.int .i64 ev.kind,.int .i64 ev.au,.int .i64 ev.n,.int .i64 ev.now,.int .i64 ev.m.src,.int .i64 ev.m.dst,.int .i64 ev.m.piece]] w fun e w'=>e=.returned (.int .i64 (M.dW ev).2)∧wM X S base b w (M.dW ev).1 w':=by
 have Sj:=hid hog
 have yS:=hid hpl
 have IY:Hid (M.ms.length≤400):=hid (by obtain ⟨up,us,ue,vl,vm,rows,hg⟩:=h.game; exact hg.lt)
 clear hog hpl
 have lY:=hid HS
 have HM:=hid h
 have qg:=hid hb
 have LJ:Hid (¬ S w.heap.size):=hid (fun hk=>by obtain ⟨up,us,ue,vl,vm,rows,hg⟩:=h.game; have:=(hg.lo _ hk).2; omega)
 have EP:Hid (b<w.heap.size):=hid h.box.lt
 clear h hb HS
 go_enter Tryz.func97,Tryz.ntmps97
 go_upto_region 1 with (fail)
 refine lM fun w0 jU dM hs_=>?_
 have jy:=hid jU
 have HB0:=hid dM
 clear hs_ jU dM
 have iZ:=hid (HM.out.below HB0.out)
 have e0:=jy.out.cell 0 rfl
 by_cases hk:ev.kind=3
 ·have ES:Hid (M.dW ev=if bU M.off ev.n ev.au M.ms.length≠0 then (M,bU M.off ev.n ev.au M.ms.length) else ({ M with off:=iM M.off ev.n },0)):=hid (by unfold aG.dW; rw [if_pos hk])
  have hkb:(ev.kind == 3)=true:=by simpa using hk
  clear hk
  go_upto_region 4 with (fail)
  clear e0 hkb
  generalize w0=wq at *
  have Mz:aH X S base wq.drew b M B:=iZ.out.below (aA (Below.refl _ _))
  have Ez:=jy.out.drew
  have Lz:Below wq.drew.heap.size wq.drew wq.drew:=Below.refl _ _
  have gQ:Hid (Below w.heap.size w wq.drew):=hid (aA HB0.out)
  clear iZ jy HB0
  refine wp_region_noPanic ?_
  refine bG (S:=(fun w'=>w'.cell? ⟨b,28,none⟩=some (.int .i64 M.off.b0)∧w'.cell? ⟨b,29,none⟩=some (.int .i64 M.off.b1)∧w'.cell? ⟨b,30,none⟩=some (.int .i64 M.off.aY)∧w'.cell? ⟨b,31,none⟩=some (.int .i64 M.off.aZ)∧w'.cell? ⟨b,32,none⟩=some (.int .i64 M.off.l10)∧w'.cell? ⟨b,33,none⟩=some (.int .i64 M.off.aX)∧w'.cell? ⟨w.heap.size,2,none⟩=some (.int .i64 ev.n)∧w'.cell? ⟨w.heap.size,1,none⟩=some (.int .i64 ev.au))) (L:=[]) (by kernel_rfl) (by and_intros <;> first | exact Mz.box.cell _ rfl | exact Ez.cell _ rfl) (fun hHeld=>?_)
  refine aF 0 ?_
  refine aF 1 ?_
  refine aF 6 ?_
  refine aF 8 ?_
  refine aF 10 ?_
  refine aF 2 ?_
  refine dL 7 ?_
  refine dL 9 ?_
  refine aF 3 ?_
  refine aF 4 ?_
  refine dL 5 ?_
  refine IL (rs:=[11,16]) ?_
  refine (aO.cons (by first | (simp only [List.getElem?_toArray,List.getElem?_cons_zero,List.getElem?_cons_succ] <;> rfl) | rfl) (fun K hK=>?_) (aO.cons (by first | (simp only [List.getElem?_toArray,List.getElem?_cons_zero,List.getElem?_cons_succ] <;> rfl) | rfl) (fun K hK=>?_) aO.nil))
  ·skip
   go_simp
   refine (kW _ Mz).mono ?_
   rintro e ku ⟨rfl,hbb⟩
   have M11:=Mz.below hbb
   have nS:=Ez.stays hbb
   have jR:=aj Lz hbb Lz.size
   clear hbb
   refine hK.out _ _ (by and_intros <;> first | exact M11.box.cell _ rfl | exact nS.cell _ rfl) (fun hHeld=>?_)
   clear hK K
   refine IL (rs:=[12,16]) ?_
   refine (aO.cons (by first | (simp only [List.getElem?_toArray,List.getElem?_cons_zero,List.getElem?_cons_succ] <;> rfl) | rfl) (fun K hK=>?_) (aO.cons (by first | (simp only [List.getElem?_toArray,List.getElem?_cons_zero,List.getElem?_cons_succ] <;> rfl) | rfl) (fun K hK=>?_) aO.nil))
   ·skip
    go_simp
    refine (Ku M.off ev.n ev.au M.ms.length _ Sj.out yS.out IY.out).mono ?_
    rintro e w12 ⟨ro,hro,rfl,hbb⟩
    have M12:=M11.below hbb
    have uN:=nS.stays hbb
    have lQ:=aj jR hbb jR.size
    clear hbb
    refine hK.out _ _ (by and_intros <;> first | exact M12.box.cell _ rfl | exact uN.cell _ rfl) (fun hHeld=>?_)
    clear hK K
    refine aF 13 ?_
    refine aF 14 ?_
    refine aF 15 ?_
    refine dO 16 fun K hK=>?_
    go_simp
    refine aK ?_
    intro w16 e16
    have hbb:Below w12.heap.size w12 w16:=by rw [e16]; exact (Below.refl _ _).alloc (Nat.le_refl _) _
    have qj:Box w16 (w12.heap.size) [.int .i64 0,.int .i64 0,.int .i64 0,.int .i64 0,.int .i64 0,.int .i64 0] 70:=by rw [e16]; exact Box.new' _ _ _ _ rfl
    have lT:=M12.below hbb
    have mO:=uN.stays hbb
    have kH:=aj lQ hbb lQ.size
    clear hbb e16
    refine hK.out _ _ (by and_intros <;> first | exact lT.box.cell _ rfl | exact mO.cell _ rfl) (fun hHeld=>?_)
    clear hK K
    refine dO 17 fun K hK=>?_
    rw [if_pos (by rfl)]
    refine wp_store_mid 70 (.tmp 6) (.tmp 25) (by rfl) (w12.heap.size) 0 #[.int .i64 ro.b0,.int .i64 ro.b1,.int .i64 ro.aY,.int .i64 ro.aZ,.int .i64 ro.l10,.int .i64 ro.aX] (by rfl) (by rfl) (qj.has 0 6 (by simp)) (by kernel_rfl) (by simp [Value.oneCell']) ?_
    refine aK ?_
    intro qI e17
    have Io:Box qI (w12.heap.size) [.int .i64 ro.b0,.int .i64 ro.b1,.int .i64 ro.aY,.int .i64 ro.aZ,.int .i64 ro.l10,.int .i64 ro.aX] 70:=by rw [e17]; exact qj.store rfl
    have hbn:wq.heap.size≤w12.heap.size:=lQ.size
    have wR:Below wq.drew.heap.size wq.drew qI:=by rw [e17]; exact below_setCells kH hbn 0 _
    have wI:=Mz.below wR
    have xX:=Ez.stays wR
    clear e17 hbn
    refine hK.out _ _ (by and_intros <;> first | exact wI.box.cell _ rfl | exact xX.cell _ rfl) (fun hHeld=>?_)
    clear hK K
    refine aF 18 ?_
    refine iE ?_
    have bM:=hid wI
    have HB1:Hid (Below w.heap.size w qI):=hid (aj gQ.out wR gQ.out.size)
    have dn:=hid Io
    have uQ:Hid (w12.heap.size≠b):=hid (fun e=>by have h1:=Mz.box.lt; have h2:wq.heap.size≤w12.heap.size:=lQ.size; have h3:b<wq.heap.size:=h1; omega)
    have qW:=hid hro
    clear hro M11 nS jR M12 uN lQ lT mO kH wI xX wR Mz Ez Lz hHeld gQ qj Io
    generalize qI=w5 at *
    generalize w12.heap.size=bx at *
    by_cases hz:bU M.off ev.n ev.au M.ms.length=0
    ·skip
     have HZ:=hid hz
     have wS:Hid (ro=iM M.off ev.n):=hid (qW.out hz)
     have HD2:Hid (M.dW ev=({ M with off:=iM M.off ev.n },0)):=hid (by rw [ES.out,if_neg (fun h=>h hz)])
     rw [hz]
     clear hz
     have x0:=dn.out.cell 0 rfl
     have x1:=dn.out.cell 1 rfl
     have x2:=dn.out.cell 2 rfl
     have x3:=dn.out.cell 3 rfl
     have x4:=dn.out.cell 4 rfl
     have x5:=dn.out.cell 5 rfl
     have YP:=bM.out.box.cell 28 rfl
     have f28:=bM.out.box.frozen 28
     have YQ:=bM.out.box.cell 29 rfl
     have f29:=bM.out.box.frozen 29
     have YR:=bM.out.box.cell 30 rfl
     have f30:=bM.out.box.frozen 30
     have YS:=bM.out.box.cell 31 rfl
     have f31:=bM.out.box.frozen 31
     have YT:=bM.out.box.cell 32 rfl
     have f32:=bM.out.box.frozen 32
     have YU:=bM.out.box.cell 33 rfl
     have f33:=bM.out.box.frozen 33
     have HP:=hid (bM.out.put (M':={ M with off:=ro }) (B':=B) 28 [.int .i64 ro.b0,.int .i64 ro.b1,.int .i64 ro.aY,.int .i64 ro.aZ,.int .i64 ro.l10,.int .i64 ro.aX] (by simp) rfl rfl rfl rfl (bM.out.rd.imp (fun _ h=>⟨h.rd,h.per,h.pc,h.pr,h.jr⟩)))
     clear qW
     go_wp2_with fail
     go_ret
     exact ⟨by rw [HD2.out]; rfl,S,B,by rw [HD2.out,← wS.out]; exact HP.out.1,dw.refl _ _,(dD.new HB1.out).trans HP.out.2 (dw.refl _ _)⟩
    ·skip
     have HD2:Hid (M.dW ev=(M,bU M.off ev.n ev.au M.ms.length)):=hid (by rw [ES.out,if_pos hz])
     have hzb:(bU M.off ev.n ev.au M.ms.length == 0)=false:=by simpa using hz
     clear hz qW ES
     generalize bU M.off ev.n ev.au M.ms.length=er at *
     go_wp2_with fail
     go_ret
     exact ⟨by rw [HD2.out]; rfl,S,B,by rw [HD2.out]; exact bM.out,dw.refl _ _,dD.new HB1.out⟩
   ·skip
    go_simp
    refine aK ?_
    intro w16 e16
    have hbb:Below ku.heap.size ku w16:=by rw [e16]; exact (Below.refl _ _).alloc (Nat.le_refl _) _
    have qj:Box w16 (ku.heap.size) [.int .i64 0,.int .i64 0,.int .i64 0,.int .i64 0,.int .i64 0,.int .i64 0] 70:=by rw [e16]; exact Box.new' _ _ _ _ rfl
    have lT:=M11.below hbb
    have mO:=nS.stays hbb
    have kH:=aj jR hbb jR.size
    clear hbb e16
    refine hK.out _ _ (by and_intros <;> first | exact lT.box.cell _ rfl | exact mO.cell _ rfl) (fun hHeld=>?_)
    clear hK K
    refine dO 12 fun K hK=>?_
    go_simp
    refine (Ku M.off ev.n ev.au M.ms.length _ Sj.out yS.out IY.out).mono ?_
    rintro e w12 ⟨ro,hro,rfl,hbb⟩
    have M12:=lT.below hbb
    have uN:=mO.stays hbb
    have lQ:=aj kH hbb kH.size
    have CZ:=qj.stays hbb
    clear hbb
    refine hK.out _ _ (by and_intros <;> first | exact M12.box.cell _ rfl | exact uN.cell _ rfl) (fun hHeld=>?_)
    clear hK K
    refine aF 13 ?_
    refine aF 14 ?_
    refine aF 15 ?_
    refine dO 17 fun K hK=>?_
    rw [if_pos (by rfl)]
    refine wp_store_mid 70 (.tmp 6) (.tmp 25) (by rfl) (ku.heap.size) 0 #[.int .i64 ro.b0,.int .i64 ro.b1,.int .i64 ro.aY,.int .i64 ro.aZ,.int .i64 ro.l10,.int .i64 ro.aX] (by rfl) (by rfl) (CZ.has 0 6 (by simp)) (by kernel_rfl) (by simp [Value.oneCell']) ?_
    refine aK ?_
    intro qI e17
    have Io:Box qI (ku.heap.size) [.int .i64 ro.b0,.int .i64 ro.b1,.int .i64 ro.aY,.int .i64 ro.aZ,.int .i64 ro.l10,.int .i64 ro.aX] 70:=by rw [e17]; exact CZ.store rfl
    have hbn:wq.heap.size≤ku.heap.size:=jR.size
    have wR:Below wq.drew.heap.size wq.drew qI:=by rw [e17]; exact below_setCells lQ hbn 0 _
    have wI:=Mz.below wR
    have xX:=Ez.stays wR
    clear e17 hbn
    refine hK.out _ _ (by and_intros <;> first | exact wI.box.cell _ rfl | exact xX.cell _ rfl) (fun hHeld=>?_)
    clear hK K
    refine aF 18 ?_
    refine iE ?_
    have bM:=hid wI
    have HB1:Hid (Below w.heap.size w qI):=hid (aj gQ.out wR gQ.out.size)
    have dn:=hid Io
    have uQ:Hid (ku.heap.size≠b):=hid (fun e=>by have h1:=Mz.box.lt; have h2:wq.heap.size≤ku.heap.size:=jR.size; have h3:b<wq.heap.size:=h1; omega)
    have qW:=hid hro
    clear hro M11 nS jR M12 uN lQ lT mO kH wI xX wR Mz Ez Lz hHeld gQ qj CZ Io
    generalize qI=w5 at *
    generalize ku.heap.size=bx at *
    by_cases hz:bU M.off ev.n ev.au M.ms.length=0
    ·skip
     have HZ:=hid hz
     have wS:Hid (ro=iM M.off ev.n):=hid (qW.out hz)
     have HD2:Hid (M.dW ev=({ M with off:=iM M.off ev.n },0)):=hid (by rw [ES.out,if_neg (fun h=>h hz)])
     rw [hz]
     clear hz
     have x0:=dn.out.cell 0 rfl
     have x1:=dn.out.cell 1 rfl
     have x2:=dn.out.cell 2 rfl
     have x3:=dn.out.cell 3 rfl
     have x4:=dn.out.cell 4 rfl
     have x5:=dn.out.cell 5 rfl
     have YP:=bM.out.box.cell 28 rfl
     have f28:=bM.out.box.frozen 28
     have YQ:=bM.out.box.cell 29 rfl
     have f29:=bM.out.box.frozen 29
     have YR:=bM.out.box.cell 30 rfl
     have f30:=bM.out.box.frozen 30
     have YS:=bM.out.box.cell 31 rfl
     have f31:=bM.out.box.frozen 31
     have YT:=bM.out.box.cell 32 rfl
     have f32:=bM.out.box.frozen 32
     have YU:=bM.out.box.cell 33 rfl
     have f33:=bM.out.box.frozen 33
     have HP:=hid (bM.out.put (M':={ M with off:=ro }) (B':=B) 28 [.int .i64 ro.b0,.int .i64 ro.b1,.int .i64 ro.aY,.int .i64 ro.aZ,.int .i64 ro.l10,.int .i64 ro.aX] (by simp) rfl rfl rfl rfl (bM.out.rd.imp (fun _ h=>⟨h.rd,h.per,h.pc,h.pr,h.jr⟩)))
     clear qW
     go_wp2_with fail
     go_ret
     exact ⟨by rw [HD2.out]; rfl,S,B,by rw [HD2.out,← wS.out]; exact HP.out.1,dw.refl _ _,(dD.new HB1.out).trans HP.out.2 (dw.refl _ _)⟩
    ·skip
     have HD2:Hid (M.dW ev=(M,bU M.off ev.n ev.au M.ms.length)):=hid (by rw [ES.out,if_pos hz])
     have hzb:(bU M.off ev.n ev.au M.ms.length == 0)=false:=by simpa using hz
     clear hz qW ES
     generalize bU M.off ev.n ev.au M.ms.length=er at *
     go_wp2_with fail
     go_ret
     exact ⟨by rw [HD2.out]; rfl,S,B,by rw [HD2.out]; exact bM.out,dw.refl _ _,dD.new HB1.out⟩
  ·skip
   go_simp
   refine aK ?_
   intro w16 e16
   have hbb:Below wq.drew.heap.size wq.drew w16:=by rw [e16]; exact (Below.refl _ _).alloc (Nat.le_refl _) _
   have qj:Box w16 (wq.heap.size) [.int .i64 0,.int .i64 0,.int .i64 0,.int .i64 0,.int .i64 0,.int .i64 0] 70:=by rw [e16]; exact Box.new' _ _ _ _ rfl
   have lT:=Mz.below hbb
   have mO:=Ez.stays hbb
   have kH:=aj Lz hbb Lz.size
   clear hbb e16
   refine hK.out _ _ (by and_intros <;> first | exact lT.box.cell _ rfl | exact mO.cell _ rfl) (fun hHeld=>?_)
   clear hK K
   refine dO 11 fun K hK=>?_
   go_simp
   refine (kW _ lT).mono ?_
   rintro e ku ⟨rfl,hbb⟩
   have M11:=lT.below hbb
   have nS:=mO.stays hbb
   have jR:=aj kH hbb kH.size
   have C9:=qj.stays hbb
   clear hbb
   refine hK.out _ _ (by and_intros <;> first | exact M11.box.cell _ rfl | exact nS.cell _ rfl) (fun hHeld=>?_)
   clear hK K
   refine dO 12 fun K hK=>?_
   go_simp
   refine (Ku M.off ev.n ev.au M.ms.length _ Sj.out yS.out IY.out).mono ?_
   rintro e w12 ⟨ro,hro,rfl,hbb⟩
   have M12:=M11.below hbb
   have uN:=nS.stays hbb
   have lQ:=aj jR hbb jR.size
   have CZ:=C9.stays hbb
   clear hbb
   refine hK.out _ _ (by and_intros <;> first | exact M12.box.cell _ rfl | exact uN.cell _ rfl) (fun hHeld=>?_)
   clear hK K
   refine aF 13 ?_
   refine aF 14 ?_
   refine aF 15 ?_
   refine dO 17 fun K hK=>?_
   rw [if_pos (by rfl)]
   refine wp_store_mid 70 (.tmp 6) (.tmp 25) (by rfl) (wq.heap.size) 0 #[.int .i64 ro.b0,.int .i64 ro.b1,.int .i64 ro.aY,.int .i64 ro.aZ,.int .i64 ro.l10,.int .i64 ro.aX] (by rfl) (by rfl) (CZ.has 0 6 (by simp)) (by kernel_rfl) (by simp [Value.oneCell']) ?_
   refine aK ?_
   intro qI e17
   have Io:Box qI (wq.heap.size) [.int .i64 ro.b0,.int .i64 ro.b1,.int .i64 ro.aY,.int .i64 ro.aZ,.int .i64 ro.l10,.int .i64 ro.aX] 70:=by rw [e17]; exact CZ.store rfl
   have hbn:wq.heap.size≤wq.heap.size:=Nat.le_refl _
   have wR:Below wq.drew.heap.size wq.drew qI:=by rw [e17]; exact below_setCells lQ hbn 0 _
   have wI:=Mz.below wR
   have xX:=Ez.stays wR
   clear e17 hbn
   refine hK.out _ _ (by and_intros <;> first | exact wI.box.cell _ rfl | exact xX.cell _ rfl) (fun hHeld=>?_)
   clear hK K
   refine aF 18 ?_
   refine iE ?_
   have bM:=hid wI
   have HB1:Hid (Below w.heap.size w qI):=hid (aj gQ.out wR gQ.out.size)
   have dn:=hid Io
   have uQ:Hid (wq.heap.size≠b):=hid (fun e=>by have h1:=Mz.box.lt; have h2:wq.heap.size≤wq.heap.size:=Nat.le_refl _; have h3:b<wq.heap.size:=h1; omega)
   have qW:=hid hro
   clear hro M11 nS jR M12 uN lQ lT mO kH wI xX wR Mz Ez Lz hHeld gQ qj C9 CZ Io
   generalize qI=w5 at *
   obtain ⟨bx,hbx⟩:∃ bx,bx=wq.heap.size:=⟨_,rfl⟩
   rw [← hbx] at dn uQ ⊢
   clear hbx
   by_cases hz:bU M.off ev.n ev.au M.ms.length=0
   ·skip
    have HZ:=hid hz
    have wS:Hid (ro=iM M.off ev.n):=hid (qW.out hz)
    have HD2:Hid (M.dW ev=({ M with off:=iM M.off ev.n },0)):=hid (by rw [ES.out,if_neg (fun h=>h hz)])
    rw [hz]
    clear hz
    have x0:=dn.out.cell 0 rfl
    have x1:=dn.out.cell 1 rfl
    have x2:=dn.out.cell 2 rfl
    have x3:=dn.out.cell 3 rfl
    have x4:=dn.out.cell 4 rfl
    have x5:=dn.out.cell 5 rfl
    have YP:=bM.out.box.cell 28 rfl
    have f28:=bM.out.box.frozen 28
    have YQ:=bM.out.box.cell 29 rfl
    have f29:=bM.out.box.frozen 29
    have YR:=bM.out.box.cell 30 rfl
    have f30:=bM.out.box.frozen 30
    have YS:=bM.out.box.cell 31 rfl
    have f31:=bM.out.box.frozen 31
    have YT:=bM.out.box.cell 32 rfl
    have f32:=bM.out.box.frozen 32
    have YU:=bM.out.box.cell 33 rfl
    have f33:=bM.out.box.frozen 33
    have HP:=hid (bM.out.put (M':={ M with off:=ro }) (B':=B) 28 [.int .i64 ro.b0,.int .i64 ro.b1,.int .i64 ro.aY,.int .i64 ro.aZ,.int .i64 ro.l10,.int .i64 ro.aX] (by simp) rfl rfl rfl rfl (bM.out.rd.imp (fun _ h=>⟨h.rd,h.per,h.pc,h.pr,h.jr⟩)))
    clear qW
    go_wp2_with fail
    go_ret
    exact ⟨by rw [HD2.out]; rfl,S,B,by rw [HD2.out,← wS.out]; exact HP.out.1,dw.refl _ _,(dD.new HB1.out).trans HP.out.2 (dw.refl _ _)⟩
   ·skip
    have HD2:Hid (M.dW ev=(M,bU M.off ev.n ev.au M.ms.length)):=hid (by rw [ES.out,if_pos hz])
    have hzb:(bU M.off ev.n ev.au M.ms.length == 0)=false:=by simpa using hz
    clear hz qW ES
    generalize bU M.off ev.n ev.au M.ms.length=er at *
    go_wp2_with fail
    go_ret
    exact ⟨by rw [HD2.out]; rfl,S,B,by rw [HD2.out]; exact bM.out,dw.refl _ _,dD.new HB1.out⟩
 ·have ES:Hid (M.dW ev=if dH M.off ev.n ev.au M.ms.length≠0 then (M,dH M.off ev.n ev.au M.ms.length) else ({ M with off:=qO M.off ev.n ev.au M.ms.length },0)):=hid (by unfold aG.dW; rw [if_neg hk])
  have hkb:(ev.kind == 3)=false:=by simpa using hk
  clear hk
  go_upto_region 4 with (fail)
  clear e0 hkb
  generalize w0=wq at *
  have Mz:aH X S base wq.drew b M B:=iZ.out.below (aA (Below.refl _ _))
  have Ez:=jy.out.drew
  have Lz:Below wq.drew.heap.size wq.drew wq.drew:=Below.refl _ _
  have gQ:Hid (Below w.heap.size w wq.drew):=hid (aA HB0.out)
  clear iZ jy HB0
  refine wp_region_noPanic ?_
  refine bG (S:=(fun w'=>w'.cell? ⟨b,28,none⟩=some (.int .i64 M.off.b0)∧w'.cell? ⟨b,29,none⟩=some (.int .i64 M.off.b1)∧w'.cell? ⟨b,30,none⟩=some (.int .i64 M.off.aY)∧w'.cell? ⟨b,31,none⟩=some (.int .i64 M.off.aZ)∧w'.cell? ⟨b,32,none⟩=some (.int .i64 M.off.l10)∧w'.cell? ⟨b,33,none⟩=some (.int .i64 M.off.aX)∧w'.cell? ⟨w.heap.size,2,none⟩=some (.int .i64 ev.n)∧w'.cell? ⟨w.heap.size,1,none⟩=some (.int .i64 ev.au))) (L:=[]) (by kernel_rfl) (by and_intros <;> first | exact Mz.box.cell _ rfl | exact Ez.cell _ rfl) (fun hHeld=>?_)
  refine aF 0 ?_
  refine aF 1 ?_
  refine aF 6 ?_
  refine aF 8 ?_
  refine aF 10 ?_
  refine aF 2 ?_
  refine dL 7 ?_
  refine dL 9 ?_
  refine aF 3 ?_
  refine aF 4 ?_
  refine dL 5 ?_
  refine IL (rs:=[11,16]) ?_
  refine (aO.cons (by first | (simp only [List.getElem?_toArray,List.getElem?_cons_zero,List.getElem?_cons_succ] <;> rfl) | rfl) (fun K hK=>?_) (aO.cons (by first | (simp only [List.getElem?_toArray,List.getElem?_cons_zero,List.getElem?_cons_succ] <;> rfl) | rfl) (fun K hK=>?_) aO.nil))
  ·skip
   go_simp
   refine (kW _ Mz).mono ?_
   rintro e ku ⟨rfl,hbb⟩
   have M11:=Mz.below hbb
   have nS:=Ez.stays hbb
   have jR:=aj Lz hbb Lz.size
   clear hbb
   refine hK.out _ _ (by and_intros <;> first | exact M11.box.cell _ rfl | exact nS.cell _ rfl) (fun hHeld=>?_)
   clear hK K
   refine IL (rs:=[12,16]) ?_
   refine (aO.cons (by first | (simp only [List.getElem?_toArray,List.getElem?_cons_zero,List.getElem?_cons_succ] <;> rfl) | rfl) (fun K hK=>?_) (aO.cons (by first | (simp only [List.getElem?_toArray,List.getElem?_cons_zero,List.getElem?_cons_succ] <;> rfl) | rfl) (fun K hK=>?_) aO.nil))
   ·skip
    go_simp
    refine (Si M.off ev.n ev.au M.ms.length _ Sj.out yS.out IY.out).mono ?_
    rintro e w12 ⟨ro,hro,rfl,hbb⟩
    have M12:=M11.below hbb
    have uN:=nS.stays hbb
    have lQ:=aj jR hbb jR.size
    clear hbb
    refine hK.out _ _ (by and_intros <;> first | exact M12.box.cell _ rfl | exact uN.cell _ rfl) (fun hHeld=>?_)
    clear hK K
    refine aF 13 ?_
    refine aF 14 ?_
    refine aF 15 ?_
    refine dO 16 fun K hK=>?_
    go_simp
    refine aK ?_
    intro w16 e16
    have hbb:Below w12.heap.size w12 w16:=by rw [e16]; exact (Below.refl _ _).alloc (Nat.le_refl _) _
    have qj:Box w16 (w12.heap.size) [.int .i64 0,.int .i64 0,.int .i64 0,.int .i64 0,.int .i64 0,.int .i64 0] 70:=by rw [e16]; exact Box.new' _ _ _ _ rfl
    have lT:=M12.below hbb
    have mO:=uN.stays hbb
    have kH:=aj lQ hbb lQ.size
    clear hbb e16
    refine hK.out _ _ (by and_intros <;> first | exact lT.box.cell _ rfl | exact mO.cell _ rfl) (fun hHeld=>?_)
    clear hK K
    refine dO 17 fun K hK=>?_
    rw [if_pos (by rfl)]
    refine wp_store_mid 70 (.tmp 6) (.tmp 25) (by rfl) (w12.heap.size) 0 #[.int .i64 ro.b0,.int .i64 ro.b1,.int .i64 ro.aY,.int .i64 ro.aZ,.int .i64 ro.l10,.int .i64 ro.aX] (by rfl) (by rfl) (qj.has 0 6 (by simp)) (by kernel_rfl) (by simp [Value.oneCell']) ?_
    refine aK ?_
    intro qI e17
    have Io:Box qI (w12.heap.size) [.int .i64 ro.b0,.int .i64 ro.b1,.int .i64 ro.aY,.int .i64 ro.aZ,.int .i64 ro.l10,.int .i64 ro.aX] 70:=by rw [e17]; exact qj.store rfl
    have hbn:wq.heap.size≤w12.heap.size:=lQ.size
    have wR:Below wq.drew.heap.size wq.drew qI:=by rw [e17]; exact below_setCells kH hbn 0 _
    have wI:=Mz.below wR
    have xX:=Ez.stays wR
    clear e17 hbn
    refine hK.out _ _ (by and_intros <;> first | exact wI.box.cell _ rfl | exact xX.cell _ rfl) (fun hHeld=>?_)
    clear hK K
    refine aF 18 ?_
    refine iE ?_
    have bM:=hid wI
    have HB1:Hid (Below w.heap.size w qI):=hid (aj gQ.out wR gQ.out.size)
    have dn:=hid Io
    have uQ:Hid (w12.heap.size≠b):=hid (fun e=>by have h1:=Mz.box.lt; have h2:wq.heap.size≤w12.heap.size:=lQ.size; have h3:b<wq.heap.size:=h1; omega)
    have qW:=hid hro
    clear hro M11 nS jR M12 uN lQ lT mO kH wI xX wR Mz Ez Lz hHeld gQ qj Io
    generalize qI=w5 at *
    generalize w12.heap.size=bx at *
    by_cases hz:dH M.off ev.n ev.au M.ms.length=0
    ·skip
     have HZ:=hid hz
     have wS:Hid (ro=qO M.off ev.n ev.au M.ms.length):=hid (qW.out hz)
     have HD2:Hid (M.dW ev=({ M with off:=qO M.off ev.n ev.au M.ms.length },0)):=hid (by rw [ES.out,if_neg (fun h=>h hz)])
     rw [hz]
     clear hz
     have x0:=dn.out.cell 0 rfl
     have x1:=dn.out.cell 1 rfl
     have x2:=dn.out.cell 2 rfl
     have x3:=dn.out.cell 3 rfl
     have x4:=dn.out.cell 4 rfl
     have x5:=dn.out.cell 5 rfl
     have YP:=bM.out.box.cell 28 rfl
     have f28:=bM.out.box.frozen 28
     have YQ:=bM.out.box.cell 29 rfl
     have f29:=bM.out.box.frozen 29
     have YR:=bM.out.box.cell 30 rfl
     have f30:=bM.out.box.frozen 30
     have YS:=bM.out.box.cell 31 rfl
     have f31:=bM.out.box.frozen 31
     have YT:=bM.out.box.cell 32 rfl
     have f32:=bM.out.box.frozen 32
     have YU:=bM.out.box.cell 33 rfl
     have f33:=bM.out.box.frozen 33
     have HP:=hid (bM.out.put (M':={ M with off:=ro }) (B':=B) 28 [.int .i64 ro.b0,.int .i64 ro.b1,.int .i64 ro.aY,.int .i64 ro.aZ,.int .i64 ro.l10,.int .i64 ro.aX] (by simp) rfl rfl rfl rfl (bM.out.rd.imp (fun _ h=>⟨h.rd,h.per,h.pc,h.pr,h.jr⟩)))
     clear qW
     go_wp2_with fail
     go_ret
     exact ⟨by rw [HD2.out]; rfl,S,B,by rw [HD2.out,← wS.out]; exact HP.out.1,dw.refl _ _,(dD.new HB1.out).trans HP.out.2 (dw.refl _ _)⟩
    ·skip
     have HD2:Hid (M.dW ev=(M,dH M.off ev.n ev.au M.ms.length)):=hid (by rw [ES.out,if_pos hz])
     have hzb:(dH M.off ev.n ev.au M.ms.length == 0)=false:=by simpa using hz
     clear hz qW ES
     generalize dH M.off ev.n ev.au M.ms.length=er at *
     go_wp2_with fail
     go_ret
     exact ⟨by rw [HD2.out]; rfl,S,B,by rw [HD2.out]; exact bM.out,dw.refl _ _,dD.new HB1.out⟩
   ·skip
    go_simp
    refine aK ?_
    intro w16 e16
    have hbb:Below ku.heap.size ku w16:=by rw [e16]; exact (Below.refl _ _).alloc (Nat.le_refl _) _
    have qj:Box w16 (ku.heap.size) [.int .i64 0,.int .i64 0,.int .i64 0,.int .i64 0,.int .i64 0,.int .i64 0] 70:=by rw [e16]; exact Box.new' _ _ _ _ rfl
    have lT:=M11.below hbb
    have mO:=nS.stays hbb
    have kH:=aj jR hbb jR.size
    clear hbb e16
    refine hK.out _ _ (by and_intros <;> first | exact lT.box.cell _ rfl | exact mO.cell _ rfl) (fun hHeld=>?_)
    clear hK K
    refine dO 12 fun K hK=>?_
    go_simp
    refine (Si M.off ev.n ev.au M.ms.length _ Sj.out yS.out IY.out).mono ?_
    rintro e w12 ⟨ro,hro,rfl,hbb⟩
    have M12:=lT.below hbb
    have uN:=mO.stays hbb
    have lQ:=aj kH hbb kH.size
    have CZ:=qj.stays hbb
    clear hbb
    refine hK.out _ _ (by and_intros <;> first | exact M12.box.cell _ rfl | exact uN.cell _ rfl) (fun hHeld=>?_)
    clear hK K
    refine aF 13 ?_
    refine aF 14 ?_
    refine aF 15 ?_
    refine dO 17 fun K hK=>?_
    rw [if_pos (by rfl)]
    refine wp_store_mid 70 (.tmp 6) (.tmp 25) (by rfl) (ku.heap.size) 0 #[.int .i64 ro.b0,.int .i64 ro.b1,.int .i64 ro.aY,.int .i64 ro.aZ,.int .i64 ro.l10,.int .i64 ro.aX] (by rfl) (by rfl) (CZ.has 0 6 (by simp)) (by kernel_rfl) (by simp [Value.oneCell']) ?_
    refine aK ?_
    intro qI e17
    have Io:Box qI (ku.heap.size) [.int .i64 ro.b0,.int .i64 ro.b1,.int .i64 ro.aY,.int .i64 ro.aZ,.int .i64 ro.l10,.int .i64 ro.aX] 70:=by rw [e17]; exact CZ.store rfl
    have hbn:wq.heap.size≤ku.heap.size:=jR.size
    have wR:Below wq.drew.heap.size wq.drew qI:=by rw [e17]; exact below_setCells lQ hbn 0 _
    have wI:=Mz.below wR
    have xX:=Ez.stays wR
    clear e17 hbn
    refine hK.out _ _ (by and_intros <;> first | exact wI.box.cell _ rfl | exact xX.cell _ rfl) (fun hHeld=>?_)
    clear hK K
    refine aF 18 ?_
    refine iE ?_
    have bM:=hid wI
    have HB1:Hid (Below w.heap.size w qI):=hid (aj gQ.out wR gQ.out.size)
    have dn:=hid Io
    have uQ:Hid (ku.heap.size≠b):=hid (fun e=>by have h1:=Mz.box.lt; have h2:wq.heap.size≤ku.heap.size:=jR.size; have h3:b<wq.heap.size:=h1; omega)
    have qW:=hid hro
    clear hro M11 nS jR M12 uN lQ lT mO kH wI xX wR Mz Ez Lz hHeld gQ qj CZ Io
    generalize qI=w5 at *
    generalize ku.heap.size=bx at *
    by_cases hz:dH M.off ev.n ev.au M.ms.length=0
    ·skip
     have HZ:=hid hz
     have wS:Hid (ro=qO M.off ev.n ev.au M.ms.length):=hid (qW.out hz)
     have HD2:Hid (M.dW ev=({ M with off:=qO M.off ev.n ev.au M.ms.length },0)):=hid (by rw [ES.out,if_neg (fun h=>h hz)])
     rw [hz]
     clear hz
     have x0:=dn.out.cell 0 rfl
     have x1:=dn.out.cell 1 rfl
     have x2:=dn.out.cell 2 rfl
     have x3:=dn.out.cell 3 rfl
     have x4:=dn.out.cell 4 rfl
     have x5:=dn.out.cell 5 rfl
     have YP:=bM.out.box.cell 28 rfl
     have f28:=bM.out.box.frozen 28
     have YQ:=bM.out.box.cell 29 rfl
     have f29:=bM.out.box.frozen 29
     have YR:=bM.out.box.cell 30 rfl
     have f30:=bM.out.box.frozen 30
     have YS:=bM.out.box.cell 31 rfl
     have f31:=bM.out.box.frozen 31
     have YT:=bM.out.box.cell 32 rfl
     have f32:=bM.out.box.frozen 32
     have YU:=bM.out.box.cell 33 rfl
     have f33:=bM.out.box.frozen 33
     have HP:=hid (bM.out.put (M':={ M with off:=ro }) (B':=B) 28 [.int .i64 ro.b0,.int .i64 ro.b1,.int .i64 ro.aY,.int .i64 ro.aZ,.int .i64 ro.l10,.int .i64 ro.aX] (by simp) rfl rfl rfl rfl (bM.out.rd.imp (fun _ h=>⟨h.rd,h.per,h.pc,h.pr,h.jr⟩)))
     clear qW
     go_wp2_with fail
     go_ret
     exact ⟨by rw [HD2.out]; rfl,S,B,by rw [HD2.out,← wS.out]; exact HP.out.1,dw.refl _ _,(dD.new HB1.out).trans HP.out.2 (dw.refl _ _)⟩
    ·skip
     have HD2:Hid (M.dW ev=(M,dH M.off ev.n ev.au M.ms.length)):=hid (by rw [ES.out,if_pos hz])
     have hzb:(dH M.off ev.n ev.au M.ms.length == 0)=false:=by simpa using hz
     clear hz qW ES
     generalize dH M.off ev.n ev.au M.ms.length=er at *
     go_wp2_with fail
     go_ret
     exact ⟨by rw [HD2.out]; rfl,S,B,by rw [HD2.out]; exact bM.out,dw.refl _ _,dD.new HB1.out⟩
  ·skip
   go_simp
   refine aK ?_
   intro w16 e16
   have hbb:Below wq.drew.heap.size wq.drew w16:=by rw [e16]; exact (Below.refl _ _).alloc (Nat.le_refl _) _
   have qj:Box w16 (wq.heap.size) [.int .i64 0,.int .i64 0,.int .i64 0,.int .i64 0,.int .i64 0,.int .i64 0] 70:=by rw [e16]; exact Box.new' _ _ _ _ rfl
   have lT:=Mz.below hbb
   have mO:=Ez.stays hbb
   have kH:=aj Lz hbb Lz.size
   clear hbb e16
   refine hK.out _ _ (by and_intros <;> first | exact lT.box.cell _ rfl | exact mO.cell _ rfl) (fun hHeld=>?_)
   clear hK K
   refine dO 11 fun K hK=>?_
   go_simp
   refine (kW _ lT).mono ?_
   rintro e ku ⟨rfl,hbb⟩
   have M11:=lT.below hbb
   have nS:=mO.stays hbb
   have jR:=aj kH hbb kH.size
   have C9:=qj.stays hbb
   clear hbb
   refine hK.out _ _ (by and_intros <;> first | exact M11.box.cell _ rfl | exact nS.cell _ rfl) (fun hHeld=>?_)
   clear hK K
   refine dO 12 fun K hK=>?_
   go_simp
   refine (Si M.off ev.n ev.au M.ms.length _ Sj.out yS.out IY.out).mono ?_
   rintro e w12 ⟨ro,hro,rfl,hbb⟩
   have M12:=M11.below hbb
   have uN:=nS.stays hbb
   have lQ:=aj jR hbb jR.size
   have CZ:=C9.stays hbb
   clear hbb
   refine hK.out _ _ (by and_intros <;> first | exact M12.box.cell _ rfl | exact uN.cell _ rfl) (fun hHeld=>?_)
   clear hK K
   refine aF 13 ?_
   refine aF 14 ?_
   refine aF 15 ?_
   refine dO 17 fun K hK=>?_
   rw [if_pos (by rfl)]
   refine wp_store_mid 70 (.tmp 6) (.tmp 25) (by rfl) (wq.heap.size) 0 #[.int .i64 ro.b0,.int .i64 ro.b1,.int .i64 ro.aY,.int .i64 ro.aZ,.int .i64 ro.l10,.int .i64 ro.aX] (by rfl) (by rfl) (CZ.has 0 6 (by simp)) (by kernel_rfl) (by simp [Value.oneCell']) ?_
   refine aK ?_
   intro qI e17
   have Io:Box qI (wq.heap.size) [.int .i64 ro.b0,.int .i64 ro.b1,.int .i64 ro.aY,.int .i64 ro.aZ,.int .i64 ro.l10,.int .i64 ro.aX] 70:=by rw [e17]; exact CZ.store rfl
   have hbn:wq.heap.size≤wq.heap.size:=Nat.le_refl _
   have wR:Below wq.drew.heap.size wq.drew qI:=by rw [e17]; exact below_setCells lQ hbn 0 _
   have wI:=Mz.below wR
   have xX:=Ez.stays wR
   clear e17 hbn
   refine hK.out _ _ (by and_intros <;> first | exact wI.box.cell _ rfl | exact xX.cell _ rfl) (fun hHeld=>?_)
   clear hK K
   refine aF 18 ?_
   refine iE ?_
   have bM:=hid wI
   have HB1:Hid (Below w.heap.size w qI):=hid (aj gQ.out wR gQ.out.size)
   have dn:=hid Io
   have uQ:Hid (wq.heap.size≠b):=hid (fun e=>by have h1:=Mz.box.lt; have h2:wq.heap.size≤wq.heap.size:=Nat.le_refl _; have h3:b<wq.heap.size:=h1; omega)
   have qW:=hid hro
   clear hro M11 nS jR M12 uN lQ lT mO kH wI xX wR Mz Ez Lz hHeld gQ qj C9 CZ Io
   generalize qI=w5 at *
   obtain ⟨bx,hbx⟩:∃ bx,bx=wq.heap.size:=⟨_,rfl⟩
   rw [← hbx] at dn uQ ⊢
   clear hbx
   by_cases hz:dH M.off ev.n ev.au M.ms.length=0
   ·skip
    have HZ:=hid hz
    have wS:Hid (ro=qO M.off ev.n ev.au M.ms.length):=hid (qW.out hz)
    have HD2:Hid (M.dW ev=({ M with off:=qO M.off ev.n ev.au M.ms.length },0)):=hid (by rw [ES.out,if_neg (fun h=>h hz)])
    rw [hz]
    clear hz
    have x0:=dn.out.cell 0 rfl
    have x1:=dn.out.cell 1 rfl
    have x2:=dn.out.cell 2 rfl
    have x3:=dn.out.cell 3 rfl
    have x4:=dn.out.cell 4 rfl
    have x5:=dn.out.cell 5 rfl
    have YP:=bM.out.box.cell 28 rfl
    have f28:=bM.out.box.frozen 28
    have YQ:=bM.out.box.cell 29 rfl
    have f29:=bM.out.box.frozen 29
    have YR:=bM.out.box.cell 30 rfl
    have f30:=bM.out.box.frozen 30
    have YS:=bM.out.box.cell 31 rfl
    have f31:=bM.out.box.frozen 31
    have YT:=bM.out.box.cell 32 rfl
    have f32:=bM.out.box.frozen 32
    have YU:=bM.out.box.cell 33 rfl
    have f33:=bM.out.box.frozen 33
    have HP:=hid (bM.out.put (M':={ M with off:=ro }) (B':=B) 28 [.int .i64 ro.b0,.int .i64 ro.b1,.int .i64 ro.aY,.int .i64 ro.aZ,.int .i64 ro.l10,.int .i64 ro.aX] (by simp) rfl rfl rfl rfl (bM.out.rd.imp (fun _ h=>⟨h.rd,h.per,h.pc,h.pr,h.jr⟩)))
    clear qW
    go_wp2_with fail
    go_ret
    exact ⟨by rw [HD2.out]; rfl,S,B,by rw [HD2.out,← wS.out]; exact HP.out.1,dw.refl _ _,(dD.new HB1.out).trans HP.out.2 (dw.refl _ _)⟩
   ·skip
    have HD2:Hid (M.dW ev=(M,dH M.off ev.n ev.au M.ms.length)):=hid (by rw [ES.out,if_pos hz])
    have hzb:(dH M.off ev.n ev.au M.ms.length == 0)=false:=by simpa using hz
    clear hz qW ES
    generalize dH M.off ev.n ev.au M.ms.length=er at *
    go_wp2_with fail
    go_ret
    exact ⟨by rw [HD2.out]; rfl,S,B,by rw [HD2.out]; exact bM.out,dw.refl _ _,dD.new HB1.out⟩
end Go.Proofs.YtmabaojkignodaaGreatDoor
