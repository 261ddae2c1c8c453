/- MaD0, MaE0. -/
import Derived.Test.YteablcielclaeaaGreatDoorP37
namespace Go.Proofs.YteablcielclaeaaGreatDoor
open Go.ChangeShapes Go.WideShapes Go.ChangeAt Go.RowKit
set_option linter.unusedVariables false
open Go.Lib (hid)
variable {X S:Nat→Prop} {base b:Nat} {M:aP} {B:kM}
set_option maxRecDepth 100000 in
set_option maxHeartbeats 8000000 in
theorem VK (HS:SortMvSaid) (x:aB) (now:Int) (w:World) (h:aY X S base w b M B) (hb:base≤w.heap.size) (hp:RQ M x now) (OJ:zn M.CR M.clk now):Calls Tryz.prog 129 #[.pointer (some ⟨b,0,none⟩),.agg #[.int .i64 x.src,.int .i64 x.dst,.int .i64 x.piece],.int .i64 now] w fun e w'=>e=.returned (.tuple #[])∧AZ X S base b w (M.move x now) w':=by
 have qo:=hid HS
 have HPt:=hid OJ
 clear OJ
 have HM:=hid h
 have HC:=hid hp
 have Fa:=hid hb
 have JY:=hid hp.pe
 have Jg:Hid (¬ S w.heap.size):=hid (fun hk=>by obtain ⟨up,us,ue,vl,vm,rows,hg⟩:=h.game; have:=(hg.lo _ hk).2; omega)
 clear h hb hp HS
 go_enter Tryz.func129,Tryz.ntmps129
 go_upto_region 1 with (fail)
 refine lX fun w0 vZ fJ hs_=>?_
 have HX0:=hid vZ
 have HB0:=hid fJ
 clear hs_ vZ fJ
 have Aa:=hid (HM.out.below HB0.out)
 go_wp2_with fail
 refine (LZ w0 Aa.out).mono ?_
 rintro e w1 ⟨rfl,hb1⟩
 have HB1:=hid (ak HB0.out hb1 HB0.out.size)
 have lu:=hid (HX0.out.stays hb1)
 clear hb1 HX0 Aa HB0
 go_upto_region 2 with (fail)
 generalize w1=wq at *
 have L1:Below w.heap.size w wq.drew:=aK HB1.out
 have Mz:aY X S base wq.drew b M B:=HM.out.below L1
 have Xz:=lu.out.drew
 have Lb:base≤wq.drew.heap.size:=Nat.le_trans Fa.out L1.size
 have HS0:Hid (∀ S',iE wq.drew S S'→iE w S S'):=hid (fun S' h k hk h'=>h k (Nat.lt_of_lt_of_le hk L1.size) h')
 have HF0:Hid (iO S b w wq.drew):=hid (iO.new L1)
 obtain ⟨up,us,ue,vl,vm,rows,Gz⟩:=Mz.game
 clear HB1 lu HM L1
 refine wp_region_noPanic ?_
 refine bI (S:=(fun w'=>w'.cell? ⟨b,14,none⟩=some (.pointer (some ⟨B.g,0,none⟩))∧w'.cell? ⟨w.heap.size,0,none⟩=some (.int .i64 x.src)∧w'.cell? ⟨w.heap.size,1,none⟩=some (.int .i64 x.dst)∧w'.cell? ⟨w.heap.size,2,none⟩=some (.int .i64 x.piece))) (L:=[]) (by kernel_rfl) ⟨Mz.box.cell 14 rfl,Xz.cell 0 rfl,Xz.cell 1 rfl,Xz.cell 2 rfl⟩ (fun hHeld=>?_)
 refine aC 0 ?_
 refine dV 4 ?_
 refine aC 1 ?_
 refine aC 2 ?_
 refine dV 3 ?_
 refine fH 5 fun K hK=>?_
 go_simp
 refine (gx.yD qo.out x _ Gz Lb (fun k hk=>Mz.LY k (.inr hk))).mono ?_
 rintro e w5 hp
 rcases hp with ⟨hn,-⟩ | ⟨-,rfl,S',XM,V5,rows',hg',hs,hf⟩
 ·exact absurd JY.out hn
 have MP:=Mz.ae2 hg' hs hf
 have X5:=Xz.held hf Jg.out
 clear hg' hf
 refine hK.out _ _ ⟨MP.1.box.cell 14 rfl,X5.cell 0 rfl,X5.cell 1 rfl,X5.cell 2 rfl⟩ (fun hHeld=>?_)
 clear hK K
 refine jC ?_
 have VL:=hid MP.1
 have VN:=hid MP.2
 have HS5:=hid hs
 clear MP X5 hs hHeld Gz Mz Xz Lb
 go_upto_region 3 with (fail)
 have HFa:Hid (iO S b w w5.drew):=hid (Fr.drew (iO.trans HF0.out VN.out (iE.refl _ _)))
 have HSa:Hid (iE w S S'):=hid (HS0.out S' HS5.out)
 clear HF0 HS0 VN HS5
 generalize w5=wq at *
 have Mz:aY X S' base wq.drew b { M with ms:=M.ms++[x] } B:=VL.out.below (aK (Below.refl _ _))
 clear VL
 refine wp_region_noPanic ?_
 refine bI (S:=(fun w'=>w'.cell? ⟨b,11,none⟩=some (.slice B.pa M.CR.ps.length B.pc)∧w'.cell? ⟨b,12,none⟩=some (.int .i64 M.CR.inc)∧w'.cell? ⟨b,13,none⟩=some (.int .i64 M.CR.delay)∧w'.cell? ⟨b,18,none⟩=some (.int .i64 M.clk.l0)∧w'.cell? ⟨b,19,none⟩=some (.int .i64 M.clk.l1)∧w'.cell? ⟨b,20,none⟩=some (.int .i64 M.clk.m0)∧w'.cell? ⟨b,21,none⟩=some (.int .i64 M.clk.m1)∧w'.cell? ⟨b,22,none⟩=some (.int .i64 M.clk.p0)∧w'.cell? ⟨b,23,none⟩=some (.int .i64 M.clk.p1)∧w'.cell? ⟨b,24,none⟩=some (.int .i64 M.clk.turn)∧w'.cell? ⟨b,25,none⟩=some (.int .i64 M.clk.since)∧w'.cell? ⟨b,26,none⟩=some (.bool M.clk.st)∧w'.cell? ⟨b,27,none⟩=some (.int .i64 M.clk.ay))) (L:=[18]) (by kernel_rfl) (by and_intros <;> exact Mz.box.cell _ rfl) (fun hHeld=>?_)
 refine aC 0 ?_
 refine aC 1 ?_
 refine aC 5 ?_
 refine aC 10 ?_
 refine aC 2 ?_
 refine aC 6 ?_
 refine aC 3 ?_
 refine aC 7 ?_
 refine dV 4 ?_
 refine aC 8 ?_
 refine dV 9 ?_
 refine fH 11 fun K hK=>?_
 go_simp
 refine (HPt.out B.pa B.pc _ HC.out.cr HC.out.ck HC.out.sn HC.out.nw HC.out.st HC.out.fl HC.out.us Mz.fr.per).mono ?_
 rintro e Ns ⟨rfl,akk⟩
 unfold IZ
 have M11:=Mz.below akk
 have F11:=akk
 refine hK.out _ _ (by and_intros <;> exact M11.box.cell _ rfl) (fun hHeld=>?_)
 clear hK K
 refine aC 12 ?_
 refine aC 13 ?_
 refine aC 14 ?_
 refine aC 15 ?_
 refine aC 16 ?_
 refine aC 17 ?_
 refine rP 18 fun K hK=>?_
 rw [if_pos (by rfl)]
 refine wp_store_mid 83 (.tmp 32) (.tmp 28) (by rfl) b 18 #[.int .i64 (dF M.CR M.clk now).l0,.int .i64 (dF M.CR M.clk now).l1,.int .i64 (dF M.CR M.clk now).m0,.int .i64 (dF M.CR M.clk now).m1,.int .i64 (dF M.CR M.clk now).p0,.int .i64 (dF M.CR M.clk now).p1,.int .i64 (dF M.CR M.clk now).turn,.int .i64 (dF M.CR M.clk now).since,.bool (dF M.CR M.clk now).st,.int .i64 (dF M.CR M.clk now).ay] (by rfl) (by rfl) (M11.box.has 18 10 (by simp [Um])) (by kernel_rfl) (ab2 (dF M.CR M.clk now)) ?_
 refine aQ ?_
 intro rJ e18
 have E18:=hid e18
 clear e18
 refine hK.out _ _ ?_
 clear hK K
 refine jC ?_
 have MP:=M11.put (M':={ M with ms:=M.ms++[x],clk:=(dF M.CR M.clk now) }) (B':=B) 18 [.int .i64 (dF M.CR M.clk now).l0,.int .i64 (dF M.CR M.clk now).l1,.int .i64 (dF M.CR M.clk now).m0,.int .i64 (dF M.CR M.clk now).m1,.int .i64 (dF M.CR M.clk now).p0,.int .i64 (dF M.CR M.clk now).p1,.int .i64 (dF M.CR M.clk now).turn,.int .i64 (dF M.CR M.clk now).since,.bool (dF M.CR M.clk now).st,.int .i64 (dF M.CR M.clk now).ay] (by simp) rfl rfl rfl rfl (M11.rd.imp (fun _ h=>⟨h.rd,h.per,h.pc,h.pr,h.jr⟩))
 have Rf:Hid (aY X S' base rJ b { M with ms:=M.ms++[x],clk:=(dF M.CR M.clk now) } B):=hid (by rw [E18.out]; exact MP.1)
 have apx:Hid (iO S' b wq.drew rJ):=hid (by rw [E18.out]; exact (iO.new F11).trans MP.2 (iE.refl _ _))
 clear MP E18 M11 F11 hHeld Mz
 go_upto_region 4 with (fail)
 generalize rJ=w8 at *
 have c28:=Rf.out.box.cell 28 rfl
 have c29:=Rf.out.box.cell 29 rfl
 have c30:=Rf.out.box.cell 30 rfl
 have c31:=Rf.out.box.cell 31 rfl
 have c32:=Rf.out.box.cell 32 rfl
 have c33:=Rf.out.box.cell 33 rfl
 go_wp2_with fail
 refine (ab1 M.off M.pos.turn w8 HC.out.og HC.out.tn).mono ?_
 rintro e w9 ⟨rfl,vW⟩
 unfold Yk
 have kV:=hid (Rf.out.below vW)
 have JW:Hid (iO S' b w8 w9):=hid (iO.new vW)
 clear vW c28 c29 c30 c31 c32 c33
 have c28:=kV.out.box.cell 28 rfl
 have f28:=kV.out.box.frozen 28
 have c29:=kV.out.box.cell 29 rfl
 have f29:=kV.out.box.frozen 29
 have c30:=kV.out.box.cell 30 rfl
 have f30:=kV.out.box.frozen 30
 have c31:=kV.out.box.cell 31 rfl
 have f31:=kV.out.box.frozen 31
 have c32:=kV.out.box.cell 32 rfl
 have f32:=kV.out.box.frozen 32
 have c33:=kV.out.box.cell 33 rfl
 have f33:=kV.out.box.frozen 33
 have HP:=hid (kV.out.put (M':=M.move x now) (B':=B) 28 [.int .i64 (rU M.off M.pos.turn).b0,.int .i64 (rU M.off M.pos.turn).b1,.int .i64 (rU M.off M.pos.turn).lC,.int .i64 (rU M.off M.pos.turn).lD,.int .i64 (rU M.off M.pos.turn).l10,.int .i64 (rU M.off M.pos.turn).lF] (by simp) rfl rfl rfl rfl (kV.out.rd.imp (fun _ h=>⟨h.rd,h.per,h.pc,h.pr,h.jr⟩)))
 generalize (rU M.off M.pos.turn)=om at *
 go_wp2_with fail
 go_end0
 exact ⟨rfl,S',B,HP.out.1,HSa.out,iO.trans HFa.out (apx.out.trans (JW.out.trans HP.out.2 (iE.refl _ _)) (iE.refl _ _)) HSa.out⟩
end Go.Proofs.YteablcielclaeaaGreatDoor
namespace Go.Proofs.YteablcielclaeaaGreatDoor
open Go.ChangeShapes Go.WideShapes Go.ChangeAt Go.RowKit
set_option linter.unusedVariables false
open Go.Lib (hid)
variable {X S:Nat→Prop} {base b:Nat} {M:aP} {B:kM}
set_option maxRecDepth 100000 in
set_option maxHeartbeats 16000000 in
theorem NW {P:List fU→Prop} (HNo:∀ R p l,P l→jP R p l=false) (HNS:NextSaid P) (HPS:∀ R p l,P l→P (aO R p l)) (VX:P M.aX) (HS:SortMvSaid) (ev:yA) (OJ:zn M.CR M.clk ev.now) (w:World) (h:aY X S base w b M B) (hb:base≤w.heap.size) (hm:Mid M ev.now) (hg:M.game=0):Calls Tryz.prog 93 #[.pointer (some ⟨b,0,none⟩),.agg #[.int .i64 ev.kind,.int .i64 ev.aV,.int .i64 ev.n,.int .i64 ev.now,.int .i64 ev.m.src,.int .i64 ev.m.dst,.int .i64 ev.m.piece]] w fun e w'=>e=.returned (.int .i64 (M.jQ ev).2)∧AZ X S base b w (M.jQ ev).1 w':=by
 have HNx:=hid HNS
 have HNn:=hid HNo
 have HPt:=hid OJ
 clear HNo OJ
 have HPn:=hid HPS
 have HPp:=hid VX
 clear HNS HPS VX
 have Wx:=hid hm
 have Ou:=hid hg
 have HDM:Hid (M.jQ ev=if M.pos.turn≠ev.aV then (M,12) else if ev.m∉kC M.R M.pos then (M,13) else if M.ms.length=400 then (M,2) else (aP.runs ev.now 400 (M.move ev.m ev.now),0)):=hid rfl
 clear hm hg
 have qo:=hid HS
 have HM:=hid h
 have Fa:=hid hb
 have Jg:Hid (¬ S w.heap.size):=hid (fun hk=>by obtain ⟨up,us,ue,vl,vm,rows,hg⟩:=h.game; have:=(hg.lo _ hk).2; omega)
 have HEb:Hid (b<w.heap.size):=hid h.box.lt
 clear h hb HS
 go_enter Tryz.func93,Tryz.ntmps93
 go_upto_region 1 with (fail)
 refine lX fun w0 vZ fJ hs_=>?_
 have wV:=hid vZ
 have HB0:=hid fJ
 clear hs_ vZ fJ
 have Aa:=hid (HM.out.below HB0.out)
 generalize w0=wq at *
 have Mz:aY X S base wq.drew b M B:=Aa.out.below (aK (Below.refl _ _))
 have Ez:=wV.out.drew
 have Lz:Below w.heap.size w wq.drew:=aK HB0.out
 clear Aa wV HB0
 refine wp_region_noPanic ?_
 refine bI (S:=(fun w'=>w'.cell? ⟨w.heap.size,1,none⟩=some (.int .i64 ev.aV))) (L:=[]) (by kernel_rfl) (Ez.cell 1 rfl) (fun hHeld=>?_)
 refine aC 0 ?_
 refine aC 2 ?_
 refine dV 3 ?_
 refine fH 1 fun K hK=>?_
 go_simp
 refine (LZ _ Mz).mono ?_
 rintro e w1 ⟨rfl,hb1⟩
 have M1:=Mz.below hb1
 have E1:=Ez.stays hb1
 have L1:=ak Lz hb1 Lz.size
 clear hb1
 refine hK.out _ _ (E1.cell 1 rfl) (fun hHeld=>?_)
 clear hK K
 refine aC 4 ?_
 refine aC 5 ?_
 refine jC ?_
 have vF:=hid M1
 have nO:=hid E1
 have HB1:=hid L1
 clear M1 E1 L1 Mz Ez Lz hHeld
 generalize w1=wr at *
 by_cases ht:M.pos.turn=ev.aV
 rotate_left
 ·have HD2:Hid (M.jQ ev=(M,12)):=hid (by rw [HDM.out,if_pos ht])
  have htb:(M.pos.turn != ev.aV)=true:=by simpa using ht
  clear ht HDM
  generalize M.pos.turn=tt at *
  go_wp2_with fail
  go_ret
  exact ⟨by rw [HD2.out]; rfl,S,B,by rw [HD2.out]; exact vF.out,iE.refl _ _,iO.new HB1.out⟩
 have htb:(M.pos.turn != ev.aV)=false:=by simpa using ht
 have HT:=hid ht
 clear ht
 go_upto_region 3 with (fail)
 clear htb
 generalize wr=wq at *
 have Mz:aY X S base wq.drew b M B:=vF.out.below (aK (Below.refl _ _))
 have Ez:=nO.out.drew
 have Lz:Below w.heap.size w wq.drew:=aK HB1.out
 have HK:Hid (qg M.R (bV M.R M.ms)):=hid (by obtain ⟨up,us,ue,vl,vm,rows,hg⟩:=HM.out.game; exact hg.nok)
 obtain ⟨up,us,ue,vl,vm,rows,hg⟩:=Mz.game
 have Gz:=hg.plain
 clear vF nO HB1 hg
 refine wp_region_noPanic ?_
 refine bI (S:=(fun w'=>w'.cell? ⟨b,0,none⟩=some (.string M.R.name)∧w'.cell? ⟨b,1,none⟩=some (.int .i64 M.R.width)∧w'.cell? ⟨b,2,none⟩=some (.int .i64 M.R.height)∧w'.cell? ⟨b,3,none⟩=some B.vp∧w'.cell? ⟨b,4,none⟩=some B.vs∧w'.cell? ⟨b,5,none⟩=some (.bool M.R.falls)∧w'.cell? ⟨b,6,none⟩=some (.bool M.R.keeps)∧w'.cell? ⟨b,7,none⟩=some B.ve∧w'.cell? ⟨b,8,none⟩=some (.int .i64 M.R.blocked)∧w'.cell? ⟨b,9,none⟩=some (.int .i64 M.R.quiet)∧w'.cell? ⟨b,10,none⟩=some (.int .i64 M.R.bC)∧w'.cell? ⟨b,14,none⟩=some (.pointer (some ⟨B.g,0,none⟩))∧w'.cell? ⟨w.heap.size,4,none⟩=some (.int .i64 ev.m.src)∧w'.cell? ⟨w.heap.size,5,none⟩=some (.int .i64 ev.m.dst)∧w'.cell? ⟨w.heap.size,6,none⟩=some (.int .i64 ev.m.piece))) (L:=[]) (by kernel_rfl) (by and_intros <;> first | exact Mz.box.cell _ rfl | exact Ez.cell _ rfl) (fun hHeld=>?_)
 refine aC 0 ?_
 refine aC 4 ?_
 refine aC 10 ?_
 refine aC 1 ?_
 refine aC 5 ?_
 refine dV 11 ?_
 refine aC 2 ?_
 refine aC 6 ?_
 refine dV 3 ?_
 refine dV 7 ?_
 refine fH 8 fun K hK=>?_
 go_simp
 refine (lY _ Gz).mono ?_
 rintro e w8 ⟨vc,v0,v1,rfl,ho8,hb8⟩
 have M8:=Mz.below hb8
 have E8:=Ez.stays hb8
 have L8:=ak Lz hb8 Lz.size
 have P8:=ho8.rd
 clear ho8 hb8
 refine hK.out _ _ (by and_intros <;> first | exact M8.box.cell _ rfl | exact E8.cell _ rfl) (fun hHeld=>?_)
 clear hK K
 refine fH 9 fun K hK=>?_
 go_simp
 refine (TS qo.out M.R B.vp B.vs B.ve (bV M.R M.ms) vc v0 v1 _ M8.fr.rd P8 HK.out).mono ?_
 rintro e w9 ⟨vx,rfl,QO,vW⟩
 obtain ⟨a9,c9,rfl⟩:=aG QO
 have M9:=M8.below vW
 have E9:=E8.stays vW
 have L9:=ak L8 vW L8.size
 have R9:=oD QO
 clear QO vW
 refine hK.out _ _ (by and_intros <;> first | exact M9.box.cell _ rfl | exact E9.cell _ rfl) (fun hHeld=>?_)
 clear hK K
 refine fH 12 fun K hK=>?_
 go_simp
 refine (AU _ ev.m _ _ R9).mono ?_
 rintro e w12 ⟨rfl,IX⟩
 have M12:=M9.below IX
 have E12:=E9.stays IX
 have Yb:=ak L9 IX L9.size
 clear IX
 refine hK.out _ _ (by and_intros <;> first | exact M12.box.cell _ rfl | exact E12.cell _ rfl) (fun hHeld=>?_)
 clear hK K
 refine aC 13 ?_
 refine aC 14 ?_
 refine jC ?_
 have vG:=hid M12
 have A8:=hid E12
 have HB3:=hid Yb
 clear M12 E12 Yb M9 E9 L9 M8 E8 L8 P8 R9 Mz Ez Lz Gz hHeld
 generalize w12=w2 at *
 by_cases hmv:ev.m∈kC M.R (bV M.R M.ms)
 rotate_left
 ·have HD2:Hid (M.jQ ev=(M,13)):=hid (by rw [HDM.out,if_neg (fun h=>h HT.out),if_pos (show ev.m∉kC M.R M.pos from hmv)])
  rw [decide_eq_false hmv]
  clear hmv HDM
  go_wp2_with fail
  go_ret
  exact ⟨by rw [HD2.out]; rfl,S,B,by rw [HD2.out]; exact vG.out,iE.refl _ _,iO.new HB3.out⟩
 have HMV:=hid hmv
 rw [decide_eq_true hmv]
 clear hmv
 go_upto_region 5 with (fail)
 go_wp2_with fail
 refine (RP w2 vG.out).mono ?_
 rintro e w3 ⟨rfl,hb3⟩
 have HM4:=hid (vG.out.below hb3)
 have HE4:=hid (A8.out.stays hb3)
 have HB4:=hid (ak HB3.out hb3 HB3.out.size)
 clear hb3 vG A8 HB3
 by_cases hl:M.ms.length=400
 ·have HD2:Hid (M.jQ ev=(M,2)):=hid (by rw [HDM.out,if_neg (fun h=>h HT.out),if_neg (fun h=>h HMV.out),if_pos hl])
  have hlb:((M.ms.length:Int) == 400)=true:=by simp; omega
  clear hl HDM
  generalize (M.ms.length:Int)=ll at *
  go_wp2_with fail
  go_ret
  exact ⟨by rw [HD2.out]; rfl,S,B,by rw [HD2.out]; exact HM4.out,iE.refl _ _,iO.new HB4.out⟩
 have HD2:Hid (M.jQ ev=(aP.runs ev.now 400 (M.move ev.m ev.now),0)):=hid (by rw [HDM.out,if_neg (fun h=>h HT.out),if_neg (fun h=>h HMV.out),if_neg hl])
 have akm:Hid (RQ M ev.m ev.now):=hid ⟨Ur Ou.out HMV.out hl,Wx.out.cr,Wx.out.ck,Wx.out.sn,Wx.out.nw,Wx.out.st,Wx.out.fl,Wx.out.us,Wx.out.og,HK.out.tu⟩
 have HL4:Hid (M.ms.length<400):=hid (by obtain ⟨up,us,ue,vl,vm,rows,hg⟩:=HM.out.game; have:=hg.lt; omega)
 have hlb:((M.ms.length:Int) == 400)=false:=by simp; omega
 have hll:¬ ((M.ms.length:Int)=400):=by omega
 clear hl HDM
 go_upto_region 7 with (fail)
 clear hlb hll
 have e3:=HE4.out.cell 3 rfl
 have e4:=HE4.out.cell 4 rfl
 have e5:=HE4.out.cell 5 rfl
 have e6:=HE4.out.cell 6 rfl
 go_wp2_with fail
 clear e3 e4 e5 e6
 refine (VK qo.out ev.m ev.now w3 HM4.out (Nat.le_trans Fa.out HB4.out.size) akm.out HPt.out).mono ?_
 rintro e w4 ⟨rfl,S1,B1,hm4,hs4,hf4⟩
 have VL:=hid hm4
 have HE5:Hid (Box w4 w.heap.size [.int .i64 ev.kind,.int .i64 ev.aV,.int .i64 ev.n,.int .i64 ev.now,.int .i64 ev.m.src,.int .i64 ev.m.dst,.int .i64 ev.m.piece] 71):=hid (HE4.out.held hf4 (fun h=>by
  rcases h with h | h
  ·exact Jg.out h
  ·have h2:w.heap.size=b:=h
   have:=HEb.out; omega))
 have HS5:Hid (iE w S S1):=hid (fun k hk h=>hs4 k (Nat.lt_of_lt_of_le hk HB4.out.size) h)
 have VN:Hid (iO S b w w4):=hid ((iO.new HB4.out).trans hf4 (iE.refl _ _))
 have HN5:Hid (¬ S1 w.heap.size):=hid (fun h=>Jg.out (hs4 _ HE4.out.lt h))
 have akn:Hid (Mid (M.move ev.m ev.now) ev.now∧P (M.move ev.m ev.now).aX):=hid ⟨Wx.out.move ev.m,HPp.out⟩
 have HLen:Hid (400<400+(M.move ev.m ev.now).ms.length):=hid (by show _<400+(M.ms++[ev.m]).length; simp)
 clear hm4 hs4 hf4 HM4 HE4 HB4 akm
 generalize M.move ev.m ev.now=M1 at *
 go_wp2_with fail
 go_loopw [5,6,7,8] (fun v5 v6 v7 v8 wr=>∃ (f:Nat) (Mk:aP) (Sk:Nat→Prop) (Bk:kM) (o5 o6 o7 o8:Value),o5=v5∧o6=v6∧o7=v7∧o8=v8∧Hid (aY X Sk base wr b Mk Bk)∧Hid (aP.runs ev.now 400 M1=aP.runs ev.now f Mk)∧Hid (400<f+Mk.ms.length)∧Hid (Mid Mk ev.now∧P Mk.aX)∧Hid (iE w S Sk)∧Hid (iO S b w wr)∧Hid (Box wr w.heap.size [.int .i64 ev.kind,.int .i64 ev.aV,.int .i64 ev.n,.int .i64 ev.now,.int .i64 ev.m.src,.int .i64 ev.m.dst,.int .i64 ev.m.piece] 71)∧Hid (¬ Sk w.heap.size)) (fun _ _ _ _ wr=>401 - Yl wr b)
 case atStart=>exact ⟨400,M1,S1,B1,_,_,_,_,rfl,rfl,rfl,rfl,VL,hid rfl,HLen,akn,HS5,VN,HE5,HN5⟩
 case round =>
  obtain ⟨f,Mk,Sk,Bk,o5,o6,o7,o8,rfl,rfl,rfl,rfl,HMk,Ap,HFu,rD,VO,HFk,HEk,HNk⟩:=hrel
  have Wn:=hid (Ym HMk.out)
  have IV:Hid (Mk.ms.length≤400):=hid (by obtain ⟨up,us,ue,vl,vm,rows,hg⟩:=HMk.out.game; exact hg.lt)
  have Wy:Hid (base≤wr.heap.size):=hid (Nat.le_trans Fa.out HFk.out.size)
  have HWk:Hid (w.heap.size≤wr.heap.size):=hid HFk.out.size
  have c14:=HMk.out.box.cell 14 rfl
  have HGk:Hid (∃ up us ue vl vm rows,bJ Sk base wr Bk.g Mk.R Mk.ms up us ue vl vm rows):=hid (by obtain ⟨up,us,ue,vl,vm,rows,hg⟩:=HMk.out.game; exact ⟨_,_,_,_,_,_,hg.plain⟩)
  go_wp2_with fail
  obtain ⟨up,us,ue,vl,vm,rows,hgk⟩:=HGk.out
  refine (oZ qo.out wr hgk).mono ?_
  rintro e w5 ⟨rfl,hb5⟩
  have HM6:=hid (HMk.out.below hb5)
  have HE6:=hid (HEk.out.stays hb5)
  have HF6:Hid (iO S b w w5):=hid (HFk.out.trans (iO.new (S:=Sk) hb5) VO.out)
  have HZ6:Hid (wr.heap.size≤w5.heap.size):=hid hb5.size
  clear hb5 hgk c14
  by_cases hgm:fZ Mk.R Mk.ms=0
  rotate_left
  ·have hgb:(fZ Mk.R Mk.ms == 0)=false:=by simpa using hgm
   have DV:Hid (aP.runs ev.now 400 M1=Mk):=hid (by rw [Ap.out]; exact Gx _ _ _ (fun h=>hgm h.1))
   clear hgm
   generalize fZ Mk.R Mk.ms=gm at *
   go_wp2_with fail
   go_ret
   exact ⟨by rw [HD2.out]; rfl,Sk,Bk,by rw [HD2.out,DV.out]; exact HM6.out,VO.out,HF6.out⟩
  have apA:Hid (Mk.game=0):=hid hgm
  rw [hgm]
  clear hgm
  go_wp2_with fail
  refine (RP w5 HM6.out).mono ?_
  rintro e w6 ⟨rfl,hb6⟩
  have HM7:=hid (HM6.out.below hb6)
  have HE7:=hid (HE6.out.stays hb6)
  have HF7:Hid (iO S b w w6):=hid (HF6.out.trans (iO.new (S:=Sk) hb6) VO.out)
  have HZ7:Hid (wr.heap.size≤w6.heap.size):=hid (Nat.le_trans HZ6.out hb6.size)
  clear hb6 HM6 HE6 HF6 HZ6
  by_cases hl4:Mk.ms.length<400
  rotate_left
  ·have hlb:¬ ((Mk.ms.length:Int)<400):=by omega
   have DV:Hid (aP.runs ev.now 400 M1=Mk):=hid (by rw [Ap.out]; exact Gx _ _ _ (fun h=>hl4 h.2))
   clear hl4
   generalize (Mk.ms.length:Int)=ll at *
   go_wp2_with fail
   go_ret
   exact ⟨by rw [HD2.out]; rfl,Sk,Bk,by rw [HD2.out,DV.out]; exact HM7.out,VO.out,HF7.out⟩
  have EZ:=hid hl4
  have hlb:((Mk.ms.length:Int)<400):=by omega
  have Ib:=hid (Uo ev.now f Mk apA.out hl4 (by have:=HFu.out; omega))
  clear hl4
  go_upto_region 9 with (fail)
  clear hlb
  generalize w6=wq at *
  have Mz:aY X Sk base wq.drew b Mk Bk:=HM7.out.below (aK (Below.refl _ _))
  have Ez:=HE7.out.drew
  have Lz:Below wq.drew.heap.size wq.drew wq.drew:=Below.refl _ _
  have HF8:Hid (iO S b w wq.drew):=hid (Fr.drew HF7.out)
  have JK:Hid (∀ q,(Sk q∨out1 X b q)→q<wq.heap.size):=hid HM7.out.LY
  have HK9:Hid (qg Mk.R Mk.pos):=hid (by obtain ⟨up,us,ue,vl,vm,rows,hg⟩:=Mz.game; exact hg.nok)
  have apD:Hid (aJ Mk.R=0):=hid (by obtain ⟨up,us,ue,vl,vm,rows,hg⟩:=Mz.game; exact hg.re)
  have kQ:Hid (ig Mk.R Mk.pos Mk.aX=0):=hid (by unfold ig; rw [if_neg (by rw [aep apD.out HK9.out]; decide)]; exact Us rD.out.1.pr)
  clear HM7 HE7 HF7 HZ7
  refine wp_region_noPanic ?_
  refine bI (S:=(fun w'=>w'.cell? ⟨b,0,none⟩=some (.string Mk.R.name)∧w'.cell? ⟨b,1,none⟩=some (.int .i64 Mk.R.width)∧w'.cell? ⟨b,2,none⟩=some (.int .i64 Mk.R.height)∧w'.cell? ⟨b,3,none⟩=some Bk.vp∧w'.cell? ⟨b,4,none⟩=some Bk.vs∧w'.cell? ⟨b,5,none⟩=some (.bool Mk.R.falls)∧w'.cell? ⟨b,6,none⟩=some (.bool Mk.R.keeps)∧w'.cell? ⟨b,7,none⟩=some Bk.ve∧w'.cell? ⟨b,8,none⟩=some (.int .i64 Mk.R.blocked)∧w'.cell? ⟨b,9,none⟩=some (.int .i64 Mk.R.quiet)∧w'.cell? ⟨b,10,none⟩=some (.int .i64 Mk.R.bC)∧w'.cell? ⟨b,14,none⟩=some (.pointer (some ⟨Bk.g,0,none⟩))∧w'.cell? ⟨b,34,none⟩=some Bk.vr∧w'.cell? ⟨w.heap.size,3,none⟩=some (.int .i64 ev.now))) (L:=[]) (by kernel_rfl) (by and_intros <;> first | exact Mz.box.cell _ rfl | exact Ez.cell _ rfl) (fun hHeld=>?_)
  refine aC 0 ?_
  refine aC 4 ?_
  refine aC 9 ?_
  refine aC 1 ?_
  refine aC 5 ?_
  refine aC 10 ?_
  refine aC 2 ?_
  refine aC 6 ?_
  refine aC 11 ?_
  refine dV 3 ?_
  refine dV 7 ?_
  refine aC 12 ?_
  refine dV 13 ?_
  refine Tv (rs:=[8,20]) ?_
  refine (aU.cons (by first | (simp only [List.getElem?_toArray,List.getElem?_cons_zero,List.getElem?_cons_succ] <;> rfl) | rfl) (fun K hK=>?_) (aU.cons (by first | (simp only [List.getElem?_toArray,List.getElem?_cons_zero,List.getElem?_cons_succ] <;> rfl) | rfl) (fun K hK=>?_) aU.nil))
  ·skip
   go_simp
   obtain ⟨up',us',ue',XM,V5,rows',hgp⟩:=Mz.game
   refine (lY _ hgp.plain).mono ?_
   clear hgp
   rintro e w8 ⟨vc,v0,v1,rfl,ho8,hbb⟩
   have M8:=Mz.below hbb
   have E8:=Ez.stays hbb
   have L8:=ak Lz hbb Lz.size
   have P8:=ho8.rd
   clear ho8 hbb
   refine hK.out _ _ (by and_intros <;> first | exact M8.box.cell _ rfl | exact E8.cell _ rfl) (fun hHeld=>?_)
   clear hK K
   refine Tv (rs:=[14,20]) ?_
   refine (aU.cons (by first | (simp only [List.getElem?_toArray,List.getElem?_cons_zero,List.getElem?_cons_succ] <;> rfl) | rfl) (fun K hK=>?_) (aU.cons (by first | (simp only [List.getElem?_toArray,List.getElem?_cons_zero,List.getElem?_cons_succ] <;> rfl) | rfl) (fun K hK=>?_) aU.nil))
   ·skip
    go_simp
    refine (HNx.out Mk.R Bk.vp Bk.vs Bk.ve Mk.pos vc v0 v1 Bk.vr Mk.aX _ rD.out.2 M8.fr.rd rD.out.1.nm P8 M8.fr.pr (by have:=rD.out.1.pr.len; omega)).mono ?_
    rintro e wS hp
    rcases hp with ⟨hn,-⟩ | ⟨-,vr,rfl,yF,hbb⟩
    ·exact absurd kQ.out hn
    obtain ⟨ra,rc,rfl⟩:=aG yF
    have M14:=M8.below hbb
    have E14:=E8.stays hbb
    have MC:=ak L8 hbb L8.size
    have JZ:=yF
    have Ui:wq.drew.heap.size≤w8.heap.size:=L8.size
    clear yF hbb
    refine hK.out _ _ (by and_intros <;> first | exact M14.box.cell _ rfl | exact E14.cell _ rfl) (fun hHeld=>?_)
    clear hK K
    refine aC 15 ?_
    refine aC 16 ?_
    refine aC 17 ?_
    refine aC 18 ?_
    refine aC 19 ?_
    refine fH 20 fun K hK=>?_
    go_simp
    refine aQ ?_
    intro yR e20
    have hbb:Below wS.heap.size wS yR:=by rw [e20]; exact (Below.refl _ _).alloc (Nat.le_refl _) _
    have Tj:Box yR (wS.heap.size) [.int .i64 0,.int .i64 0,.int .i64 0] 68:=by rw [e20]; exact Box.new' _ _ _ _ rfl
    have VP:=M14.below hbb
    have BG:=E14.stays hbb
    have wz:=ak MC hbb MC.size
    have O20:=aS JZ hbb
    clear hbb e20
    refine hK.out _ _ (by and_intros <;> first | exact VP.box.cell _ rfl | exact BG.cell _ rfl) (fun hHeld=>?_)
    clear hK K
    refine fH 21 fun K hK=>?_
    rw [if_pos (by rfl)]
    refine wp_store_mid 68 (.tmp 5) (.tmp 67) (by rfl) (wS.heap.size) 0 #[.int .i64 (bQ Mk.R Mk.pos Mk.aX).src,.int .i64 (bQ Mk.R Mk.pos Mk.aX).dst,.int .i64 (bQ Mk.R Mk.pos Mk.aX).piece] (by rfl) (by rfl) (Tj.has 0 3 (by simp)) (by kernel_rfl) (by simp [Value.oneCell']) ?_
    refine aQ ?_
    intro jB e21
    have Qj:Box jB (wS.heap.size) [.int .i64 (bQ Mk.R Mk.pos Mk.aX).src,.int .i64 (bQ Mk.R Mk.pos Mk.aX).dst,.int .i64 (bQ Mk.R Mk.pos Mk.aX).piece] 68:=by rw [e21]; exact Tj.store rfl
    have hbn:wq.heap.size≤wS.heap.size:=by first | exact Nat.le_refl _ | exact L8.size | exact MC.size
    have Ee:Below wq.drew.heap.size wq.drew jB:=by rw [e21]; exact below_setCells wz hbn 0 _
    have NY:Fr (fun k=>k=wS.heap.size) yR jB:=by rw [e21]; exact (Fr.refl (fun k=>k=wS.heap.size) yR).setCells (b:=wS.heap.size) rfl 0 _
    have O21:jB.ownsRow wq.drew.heap.size 173 4 (.slice ra (aO Mk.R Mk.pos Mk.aX).length rc) (aO Mk.R Mk.pos Mk.aX).length (jy (aO Mk.R Mk.pos Mk.aX)):=own_base (fC O20 NY (fun q hq e=>(by have h1:=(JZ.lt q hq).2; omega))) Ui
    have M21:=Mz.below Ee
    have J4:=Ez.stays Ee
    clear e21 NY
    refine hK.out _ _ (by and_intros <;> first | exact M21.box.cell _ rfl | exact J4.cell _ rfl) (fun hHeld=>?_)
    clear hK K
    refine aC 22 ?_
    refine aC 23 ?_
    refine aC 24 ?_
    refine jC ?_
    have kV:=hid M21
    have HE9:=hid J4
    have Xr:=hid Qj
    have BD:Hid (jB.ownsRow wq.drew.heap.size 173 4 (.slice ra (aO Mk.R Mk.pos Mk.aX).length rc) (aO Mk.R Mk.pos Mk.aX).length (jy (aO Mk.R Mk.pos Mk.aX))):=hid O21
    have JW:Hid (iO S b w jB):=hid (HF8.out.trans (iO.new (S:=Sk) Ee) VO.out)
    have HNX:Hid (¬ (Sk wS.heap.size∨out1 X b wS.heap.size)):=hid (fun h=>by have:=JK.out _ h; omega)
    have HNV:Hid (∀ k,Value.ownBlock (.slice ra (aO Mk.R Mk.pos Mk.aX).length rc)=some k→¬ (Sk k∨out1 X b k)):=hid (fun k hk h=>by have h1:=(O21.lt k hk).1; have h2:=JK.out k h; exact absurd h2 (Nat.not_lt.2 h1))
    clear M8 E8 L8 M14 E14 MC VP BG wz M21 J4 Ee O21 Qj hbn P8 JZ Ui O20 Tj Mz Ez Lz hHeld JK
    generalize wS.heap.size=bx at *
    have d34:=kV.out.box.cell 34 rfl
    have f34:=kV.out.box.frozen 34
    have HP:=hid (kV.out.put (M':={ Mk with aX:=(aO Mk.R Mk.pos Mk.aX) }) (B':={ Bk with vr:=.slice ra (aO Mk.R Mk.pos Mk.aX).length rc }) 34 [.slice ra (aO Mk.R Mk.pos Mk.aX).length rc] (by simp) rfl rfl rfl rfl (fun w' hw=>⟨(kV.out.rd w' hw).rd,(kV.out.rd w' hw).per,(kV.out.rd w' hw).pc,wP (fC BD.out hw HNV.out),(kV.out.rd w' hw).jr⟩))
    have HMn:Hid (aY X Sk base (jB.setCell ⟨b,34,none⟩ (.slice ra (aO Mk.R Mk.pos Mk.aX).length rc)) b { Mk with aX:=(aO Mk.R Mk.pos Mk.aX) } { Bk with vr:=.slice ra (aO Mk.R Mk.pos Mk.aX).length rc }):=hid HP.out.1
    have HFn:Hid (iO S b w (jB.setCell ⟨b,34,none⟩ (.slice ra (aO Mk.R Mk.pos Mk.aX).length rc))):=hid (JW.out.trans HP.out.2 VO.out)
    have HXn:Hid (Box (jB.setCell ⟨b,34,none⟩ (.slice ra (aO Mk.R Mk.pos Mk.aX).length rc)) bx [.int .i64 (bQ Mk.R Mk.pos Mk.aX).src,.int .i64 (bQ Mk.R Mk.pos Mk.aX).dst,.int .i64 (bQ Mk.R Mk.pos Mk.aX).piece] 68):=hid (Xr.out.far ⟨b,34,none⟩ _ (fun e=>HNX.out (.inr (.inl e))))
    have HEn:Hid (Box (jB.setCell ⟨b,34,none⟩ (.slice ra (aO Mk.R Mk.pos Mk.aX).length rc)) w.heap.size [.int .i64 ev.kind,.int .i64 ev.aV,.int .i64 ev.n,.int .i64 ev.now,.int .i64 ev.m.src,.int .i64 ev.m.dst,.int .i64 ev.m.piece] 71):=hid (HE9.out.far ⟨b,34,none⟩ _ (fun e=>by have:=HEb.out; have h2:w.heap.size=b:=e; omega))
    clear HP BD HNV
    go_upto_region 11 with (fail)
    clear d34 f34
    generalize (jB.setCell ⟨b,34,none⟩ (.slice ra (aO Mk.R Mk.pos Mk.aX).length rc))=w22 at *
    clear kV HE9 Xr JW
    have hok:¬ jP Mk.R Mk.pos Mk.aX=true:=by rw [HNn.out _ _ _ rD.out.2]; decide
    have DV:Hid (aP.runs ev.now 400 M1=({ Mk with aX:=aO Mk.R Mk.pos Mk.aX }:aP)):=hid (by rw [Ap.out,Ib.out,if_neg hok])
    have hob:jP Mk.R Mk.pos Mk.aX=false:=by simpa using hok
    rw [hob]
    clear hok hob
    go_wp2_with fail
    go_ret
    exact ⟨by rw [HD2.out]; rfl,Sk,_,by rw [HD2.out,DV.out]; exact HMn.out,VO.out,HFn.out⟩
   ·skip
    go_simp
    refine aQ ?_
    intro yR e20
    have hbb:Below w8.heap.size w8 yR:=by rw [e20]; exact (Below.refl _ _).alloc (Nat.le_refl _) _
    have Tj:Box yR (w8.heap.size) [.int .i64 0,.int .i64 0,.int .i64 0] 68:=by rw [e20]; exact Box.new' _ _ _ _ rfl
    have VP:=M8.below hbb
    have BG:=E8.stays hbb
    have wz:=ak L8 hbb L8.size
    have P20:=P8.below hbb (Nat.le_refl _)
    clear hbb e20
    refine hK.out _ _ (by and_intros <;> first | exact VP.box.cell _ rfl | exact BG.cell _ rfl) (fun hHeld=>?_)
    clear hK K
    refine fH 14 fun K hK=>?_
    go_simp
    refine (HNx.out Mk.R Bk.vp Bk.vs Bk.ve Mk.pos vc v0 v1 Bk.vr Mk.aX _ rD.out.2 VP.fr.rd rD.out.1.nm P20 VP.fr.pr (by have:=rD.out.1.pr.len; omega)).mono ?_
    rintro e wS hp
    rcases hp with ⟨hn,-⟩ | ⟨-,vr,rfl,yF,hbb⟩
    ·exact absurd kQ.out hn
    obtain ⟨ra,rc,rfl⟩:=aG yF
    have M14:=VP.below hbb
    have E14:=BG.stays hbb
    have MC:=ak wz hbb wz.size
    have Yt:=Tj.stays hbb
    have JZ:=yF
    have Ui:wq.drew.heap.size≤yR.heap.size:=wz.size
    clear yF hbb
    refine hK.out _ _ (by and_intros <;> first | exact M14.box.cell _ rfl | exact E14.cell _ rfl) (fun hHeld=>?_)
    clear hK K
    refine aC 15 ?_
    refine aC 16 ?_
    refine aC 17 ?_
    refine aC 18 ?_
    refine aC 19 ?_
    refine fH 21 fun K hK=>?_
    rw [if_pos (by rfl)]
    refine wp_store_mid 68 (.tmp 5) (.tmp 67) (by rfl) (w8.heap.size) 0 #[.int .i64 (bQ Mk.R Mk.pos Mk.aX).src,.int .i64 (bQ Mk.R Mk.pos Mk.aX).dst,.int .i64 (bQ Mk.R Mk.pos Mk.aX).piece] (by rfl) (by rfl) (Yt.has 0 3 (by simp)) (by kernel_rfl) (by simp [Value.oneCell']) ?_
    refine aQ ?_
    intro jB e21
    have Qj:Box jB (w8.heap.size) [.int .i64 (bQ Mk.R Mk.pos Mk.aX).src,.int .i64 (bQ Mk.R Mk.pos Mk.aX).dst,.int .i64 (bQ Mk.R Mk.pos Mk.aX).piece] 68:=by rw [e21]; exact Yt.store rfl
    have hbn:wq.heap.size≤w8.heap.size:=by first | exact Nat.le_refl _ | exact L8.size | exact MC.size
    have Ee:Below wq.drew.heap.size wq.drew jB:=by rw [e21]; exact below_setCells MC hbn 0 _
    have NY:Fr (fun k=>k=w8.heap.size) wS jB:=by rw [e21]; exact (Fr.refl (fun k=>k=w8.heap.size) wS).setCells (b:=w8.heap.size) rfl 0 _
    have O21:jB.ownsRow wq.drew.heap.size 173 4 (.slice ra (aO Mk.R Mk.pos Mk.aX).length rc) (aO Mk.R Mk.pos Mk.aX).length (jy (aO Mk.R Mk.pos Mk.aX)):=own_base (fC JZ NY (fun q hq e=>(by have h1:=(JZ.lt q hq).1; have h2:=Tj.lt; omega))) Ui
    have M21:=Mz.below Ee
    have J4:=Ez.stays Ee
    clear e21 NY
    refine hK.out _ _ (by and_intros <;> first | exact M21.box.cell _ rfl | exact J4.cell _ rfl) (fun hHeld=>?_)
    clear hK K
    refine aC 22 ?_
    refine aC 23 ?_
    refine aC 24 ?_
    refine jC ?_
    have kV:=hid M21
    have HE9:=hid J4
    have Xr:=hid Qj
    have BD:Hid (jB.ownsRow wq.drew.heap.size 173 4 (.slice ra (aO Mk.R Mk.pos Mk.aX).length rc) (aO Mk.R Mk.pos Mk.aX).length (jy (aO Mk.R Mk.pos Mk.aX))):=hid O21
    have JW:Hid (iO S b w jB):=hid (HF8.out.trans (iO.new (S:=Sk) Ee) VO.out)
    have HNX:Hid (¬ (Sk w8.heap.size∨out1 X b w8.heap.size)):=hid (fun h=>by have:=JK.out _ h; omega)
    have HNV:Hid (∀ k,Value.ownBlock (.slice ra (aO Mk.R Mk.pos Mk.aX).length rc)=some k→¬ (Sk k∨out1 X b k)):=hid (fun k hk h=>by have h1:=(O21.lt k hk).1; have h2:=JK.out k h; exact absurd h2 (Nat.not_lt.2 h1))
    clear M8 E8 L8 M14 E14 MC VP BG wz M21 J4 Ee O21 Qj hbn P8 JZ Ui P20 Tj Yt Mz Ez Lz hHeld JK
    generalize w8.heap.size=bx at *
    have d34:=kV.out.box.cell 34 rfl
    have f34:=kV.out.box.frozen 34
    have HP:=hid (kV.out.put (M':={ Mk with aX:=(aO Mk.R Mk.pos Mk.aX) }) (B':={ Bk with vr:=.slice ra (aO Mk.R Mk.pos Mk.aX).length rc }) 34 [.slice ra (aO Mk.R Mk.pos Mk.aX).length rc] (by simp) rfl rfl rfl rfl (fun w' hw=>⟨(kV.out.rd w' hw).rd,(kV.out.rd w' hw).per,(kV.out.rd w' hw).pc,wP (fC BD.out hw HNV.out),(kV.out.rd w' hw).jr⟩))
    have HMn:Hid (aY X Sk base (jB.setCell ⟨b,34,none⟩ (.slice ra (aO Mk.R Mk.pos Mk.aX).length rc)) b { Mk with aX:=(aO Mk.R Mk.pos Mk.aX) } { Bk with vr:=.slice ra (aO Mk.R Mk.pos Mk.aX).length rc }):=hid HP.out.1
    have HFn:Hid (iO S b w (jB.setCell ⟨b,34,none⟩ (.slice ra (aO Mk.R Mk.pos Mk.aX).length rc))):=hid (JW.out.trans HP.out.2 VO.out)
    have HXn:Hid (Box (jB.setCell ⟨b,34,none⟩ (.slice ra (aO Mk.R Mk.pos Mk.aX).length rc)) bx [.int .i64 (bQ Mk.R Mk.pos Mk.aX).src,.int .i64 (bQ Mk.R Mk.pos Mk.aX).dst,.int .i64 (bQ Mk.R Mk.pos Mk.aX).piece] 68):=hid (Xr.out.far ⟨b,34,none⟩ _ (fun e=>HNX.out (.inr (.inl e))))
    have HEn:Hid (Box (jB.setCell ⟨b,34,none⟩ (.slice ra (aO Mk.R Mk.pos Mk.aX).length rc)) w.heap.size [.int .i64 ev.kind,.int .i64 ev.aV,.int .i64 ev.n,.int .i64 ev.now,.int .i64 ev.m.src,.int .i64 ev.m.dst,.int .i64 ev.m.piece] 71):=hid (HE9.out.far ⟨b,34,none⟩ _ (fun e=>by have:=HEb.out; have h2:w.heap.size=b:=e; omega))
    clear HP BD HNV
    go_upto_region 11 with (fail)
    clear d34 f34
    generalize (jB.setCell ⟨b,34,none⟩ (.slice ra (aO Mk.R Mk.pos Mk.aX).length rc))=w22 at *
    clear kV HE9 Xr JW
    have hok:¬ jP Mk.R Mk.pos Mk.aX=true:=by rw [HNn.out _ _ _ rD.out.2]; decide
    have DV:Hid (aP.runs ev.now 400 M1=({ Mk with aX:=aO Mk.R Mk.pos Mk.aX }:aP)):=hid (by rw [Ap.out,Ib.out,if_neg hok])
    have hob:jP Mk.R Mk.pos Mk.aX=false:=by simpa using hok
    rw [hob]
    clear hok hob
    go_wp2_with fail
    go_ret
    exact ⟨by rw [HD2.out]; rfl,Sk,_,by rw [HD2.out,DV.out]; exact HMn.out,VO.out,HFn.out⟩
  ·skip
   go_simp
   refine aQ ?_
   intro yR e20
   have hbb:Below wq.drew.heap.size wq.drew yR:=by rw [e20]; exact (Below.refl _ _).alloc (Nat.le_refl _) _
   have Tj:Box yR (wq.heap.size) [.int .i64 0,.int .i64 0,.int .i64 0] 68:=by rw [e20]; exact Box.new' _ _ _ _ rfl
   have VP:=Mz.below hbb
   have BG:=Ez.stays hbb
   have wz:=ak Lz hbb Lz.size
   clear hbb e20
   refine hK.out _ _ (by and_intros <;> first | exact VP.box.cell _ rfl | exact BG.cell _ rfl) (fun hHeld=>?_)
   clear hK K
   refine fH 8 fun K hK=>?_
   go_simp
   obtain ⟨up',us',ue',XM,V5,rows',hgp⟩:=VP.game
   refine (lY _ hgp.plain).mono ?_
   clear hgp
   rintro e w8 ⟨vc,v0,v1,rfl,ho8,hbb⟩
   have M8:=VP.below hbb
   have E8:=BG.stays hbb
   have L8:=ak wz hbb wz.size
   have X8:=Tj.stays hbb
   have P8:=ho8.rd
   clear ho8 hbb
   refine hK.out _ _ (by and_intros <;> first | exact M8.box.cell _ rfl | exact E8.cell _ rfl) (fun hHeld=>?_)
   clear hK K
   refine fH 14 fun K hK=>?_
   go_simp
   refine (HNx.out Mk.R Bk.vp Bk.vs Bk.ve Mk.pos vc v0 v1 Bk.vr Mk.aX _ rD.out.2 M8.fr.rd rD.out.1.nm P8 M8.fr.pr (by have:=rD.out.1.pr.len; omega)).mono ?_
   rintro e wS hp
   rcases hp with ⟨hn,-⟩ | ⟨-,vr,rfl,yF,hbb⟩
   ·exact absurd kQ.out hn
   obtain ⟨ra,rc,rfl⟩:=aG yF
   have M14:=M8.below hbb
   have E14:=E8.stays hbb
   have MC:=ak L8 hbb L8.size
   have Yt:=X8.stays hbb
   have JZ:=yF
   have Ui:wq.drew.heap.size≤w8.heap.size:=L8.size
   clear yF hbb
   refine hK.out _ _ (by and_intros <;> first | exact M14.box.cell _ rfl | exact E14.cell _ rfl) (fun hHeld=>?_)
   clear hK K
   refine aC 15 ?_
   refine aC 16 ?_
   refine aC 17 ?_
   refine aC 18 ?_
   refine aC 19 ?_
   refine fH 21 fun K hK=>?_
   rw [if_pos (by rfl)]
   refine wp_store_mid 68 (.tmp 5) (.tmp 67) (by rfl) (wq.heap.size) 0 #[.int .i64 (bQ Mk.R Mk.pos Mk.aX).src,.int .i64 (bQ Mk.R Mk.pos Mk.aX).dst,.int .i64 (bQ Mk.R Mk.pos Mk.aX).piece] (by rfl) (by rfl) (Yt.has 0 3 (by simp)) (by kernel_rfl) (by simp [Value.oneCell']) ?_
   refine aQ ?_
   intro jB e21
   have Qj:Box jB (wq.heap.size) [.int .i64 (bQ Mk.R Mk.pos Mk.aX).src,.int .i64 (bQ Mk.R Mk.pos Mk.aX).dst,.int .i64 (bQ Mk.R Mk.pos Mk.aX).piece] 68:=by rw [e21]; exact Yt.store rfl
   have hbn:wq.heap.size≤wq.heap.size:=by first | exact Nat.le_refl _ | exact L8.size | exact MC.size
   have Ee:Below wq.drew.heap.size wq.drew jB:=by rw [e21]; exact below_setCells MC hbn 0 _
   have NY:Fr (fun k=>k=wq.heap.size) wS jB:=by rw [e21]; exact (Fr.refl (fun k=>k=wq.heap.size) wS).setCells (b:=wq.heap.size) rfl 0 _
   have O21:jB.ownsRow wq.drew.heap.size 173 4 (.slice ra (aO Mk.R Mk.pos Mk.aX).length rc) (aO Mk.R Mk.pos Mk.aX).length (jy (aO Mk.R Mk.pos Mk.aX)):=own_base (fC JZ NY (fun q hq e=>(by have h1:=(JZ.lt q hq).1; have h2:=X8.lt; omega))) Ui
   have M21:=Mz.below Ee
   have J4:=Ez.stays Ee
   clear e21 NY
   refine hK.out _ _ (by and_intros <;> first | exact M21.box.cell _ rfl | exact J4.cell _ rfl) (fun hHeld=>?_)
   clear hK K
   refine aC 22 ?_
   refine aC 23 ?_
   refine aC 24 ?_
   refine jC ?_
   have kV:=hid M21
   have HE9:=hid J4
   have Xr:=hid Qj
   have BD:Hid (jB.ownsRow wq.drew.heap.size 173 4 (.slice ra (aO Mk.R Mk.pos Mk.aX).length rc) (aO Mk.R Mk.pos Mk.aX).length (jy (aO Mk.R Mk.pos Mk.aX))):=hid O21
   have JW:Hid (iO S b w jB):=hid (HF8.out.trans (iO.new (S:=Sk) Ee) VO.out)
   have HNX:Hid (¬ (Sk wq.heap.size∨out1 X b wq.heap.size)):=hid (fun h=>by have:=JK.out _ h; omega)
   have HNV:Hid (∀ k,Value.ownBlock (.slice ra (aO Mk.R Mk.pos Mk.aX).length rc)=some k→¬ (Sk k∨out1 X b k)):=hid (fun k hk h=>by have h1:=(O21.lt k hk).1; have h2:=JK.out k h; exact absurd h2 (Nat.not_lt.2 h1))
   clear M8 E8 L8 M14 E14 MC VP BG wz M21 J4 Ee O21 Qj hbn P8 JZ Ui Tj X8 Yt Mz Ez Lz hHeld JK
   obtain ⟨bx,hbx⟩:∃ bx,bx=wq.heap.size:=⟨_,rfl⟩
   rw [← hbx] at Xr HNX ⊢
   clear hbx
   have d34:=kV.out.box.cell 34 rfl
   have f34:=kV.out.box.frozen 34
   have HP:=hid (kV.out.put (M':={ Mk with aX:=(aO Mk.R Mk.pos Mk.aX) }) (B':={ Bk with vr:=.slice ra (aO Mk.R Mk.pos Mk.aX).length rc }) 34 [.slice ra (aO Mk.R Mk.pos Mk.aX).length rc] (by simp) rfl rfl rfl rfl (fun w' hw=>⟨(kV.out.rd w' hw).rd,(kV.out.rd w' hw).per,(kV.out.rd w' hw).pc,wP (fC BD.out hw HNV.out),(kV.out.rd w' hw).jr⟩))
   have HMn:Hid (aY X Sk base (jB.setCell ⟨b,34,none⟩ (.slice ra (aO Mk.R Mk.pos Mk.aX).length rc)) b { Mk with aX:=(aO Mk.R Mk.pos Mk.aX) } { Bk with vr:=.slice ra (aO Mk.R Mk.pos Mk.aX).length rc }):=hid HP.out.1
   have HFn:Hid (iO S b w (jB.setCell ⟨b,34,none⟩ (.slice ra (aO Mk.R Mk.pos Mk.aX).length rc))):=hid (JW.out.trans HP.out.2 VO.out)
   have HXn:Hid (Box (jB.setCell ⟨b,34,none⟩ (.slice ra (aO Mk.R Mk.pos Mk.aX).length rc)) bx [.int .i64 (bQ Mk.R Mk.pos Mk.aX).src,.int .i64 (bQ Mk.R Mk.pos Mk.aX).dst,.int .i64 (bQ Mk.R Mk.pos Mk.aX).piece] 68):=hid (Xr.out.far ⟨b,34,none⟩ _ (fun e=>HNX.out (.inr (.inl e))))
   have HEn:Hid (Box (jB.setCell ⟨b,34,none⟩ (.slice ra (aO Mk.R Mk.pos Mk.aX).length rc)) w.heap.size [.int .i64 ev.kind,.int .i64 ev.aV,.int .i64 ev.n,.int .i64 ev.now,.int .i64 ev.m.src,.int .i64 ev.m.dst,.int .i64 ev.m.piece] 71):=hid (HE9.out.far ⟨b,34,none⟩ _ (fun e=>by have:=HEb.out; have h2:w.heap.size=b:=e; omega))
   clear HP BD HNV
   go_upto_region 11 with (fail)
   clear d34 f34
   generalize (jB.setCell ⟨b,34,none⟩ (.slice ra (aO Mk.R Mk.pos Mk.aX).length rc))=w22 at *
   clear kV HE9 Xr JW
   have hok:¬ jP Mk.R Mk.pos Mk.aX=true:=by rw [HNn.out _ _ _ rD.out.2]; decide
   have DV:Hid (aP.runs ev.now 400 M1=({ Mk with aX:=aO Mk.R Mk.pos Mk.aX }:aP)):=hid (by rw [Ap.out,Ib.out,if_neg hok])
   have hob:jP Mk.R Mk.pos Mk.aX=false:=by simpa using hok
   rw [hob]
   clear hok hob
   go_wp2_with fail
   go_ret
   exact ⟨by rw [HD2.out]; rfl,Sk,_,by rw [HD2.out,DV.out]; exact HMn.out,VO.out,HFn.out⟩
end Go.Proofs.YteablcielclaeaaGreatDoor
