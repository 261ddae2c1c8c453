/- MaK0, H12. -/
import Derived.Test.YteablcielclaeaaGreatDoorP38
namespace Go.Proofs.YteablcielclaeaaGreatDoor
open Go.ChangeShapes Go.WideShapes Go.ChangeAt Go.RowKit
set_option linter.unusedVariables false
open Go.Lib (hid)
variable {X S:Nat→Prop} {base b:Nat} {M:aP} {B:kM}
set_option maxRecDepth 100000 in
set_option maxHeartbeats 32000000 in
theorem ade (ev:yA) (HLk:JJ M.CR M.clk ev.now) (HKS:KindSaid M ev) (HS:SortMvSaid) (HI:ItoaSaid) (HJ:qG) (w:World) (h:aY X S base w b M B) (hb:base≤w.heap.size) (hi:MInv M) (hjl:M.jr.length<90) (ht:Tab base w) (hok:Ut ev):Calls Tryz.prog 16 #[.pointer (some ⟨b,0,none⟩),.agg #[.int .i64 ev.kind,.int .i64 ev.aV,.int .i64 ev.n,.int .i64 ev.now,.int .i64 ev.m.src,.int .i64 ev.m.dst,.int .i64 ev.m.piece]] w fun e w'=>e=.returned (.int .i64 (M.go ev).2)∧AZ X S base b w (M.go ev).1 w':=by
 have HKd:=hid HKS
 have IV:=hid HLk
 clear HLk
 clear HKS
 have HIh:=hid HI
 have HJh:=hid HJ
 have HIv:=hid hi
 have HJl:=hid hjl
 have HJo:=hid hi.jo
 have Fz:=hid ht
 have WA:=hid hok
 have HDG:Hid (M.go ev=if M.mJ ev≠0 then (M,M.mJ ev) else if (M.kind ev).2≠0 then (M,(M.kind ev).2) else (((M.kind ev).1.put ev).over,0)):=hid rfl
 clear hi hjl ht hok HI HJ
 have qo:=hid HS
 have HM:=hid h
 have Fa:=hid hb
 have Jg:Hid (¬ S w.heap.size):=hid (fun hk=>by obtain ⟨up,us,ue,vl,vm,rows,hg⟩:=h.game; have:=(hg.lo _ hk).2; omega)
 have HEb:Hid (b<w.heap.size):=hid h.box.lt
 clear h hb HS
 go_enter Tryz.func16,Tryz.ntmps16
 go_upto_region 1 with (fail)
 refine lX fun w0 vZ fJ hs_=>?_
 have wV:=hid vZ
 have HB0:=hid fJ
 clear hs_ vZ fJ
 have Aa:=hid (HM.out.below HB0.out)
 have HEq:Hid (w.heap.size≠b):=hid (fun e=>by have:=HEb.out; omega)
 have e0:=wV.out.cell 0 rfl
 have e1:=wV.out.cell 1 rfl
 by_cases hA:ev.kind<0∨6<ev.kind∨(ev.aV≠0∧ev.aV≠1)
 ·have yQ:Hid (M.mJ ev=1):=hid (by unfold aP.mJ; rw [if_pos hA])
  have HD2:Hid (M.go ev=(M,1)):=hid (by rw [HDG.out,if_pos (by rw [yQ.out]; decide),yQ.out])
  by_cases k0:ev.kind<0
  ·clear hA
   go_wp2_with fail
   go_ret
   exact ⟨by rw [HD2.out]; rfl,S,B,by rw [HD2.out]; exact Aa.out,iE.refl _ _,iO.new HB0.out⟩
  by_cases k6:6<ev.kind
  ·clear hA
   go_wp2_with fail
   go_ret
   exact ⟨by rw [HD2.out]; rfl,S,B,by rw [HD2.out]; exact Aa.out,iE.refl _ _,iO.new HB0.out⟩
  have p0:(ev.aV != 0)=true:=by simp; omega
  have p1:(ev.aV != 1)=true:=by simp; omega
  clear hA
  go_wp2_with fail
  go_ret
  exact ⟨by rw [HD2.out]; rfl,S,B,by rw [HD2.out]; exact Aa.out,iE.refl _ _,iO.new HB0.out⟩
 have k0:¬ ev.kind<0:=by omega
 have k6:¬ 6<ev.kind:=by omega
 go_cut [8] (fun v8 wx=>v8=.bool false∧w0=wx)
 case first =>
  by_cases hp0:ev.aV=0
  ·have p0:(ev.aV != 0)=false:=by simpa using hp0
   clear hp0
   go_wp2_with fail
   go_meet
   exact ⟨rfl,rfl⟩
  ·have p0:(ev.aV != 0)=true:=by simpa using hp0
   have p1:(ev.aV != 1)=false:=by simp; omega
   clear hp0
   go_wp2_with fail
   go_meet
   exact ⟨rfl,rfl⟩
 case rest =>
  obtain ⟨rfl,rfl⟩:=hcut
  clear k0 k6 e0 e1
  go_upto_region 3 with (fail)
  have d35:=Aa.out.box.cell 35 rfl
  have e3:=wV.out.cell 3 rfl
  by_cases ht1:ev.now<M.last
  ·have yQ:Hid (M.mJ ev=11):=hid (by unfold aP.mJ; rw [if_neg hA,if_pos (.inl ht1)])
   have HD2:Hid (M.go ev=(M,11)):=hid (by rw [HDG.out,if_pos (by rw [yQ.out]; decide),yQ.out])
   go_quiet (fail)
   have vG:Hid (aY X S base (w0.drewN nq) b M B):=hid (Aa.out.below (below_drewN (Below.refl _ _) nq))
   have A8:=hid (wV.out.drewN nq)
   have HB3:Hid (Below w.heap.size w (w0.drewN nq)):=hid (below_drewN HB0.out nq)
   clear Aa wV HB0 d35 e3
   generalize w0.drewN nq=w3 at *
   go_wp2_with fail
   go_ret
   exact ⟨by rw [HD2.out]; rfl,S,B,by rw [HD2.out]; exact vG.out,iE.refl _ _,iO.new HB3.out⟩
  by_cases ht2:100000000<ev.now
  ·have yQ:Hid (M.mJ ev=11):=hid (by unfold aP.mJ; rw [if_neg hA,if_pos (.inr ht2)])
   have HD2:Hid (M.go ev=(M,11)):=hid (by rw [HDG.out,if_pos (by rw [yQ.out]; decide),yQ.out])
   go_quiet (fail)
   have vG:Hid (aY X S base (w0.drewN nq) b M B):=hid (Aa.out.below (below_drewN (Below.refl _ _) nq))
   have A8:=hid (wV.out.drewN nq)
   have HB3:Hid (Below w.heap.size w (w0.drewN nq)):=hid (below_drewN HB0.out nq)
   clear Aa wV HB0 d35 e3
   generalize w0.drewN nq=w3 at *
   go_wp2_with fail
   go_ret
   exact ⟨by rw [HD2.out]; rfl,S,B,by rw [HD2.out]; exact vG.out,iE.refl _ _,iO.new HB3.out⟩
  have HTm:Hid (¬ (ev.now<M.last∨100000000<ev.now)):=hid (by omega)
  have kQ:Hid (BX M.CR∧tH M.CR M.clk∧M.clk.since≤ev.now∧ev.now≤100000000):=hid ⟨HIv.out.cr,HIv.out.ck,by have:=HIv.out.sn; omega,by omega⟩
  go_quiet (fail)
  have vG:Hid (aY X S base (w0.drewN nq) b M B):=hid (Aa.out.below (below_drewN (Below.refl _ _) nq))
  have A8:=hid (wV.out.drewN nq)
  have HB3:Hid (Below w.heap.size w (w0.drewN nq)):=hid (below_drewN HB0.out nq)
  clear Aa wV HB0 d35 e3
  generalize w0.drewN nq=w3 at *
  clear ht1 ht2
  have d16:=vG.out.box.cell 16 rfl
  by_cases hr:M.res=0
  rotate_left
  ·have yQ:Hid (M.mJ ev=14):=hid (by unfold aP.mJ; rw [if_neg hA,if_neg HTm.out,if_pos hr])
   have HD2:Hid (M.go ev=(M,14)):=hid (by rw [HDG.out,if_pos (by rw [yQ.out]; decide),yQ.out])
   have hrb:(M.res != 0)=true:=by simpa using hr
   clear hr
   generalize M.res=rr at *
   go_wp2_with fail
   go_ret
   exact ⟨by rw [HD2.out]; rfl,S,B,by rw [HD2.out]; exact vG.out,iE.refl _ _,iO.new HB3.out⟩
  have OJ:Hid (M.mJ ev=if 0≤(bH M.CR M.clk ev.now).ay∧ev.kind≠4∧¬ (ev.kind=5∧ev.n=2) then 11 else 0):=hid (by unfold aP.mJ; rw [if_neg hA,if_neg HTm.out,if_neg (fun h=>h hr),if_neg (by have:=HJl.out; omega)])
  have hrb:(M.res != 0)=false:=by simpa using hr
  have d36:=vG.out.box.cell 36 rfl
  obtain ⟨ja0,jc0,hja,hjc,hjm,-⟩:=vG.out.fr.jr.form
  unfold maxLen at hjm
  have apF:w3.cell? ⟨b,36,none⟩=some (.slice ja0 M.jr.length jc0):=d36.trans (by rw [← hja])
  have hjl:((M.jr.length:Int) == 1000)=false:=by have:=HJl.out; simp; omega
  clear hr d36 hja
  go_upto_region 9 with (fail)
  clear hrb d16 apF hjl hjc hjm
  generalize w3=wq at *
  have Mz:aY X S base wq.drew b M B:=vG.out.below (aK (Below.refl _ _))
  have Ez:=A8.out.drew
  have Lz:Below wq.drew.heap.size wq.drew wq.drew:=Below.refl _ _
  have Tn:Hid (Below w.heap.size w wq.drew):=hid (aK HB3.out)
  clear vG A8 HB3
  refine' keyed (F:=fun w5 bx=>Hid (aY X S base w5 b M B)∧Hid (Box w5 w.heap.size [.int .i64 ev.kind,.int .i64 ev.aV,.int .i64 ev.n,.int .i64 ev.now,.int .i64 ev.m.src,.int .i64 ev.m.dst,.int .i64 ev.m.piece] 71)∧Hid (Below w.heap.size w w5)∧Hid (Box w5 bx [.int .i64 (bH M.CR M.clk ev.now).l0,.int .i64 (bH M.CR M.clk ev.now).l1,.int .i64 (bH M.CR M.clk ev.now).m0,.int .i64 (bH M.CR M.clk ev.now).m1,.int .i64 (bH M.CR M.clk ev.now).p0,.int .i64 (bH M.CR M.clk ev.now).p1,.int .i64 (bH M.CR M.clk ev.now).turn,.int .i64 (bH M.CR M.clk ev.now).since,.bool (bH M.CR M.clk ev.now).st,.int .i64 (bH M.CR M.clk ev.now).ay] 83)) ?main ?rest
  case main =>
   intro key
   refine wp_region_noPanic ?_
   refine bI (S:=(fun w'=>w'.cell? ⟨b,11,none⟩=some (.slice B.pa M.CR.ps.length B.pc)∧w'.cell? ⟨b,12,none⟩=some (.int .i64 M.CR.inc)∧w'.cell? ⟨b,13,none⟩=some (.int .i64 M.CR.delay)∧w'.cell? ⟨b,18,none⟩=some (.int .i64 M.clk.l0)∧w'.cell? ⟨b,19,none⟩=some (.int .i64 M.clk.l1)∧w'.cell? ⟨b,20,none⟩=some (.int .i64 M.clk.m0)∧w'.cell? ⟨b,21,none⟩=some (.int .i64 M.clk.m1)∧w'.cell? ⟨b,22,none⟩=some (.int .i64 M.clk.p0)∧w'.cell? ⟨b,23,none⟩=some (.int .i64 M.clk.p1)∧w'.cell? ⟨b,24,none⟩=some (.int .i64 M.clk.turn)∧w'.cell? ⟨b,25,none⟩=some (.int .i64 M.clk.since)∧w'.cell? ⟨b,26,none⟩=some (.bool M.clk.st)∧w'.cell? ⟨b,27,none⟩=some (.int .i64 M.clk.ay)∧w'.cell? ⟨w.heap.size,3,none⟩=some (.int .i64 ev.now))) (L:=[]) (by kernel_rfl) (by and_intros <;> first | exact Mz.box.cell _ rfl | exact Ez.cell _ rfl) (fun hHeld=>?_)
   refine aC 0 ?_
   refine aC 4 ?_
   refine aC 9 ?_
   refine aC 1 ?_
   refine aC 5 ?_
   refine dV 10 ?_
   refine aC 2 ?_
   refine aC 6 ?_
   refine dV 3 ?_
   refine aC 7 ?_
   refine dV 8 ?_
   refine Tv (rs:=[11,15]) ?_
   refine (aU.cons (by first | (simp only [List.getElem?_toArray,List.getElem?_cons_zero,List.getElem?_cons_succ] <;> rfl) | rfl) (fun K hK=>?_) (aU.cons (by first | (simp only [List.getElem?_toArray,List.getElem?_cons_zero,List.getElem?_cons_succ] <;> rfl) | rfl) (fun K hK=>?_) aU.nil))
   ·skip
    go_simp
    refine (IV.out B.pa B.pc _ kQ.out.1 kQ.out.2.1 kQ.out.2.2.1 kQ.out.2.2.2 Mz.fr.per).mono ?_
    rintro e Ns ⟨rfl,hbb⟩
    unfold IZ
    have M11:=Mz.below hbb
    have E11:=Ez.stays hbb
    have L11:=ak Lz hbb Lz.size
    clear hbb
    refine hK.out _ _ (by and_intros <;> first | exact M11.box.cell _ rfl | exact E11.cell _ rfl) (fun hHeld=>?_)
    clear hK K
    refine aC 12 ?_
    refine aC 13 ?_
    refine aC 14 ?_
    refine fH 15 fun K hK=>?_
    go_simp
    refine aQ ?_
    intro w15 e15
    have hbb:Below Ns.heap.size Ns w15:=by rw [e15]; exact (Below.refl _ _).alloc (Nat.le_refl _) _
    have X15:Box w15 (Ns.heap.size) [.int .i64 0,.int .i64 0,.int .i64 0,.int .i64 0,.int .i64 0,.int .i64 0,.int .i64 0,.int .i64 0,.bool false,.int .i64 0] 83:=by rw [e15]; exact Box.new' _ _ _ _ rfl
    have M15:=M11.below hbb
    have E15:=E11.stays hbb
    have L15:=ak L11 hbb L11.size
    clear hbb e15
    refine hK.out _ _ (by and_intros <;> first | exact M15.box.cell _ rfl | exact E15.cell _ rfl) (fun hHeld=>?_)
    clear hK K
    refine fH 16 fun K hK=>?_
    rw [if_pos (by rfl)]
    refine wp_store_mid 83 (.tmp 5) (.tmp 67) (by rfl) (Ns.heap.size) 0 #[.int .i64 (bH M.CR M.clk ev.now).l0,.int .i64 (bH M.CR M.clk ev.now).l1,.int .i64 (bH M.CR M.clk ev.now).m0,.int .i64 (bH M.CR M.clk ev.now).m1,.int .i64 (bH M.CR M.clk ev.now).p0,.int .i64 (bH M.CR M.clk ev.now).p1,.int .i64 (bH M.CR M.clk ev.now).turn,.int .i64 (bH M.CR M.clk ev.now).since,.bool (bH M.CR M.clk ev.now).st,.int .i64 (bH M.CR M.clk ev.now).ay] (by rfl) (by rfl) (X15.has 0 10 (by simp)) (by kernel_rfl) (by simp [Value.oneCell']) ?_
    refine aQ ?_
    intro w16 e16
    have X16:Box w16 (Ns.heap.size) [.int .i64 (bH M.CR M.clk ev.now).l0,.int .i64 (bH M.CR M.clk ev.now).l1,.int .i64 (bH M.CR M.clk ev.now).m0,.int .i64 (bH M.CR M.clk ev.now).m1,.int .i64 (bH M.CR M.clk ev.now).p0,.int .i64 (bH M.CR M.clk ev.now).p1,.int .i64 (bH M.CR M.clk ev.now).turn,.int .i64 (bH M.CR M.clk ev.now).since,.bool (bH M.CR M.clk ev.now).st,.int .i64 (bH M.CR M.clk ev.now).ay] 83:=by rw [e16]; exact X15.store rfl
    have hbn:wq.heap.size≤Ns.heap.size:=L11.size
    have L16:Below wq.drew.heap.size wq.drew w16:=by rw [e16]; exact below_setCells L15 hbn 0 _
    have M16:=Mz.below L16
    have E16:=Ez.stays L16
    clear e16 hbn
    refine hK.out _ _ (by and_intros <;> first | exact M16.box.cell _ rfl | exact E16.cell _ rfl) (fun hHeld=>?_)
    clear hK K
    refine aC 17 ?_
    refine jC ?_
    have vF:=hid M16
    have nO:=hid E16
    have HB1:Hid (Below w.heap.size w w16):=hid (ak Tn.out L16 Tn.out.size)
    have lu:=hid X16
    clear M11 E11 L11 M15 E15 L15 M16 E16 L16 hHeld X15 X16
    generalize Ns.heap.size=bx at lu ⊢
    exact key w16 bx ⟨vF,nO,HB1,lu⟩
   ·skip
    go_simp
    refine aQ ?_
    intro w15 e15
    have hbb:Below wq.drew.heap.size wq.drew w15:=by rw [e15]; exact (Below.refl _ _).alloc (Nat.le_refl _) _
    have X15:Box w15 (wq.heap.size) [.int .i64 0,.int .i64 0,.int .i64 0,.int .i64 0,.int .i64 0,.int .i64 0,.int .i64 0,.int .i64 0,.bool false,.int .i64 0] 83:=by rw [e15]; exact Box.new' _ _ _ _ rfl
    have M15:=Mz.below hbb
    have E15:=Ez.stays hbb
    have L15:=ak Lz hbb Lz.size
    clear hbb e15
    refine hK.out _ _ (by and_intros <;> first | exact M15.box.cell _ rfl | exact E15.cell _ rfl) (fun hHeld=>?_)
    clear hK K
    refine fH 11 fun K hK=>?_
    go_simp
    refine (IV.out B.pa B.pc _ kQ.out.1 kQ.out.2.1 kQ.out.2.2.1 kQ.out.2.2.2 M15.fr.per).mono ?_
    rintro e Ns ⟨rfl,hbb⟩
    unfold IZ
    have M11:=M15.below hbb
    have E11:=E15.stays hbb
    have L11:=ak L15 hbb L15.size
    have X11:=X15.stays hbb
    clear hbb
    refine hK.out _ _ (by and_intros <;> first | exact M11.box.cell _ rfl | exact E11.cell _ rfl) (fun hHeld=>?_)
    clear hK K
    refine aC 12 ?_
    refine aC 13 ?_
    refine aC 14 ?_
    refine fH 16 fun K hK=>?_
    rw [if_pos (by rfl)]
    refine wp_store_mid 83 (.tmp 5) (.tmp 67) (by rfl) (wq.heap.size) 0 #[.int .i64 (bH M.CR M.clk ev.now).l0,.int .i64 (bH M.CR M.clk ev.now).l1,.int .i64 (bH M.CR M.clk ev.now).m0,.int .i64 (bH M.CR M.clk ev.now).m1,.int .i64 (bH M.CR M.clk ev.now).p0,.int .i64 (bH M.CR M.clk ev.now).p1,.int .i64 (bH M.CR M.clk ev.now).turn,.int .i64 (bH M.CR M.clk ev.now).since,.bool (bH M.CR M.clk ev.now).st,.int .i64 (bH M.CR M.clk ev.now).ay] (by rfl) (by rfl) (X11.has 0 10 (by simp)) (by kernel_rfl) (by simp [Value.oneCell']) ?_
    refine aQ ?_
    intro w16 e16
    have X16:Box w16 (wq.heap.size) [.int .i64 (bH M.CR M.clk ev.now).l0,.int .i64 (bH M.CR M.clk ev.now).l1,.int .i64 (bH M.CR M.clk ev.now).m0,.int .i64 (bH M.CR M.clk ev.now).m1,.int .i64 (bH M.CR M.clk ev.now).p0,.int .i64 (bH M.CR M.clk ev.now).p1,.int .i64 (bH M.CR M.clk ev.now).turn,.int .i64 (bH M.CR M.clk ev.now).since,.bool (bH M.CR M.clk ev.now).st,.int .i64 (bH M.CR M.clk ev.now).ay] 83:=by rw [e16]; exact X11.store rfl
    have hbn:wq.heap.size≤wq.heap.size:=Nat.le_refl _
    have L16:Below wq.drew.heap.size wq.drew w16:=by rw [e16]; exact below_setCells L11 hbn 0 _
    have M16:=Mz.below L16
    have E16:=Ez.stays L16
    clear e16 hbn
    refine hK.out _ _ (by and_intros <;> first | exact M16.box.cell _ rfl | exact E16.cell _ rfl) (fun hHeld=>?_)
    clear hK K
    refine aC 17 ?_
    refine jC ?_
    have vF:=hid M16
    have nO:=hid E16
    have HB1:Hid (Below w.heap.size w w16):=hid (ak Tn.out L16 Tn.out.size)
    have lu:=hid X16
    clear M11 E11 L11 M15 E15 L15 M16 E16 L16 hHeld X15 X11 X16
    obtain ⟨bx,hbx⟩:∃ bx,bx=wq.heap.size:=⟨_,rfl⟩
    rw [← hbx] at lu ⊢
    clear hbx
    exact key w16 bx ⟨vF,nO,HB1,lu⟩
  case rest =>
   rintro w5 bx ⟨vF,nO,HB1,lu⟩
   clear Mz Ez Lz Tn
   have x9:=lu.out.cell 9 rfl
   have e0:=nO.out.cell 0 rfl
   have e2:=nO.out.cell 2 rfl
   by_cases hf:(bH M.CR M.clk ev.now).ay<0
   ·have yQ:Hid (M.mJ ev=0):=hid (by rw [OJ.out,if_neg (by omega)])
    have hfb:¬ (0≤(bH M.CR M.clk ev.now).ay):=by omega
    generalize (bH M.CR M.clk ev.now).ay=lf at *
    have JY:Hid (EvPre M ev):=hid (Cb HIv.out yQ.out)
    have EO:Hid (M.go ev=if (M.kind ev).2≠0 then (M,(M.kind ev).2) else (((M.kind ev).1.put ev).over,0)):=hid (by rw [HDG.out,if_neg (fun h=>h yQ.out)])
    have aal:Hid (base≤w5.heap.size):=hid (Nat.le_trans Fa.out HB1.out.size)
    go_upto_region 12 with (fail)
    have e0:=nO.out.cell 0 rfl
    have e1:=nO.out.cell 1 rfl
    have e2:=nO.out.cell 2 rfl
    have e3:=nO.out.cell 3 rfl
    have e4:=nO.out.cell 4 rfl
    have e5:=nO.out.cell 5 rfl
    have e6:=nO.out.cell 6 rfl
    go_wp2_with fail
    clear e0 e1 e2 e3 e4 e5 e6
    refine (HKd.out X S base b B w5 vF.out aal.out JY.out).mono ?_
    rintro e w1 ⟨rfl,S1,B1,hm1,hs1,hf1⟩
    have sD:=hid hm1
    have BI:Hid (iE w S S1):=hid (fun k hk h=>hs1 k (Nat.lt_of_lt_of_le hk HB1.out.size) h)
    have HF2:Hid (iO S b w w1):=hid ((iO.new HB1.out).trans hf1 (iE.refl _ _))
    have HE2:Hid (Box w1 w.heap.size [.int .i64 ev.kind,.int .i64 ev.aV,.int .i64 ev.n,.int .i64 ev.now,.int .i64 ev.m.src,.int .i64 ev.m.dst,.int .i64 ev.m.piece] 71):=hid (nO.out.held hf1 (fun h=>by rcases h with h | h; exact Jg.out h; have h2:w.heap.size=b:=h; have:=HEb.out; omega))
    clear hm1 hs1 hf1 vF nO
    by_cases hz:(M.kind ev).2=0
    rotate_left
    ·have HD2:Hid (M.go ev=(M,(M.kind ev).2)):=hid (by rw [EO.out,if_pos hz])
     have HKb:Hid ((M.kind ev).1=M):=hid (DR M ev hz)
     have hzb:((M.kind ev).2 != 0)=true:=by simpa using hz
     rw [HKb.out] at sD
     clear hz
     generalize (M.kind ev).2=kc at *
     go_wp2_with fail
     go_ret
     exact ⟨by rw [HD2.out]; rfl,S1,B1,by rw [HD2.out]; exact sD.out,BI.out,HF2.out⟩
    have HD3:Hid (M.go ev=(((M.kind ev).1.put ev).over,0)):=hid (by rw [EO.out,if_neg (fun h=>h hz)])
    rw [hz]
    clear hz EO
    have e3:=HE2.out.cell 3 rfl
    have d35:=sD.out.box.cell 35 rfl
    have f35:=sD.out.box.frozen 35
    go_upto_region 16 with (fail)
    have HQ:=hid (sD.out.put (M':=({ (M.kind ev).1 with last:=ev.now }:aP)) (B':=B1) 35 [.int .i64 ev.now] (by simp) rfl rfl rfl rfl (sD.out.rd.imp (fun _ h=>⟨h.rd,h.per,h.pc,h.pr,h.jr⟩)))
    have vG:Hid (aY X S1 base (w1.setCell ⟨b,35,none⟩ (.int .i64 ev.now)) b ({ (M.kind ev).1 with last:=ev.now }:aP) B1):=hid HQ.out.1
    have HF3:Hid (iO S b w (w1.setCell ⟨b,35,none⟩ (.int .i64 ev.now))):=hid (HF2.out.trans HQ.out.2 BI.out)
    have A8:Hid (Box (w1.setCell ⟨b,35,none⟩ (.int .i64 ev.now)) w.heap.size [.int .i64 ev.kind,.int .i64 ev.aV,.int .i64 ev.n,.int .i64 ev.now,.int .i64 ev.m.src,.int .i64 ev.m.dst,.int .i64 ev.m.piece] 71):=hid (HE2.out.far ⟨b,35,none⟩ _ (fun e=>HEq.out e))
    clear HQ sD HE2 e3 d35 f35
    generalize (w1.setCell ⟨b,35,none⟩ (.int .i64 ev.now))=w5' at *
    obtain ⟨w5,hw5⟩:∃ w5,w5=w5':=⟨_,rfl⟩
    rw [← hw5] at vG A8 HF3 ⊢
    clear hw5
    have NZ:=HF3
    have HTb:Hid (∀ {W:World},aY X S1 base W b ({ (M.kind ev).1 with last:=ev.now }:aP) B1→Below w5.heap.size w5 W→Tab W.heap.size W):=hid (fun hm hbl=>Fz.out.mono (Nat.le_trans Fa.out (Nat.le_trans NZ.out.size hbl.size)) ((HM.out.base' NZ.out Fa.out).trans (hbl.mono (Nat.le_trans Fa.out NZ.out.size))))
    have JK:Hid (∀ q,(S1 q∨out1 X b q)→q<w5.heap.size):=hid vG.out.LY
    generalize hq5:w5=wq at *
    have Mz:aY X S1 base wq.drew b ({ (M.kind ev).1 with last:=ev.now }:aP) B1:=vG.out.below (aK (Below.refl _ _))
    have Ez:=A8.out.drew
    have Lz:Below wq.drew.heap.size wq.drew wq.drew:=Below.refl _ _
    have Tn:Hid (iO S1 b wq wq.drew):=hid (Fr.drew (iO.refl _ _ _))
    clear vG A8 HF3
    refine wp_region_noPanic ?_
    refine bI (S:=(fun w'=>w'.cell? ⟨b,36,none⟩=some B1.vj∧w'.cell? ⟨w.heap.size,0,none⟩=some (.int .i64 ev.kind)∧w'.cell? ⟨w.heap.size,1,none⟩=some (.int .i64 ev.aV)∧w'.cell? ⟨w.heap.size,2,none⟩=some (.int .i64 ev.n)∧w'.cell? ⟨w.heap.size,3,none⟩=some (.int .i64 ev.now)∧w'.cell? ⟨w.heap.size,4,none⟩=some (.int .i64 ev.m.src)∧w'.cell? ⟨w.heap.size,5,none⟩=some (.int .i64 ev.m.dst)∧w'.cell? ⟨w.heap.size,6,none⟩=some (.int .i64 ev.m.piece))) (L:=[13]) (by kernel_rfl) (by and_intros <;> first | exact Mz.box.cell _ rfl | exact Ez.cell _ rfl) (fun hHeld=>?_)
    refine aC 0 ?_
    refine aC 1 ?_
    refine dV 5 ?_
    refine aC 2 ?_
    refine aC 3 ?_
    refine dV 4 ?_
    refine fH 6 fun K hK=>?_
    go_simp
    refine (zY HIh.out HJh.out ev _ (HTb.out Mz (aK (Below.refl _ _))) WA.out).mono ?_
    rintro e w6 ⟨rfl,hbb⟩
    have M6:=Mz.below hbb
    have E6:=Ez.stays hbb
    have L6:=ak Lz hbb Lz.size
    clear hbb
    refine hK.out _ _ (by and_intros <;> first | exact M6.box.cell _ rfl | exact E6.cell _ rfl) (fun hHeld=>?_)
    clear hK K
    refine fH 7 fun K hK=>?_
    go_simp
    have zA:=M6.fr.jr
    rw [show (({ (M.kind ev).1 with last:=ev.now }:aP):aP).jr=M.jr from (lM M ev).1] at zA
    refine (uJ B1.vj M.jr (gV ev) _ zA HJo.out (by have:=HJl.out; omega) (by have:=wW ev (oI WA.out); omega)).mono ?_
    rintro e w7 ⟨vn,rfl,uZ,hbb⟩
    have hap:appJ M.jr (gV ev)=(M.jr++[mX M.jr (gV ev)],0):=by unfold appJ; rw [if_neg (by rw [oI WA.out]; decide)]; rfl
    rw [hap] at uZ ⊢
    have EP:w7.ownsRow w6.heap.size 205 2 vn (M.jr.length+1) (iD (M.jr++[mX M.jr (gV ev)])):=by rw [List.length_append] at uZ; exact uZ
    clear uZ
    obtain ⟨ja,jc,rfl⟩:=aG EP
    clear hap
    have M7:=M6.below hbb
    have E7:=E6.stays hbb
    have L7:=ak L6 hbb L6.size
    have O7:w7.ownsRow w6.heap.size 205 2 (.slice ja (M.jr.length+1) jc) ((M.kind ev).1.jr.length+1) (iD ((M.kind ev).1.jr++[mX (M.kind ev).1.jr (gV ev)])):=by rw [(lM M ev).1]; exact EP
    clear hbb
    refine hK.out _ _ (by and_intros <;> first | exact M7.box.cell _ rfl | exact E7.cell _ rfl) (fun hHeld=>?_)
    clear hK K
    refine aC 8 ?_
    refine aC 9 ?_
    refine aC 10 ?_
    refine aC 11 ?_
    refine aC 12 ?_
    refine rP 13 fun K hK=>?_
    have dd:=M7.box.cell 36 rfl
    have df:=M7.box.frozen 36
    go_simp
    refine aQ ?_
    intro qO e13
    clear dd df
    have RN:=M7.put (M':=((M.kind ev).1.put ev)) (B':={ B1 with vj:=.slice ja (M.jr.length+1) jc }) 36 [.slice ja (M.jr.length+1) jc] (by simp) rfl rfl rfl rfl (fun w' hw=>⟨(M7.rd w' hw).rd,(M7.rd w' hw).per,(M7.rd w' hw).pc,(M7.rd w' hw).pr,I8 (fC O7 hw (fun q hq h=>by have h1:=(O7.lt q hq).1; have h2:=JK.out q h; have h3:=L6.size; have h4:wq.heap.size≤w6.heap.size:=h3; omega))⟩)
    have M13:aY X S1 base qO b ((M.kind ev).1.put ev) { B1 with vj:=.slice ja (M.jr.length+1) jc }:=by rw [e13]; exact RN.1
    have N7:iO S1 b wq.drew qO:=by rw [e13]; exact (iO.new L7).trans RN.2 (iE.refl _ _)
    have E13:Box qO (w.heap.size) [.int .i64 ev.kind,.int .i64 ev.aV,.int .i64 ev.n,.int .i64 ev.now,.int .i64 ev.m.src,.int .i64 ev.m.dst,.int .i64 ev.m.piece] 71:=by rw [e13]; exact E7.far ⟨b,36,none⟩ _ (fun e=>HEq.out e)
    clear RN e13
    refine hK.out _ _ ?_
    clear hK K
    refine jC ?_
    have VL:=hid M13
    have VN:Hid (iO S1 b wq qO):=hid (Tn.out.trans N7 (iE.refl _ _))
    clear M6 E6 L6 M7 E7 L7 M13 E13 N7 O7 EP Mz Ez Lz hHeld Tn zA
    generalize qO=w8 at *
    go_wp2_with fail
    refine (yK qo.out w8 VL.out).mono ?_
    rintro e w9 ⟨rfl,S2,B2,hm9,hs9,hf9⟩
    have kV:=hid hm9
    have HS9:Hid (iE w S S2):=hid (fun k hk h=>BI.out k hk (hs9 k (Nat.lt_of_lt_of_le hk (Nat.le_trans NZ.out.size VN.out.size)) h))
    have JW:Hid (iO S b w w9):=hid ((NZ.out.trans VN.out BI.out).trans hf9 BI.out)
    clear hm9 hs9 hf9
    go_wp2_with fail
    go_ret
    exact ⟨by rw [HD3.out]; rfl,S2,B2,by rw [HD3.out]; exact kV.out,HS9.out,JW.out⟩
   have hfb:0≤(bH M.CR M.clk ev.now).ay:=by omega
   by_cases h4:ev.kind=4
   ·have yQ:Hid (M.mJ ev=0):=hid (by rw [OJ.out,if_neg (by omega)])
    have h4b:(ev.kind != 4)=false:=by simpa using h4
    have h45:(ev.kind == 5)=false:=by simp; omega
    clear hf h4
    generalize (bH M.CR M.clk ev.now).ay=lf at *
    have JY:Hid (EvPre M ev):=hid (Cb HIv.out yQ.out)
    have EO:Hid (M.go ev=if (M.kind ev).2≠0 then (M,(M.kind ev).2) else (((M.kind ev).1.put ev).over,0)):=hid (by rw [HDG.out,if_neg (fun h=>h yQ.out)])
    have aal:Hid (base≤w5.heap.size):=hid (Nat.le_trans Fa.out HB1.out.size)
    go_upto_region 12 with (fail)
    have e0:=nO.out.cell 0 rfl
    have e1:=nO.out.cell 1 rfl
    have e2:=nO.out.cell 2 rfl
    have e3:=nO.out.cell 3 rfl
    have e4:=nO.out.cell 4 rfl
    have e5:=nO.out.cell 5 rfl
    have e6:=nO.out.cell 6 rfl
    go_wp2_with fail
    clear e0 e1 e2 e3 e4 e5 e6
    refine (HKd.out X S base b B w5 vF.out aal.out JY.out).mono ?_
    rintro e w1 ⟨rfl,S1,B1,hm1,hs1,hf1⟩
    have sD:=hid hm1
    have BI:Hid (iE w S S1):=hid (fun k hk h=>hs1 k (Nat.lt_of_lt_of_le hk HB1.out.size) h)
    have HF2:Hid (iO S b w w1):=hid ((iO.new HB1.out).trans hf1 (iE.refl _ _))
    have HE2:Hid (Box w1 w.heap.size [.int .i64 ev.kind,.int .i64 ev.aV,.int .i64 ev.n,.int .i64 ev.now,.int .i64 ev.m.src,.int .i64 ev.m.dst,.int .i64 ev.m.piece] 71):=hid (nO.out.held hf1 (fun h=>by rcases h with h | h; exact Jg.out h; have h2:w.heap.size=b:=h; have:=HEb.out; omega))
    clear hm1 hs1 hf1 vF nO
    by_cases hz:(M.kind ev).2=0
    rotate_left
    ·have HD2:Hid (M.go ev=(M,(M.kind ev).2)):=hid (by rw [EO.out,if_pos hz])
     have HKb:Hid ((M.kind ev).1=M):=hid (DR M ev hz)
     have hzb:((M.kind ev).2 != 0)=true:=by simpa using hz
     rw [HKb.out] at sD
     clear hz
     generalize (M.kind ev).2=kc at *
     go_wp2_with fail
     go_ret
     exact ⟨by rw [HD2.out]; rfl,S1,B1,by rw [HD2.out]; exact sD.out,BI.out,HF2.out⟩
    have HD3:Hid (M.go ev=(((M.kind ev).1.put ev).over,0)):=hid (by rw [EO.out,if_neg (fun h=>h hz)])
    rw [hz]
    clear hz EO
    have e3:=HE2.out.cell 3 rfl
    have d35:=sD.out.box.cell 35 rfl
    have f35:=sD.out.box.frozen 35
    go_upto_region 16 with (fail)
    have HQ:=hid (sD.out.put (M':=({ (M.kind ev).1 with last:=ev.now }:aP)) (B':=B1) 35 [.int .i64 ev.now] (by simp) rfl rfl rfl rfl (sD.out.rd.imp (fun _ h=>⟨h.rd,h.per,h.pc,h.pr,h.jr⟩)))
    have vG:Hid (aY X S1 base (w1.setCell ⟨b,35,none⟩ (.int .i64 ev.now)) b ({ (M.kind ev).1 with last:=ev.now }:aP) B1):=hid HQ.out.1
    have HF3:Hid (iO S b w (w1.setCell ⟨b,35,none⟩ (.int .i64 ev.now))):=hid (HF2.out.trans HQ.out.2 BI.out)
    have A8:Hid (Box (w1.setCell ⟨b,35,none⟩ (.int .i64 ev.now)) w.heap.size [.int .i64 ev.kind,.int .i64 ev.aV,.int .i64 ev.n,.int .i64 ev.now,.int .i64 ev.m.src,.int .i64 ev.m.dst,.int .i64 ev.m.piece] 71):=hid (HE2.out.far ⟨b,35,none⟩ _ (fun e=>HEq.out e))
    clear HQ sD HE2 e3 d35 f35
    generalize (w1.setCell ⟨b,35,none⟩ (.int .i64 ev.now))=w5' at *
    obtain ⟨w5,hw5⟩:∃ w5,w5=w5':=⟨_,rfl⟩
    rw [← hw5] at vG A8 HF3 ⊢
    clear hw5
    have NZ:=HF3
    have HTb:Hid (∀ {W:World},aY X S1 base W b ({ (M.kind ev).1 with last:=ev.now }:aP) B1→Below w5.heap.size w5 W→Tab W.heap.size W):=hid (fun hm hbl=>Fz.out.mono (Nat.le_trans Fa.out (Nat.le_trans NZ.out.size hbl.size)) ((HM.out.base' NZ.out Fa.out).trans (hbl.mono (Nat.le_trans Fa.out NZ.out.size))))
    have JK:Hid (∀ q,(S1 q∨out1 X b q)→q<w5.heap.size):=hid vG.out.LY
    generalize hq5:w5=wq at *
    have Mz:aY X S1 base wq.drew b ({ (M.kind ev).1 with last:=ev.now }:aP) B1:=vG.out.below (aK (Below.refl _ _))
    have Ez:=A8.out.drew
    have Lz:Below wq.drew.heap.size wq.drew wq.drew:=Below.refl _ _
    have Tn:Hid (iO S1 b wq wq.drew):=hid (Fr.drew (iO.refl _ _ _))
    clear vG A8 HF3
    refine wp_region_noPanic ?_
    refine bI (S:=(fun w'=>w'.cell? ⟨b,36,none⟩=some B1.vj∧w'.cell? ⟨w.heap.size,0,none⟩=some (.int .i64 ev.kind)∧w'.cell? ⟨w.heap.size,1,none⟩=some (.int .i64 ev.aV)∧w'.cell? ⟨w.heap.size,2,none⟩=some (.int .i64 ev.n)∧w'.cell? ⟨w.heap.size,3,none⟩=some (.int .i64 ev.now)∧w'.cell? ⟨w.heap.size,4,none⟩=some (.int .i64 ev.m.src)∧w'.cell? ⟨w.heap.size,5,none⟩=some (.int .i64 ev.m.dst)∧w'.cell? ⟨w.heap.size,6,none⟩=some (.int .i64 ev.m.piece))) (L:=[13]) (by kernel_rfl) (by and_intros <;> first | exact Mz.box.cell _ rfl | exact Ez.cell _ rfl) (fun hHeld=>?_)
    refine aC 0 ?_
    refine aC 1 ?_
    refine dV 5 ?_
    refine aC 2 ?_
    refine aC 3 ?_
    refine dV 4 ?_
    refine fH 6 fun K hK=>?_
    go_simp
    refine (zY HIh.out HJh.out ev _ (HTb.out Mz (aK (Below.refl _ _))) WA.out).mono ?_
    rintro e w6 ⟨rfl,hbb⟩
    have M6:=Mz.below hbb
    have E6:=Ez.stays hbb
    have L6:=ak Lz hbb Lz.size
    clear hbb
    refine hK.out _ _ (by and_intros <;> first | exact M6.box.cell _ rfl | exact E6.cell _ rfl) (fun hHeld=>?_)
    clear hK K
    refine fH 7 fun K hK=>?_
    go_simp
    have zA:=M6.fr.jr
    rw [show (({ (M.kind ev).1 with last:=ev.now }:aP):aP).jr=M.jr from (lM M ev).1] at zA
    refine (uJ B1.vj M.jr (gV ev) _ zA HJo.out (by have:=HJl.out; omega) (by have:=wW ev (oI WA.out); omega)).mono ?_
    rintro e w7 ⟨vn,rfl,uZ,hbb⟩
    have hap:appJ M.jr (gV ev)=(M.jr++[mX M.jr (gV ev)],0):=by unfold appJ; rw [if_neg (by rw [oI WA.out]; decide)]; rfl
    rw [hap] at uZ ⊢
    have EP:w7.ownsRow w6.heap.size 205 2 vn (M.jr.length+1) (iD (M.jr++[mX M.jr (gV ev)])):=by rw [List.length_append] at uZ; exact uZ
    clear uZ
    obtain ⟨ja,jc,rfl⟩:=aG EP
    clear hap
    have M7:=M6.below hbb
    have E7:=E6.stays hbb
    have L7:=ak L6 hbb L6.size
    have O7:w7.ownsRow w6.heap.size 205 2 (.slice ja (M.jr.length+1) jc) ((M.kind ev).1.jr.length+1) (iD ((M.kind ev).1.jr++[mX (M.kind ev).1.jr (gV ev)])):=by rw [(lM M ev).1]; exact EP
    clear hbb
    refine hK.out _ _ (by and_intros <;> first | exact M7.box.cell _ rfl | exact E7.cell _ rfl) (fun hHeld=>?_)
    clear hK K
    refine aC 8 ?_
    refine aC 9 ?_
    refine aC 10 ?_
    refine aC 11 ?_
    refine aC 12 ?_
    refine rP 13 fun K hK=>?_
    have dd:=M7.box.cell 36 rfl
    have df:=M7.box.frozen 36
    go_simp
    refine aQ ?_
    intro qO e13
    clear dd df
    have RN:=M7.put (M':=((M.kind ev).1.put ev)) (B':={ B1 with vj:=.slice ja (M.jr.length+1) jc }) 36 [.slice ja (M.jr.length+1) jc] (by simp) rfl rfl rfl rfl (fun w' hw=>⟨(M7.rd w' hw).rd,(M7.rd w' hw).per,(M7.rd w' hw).pc,(M7.rd w' hw).pr,I8 (fC O7 hw (fun q hq h=>by have h1:=(O7.lt q hq).1; have h2:=JK.out q h; have h3:=L6.size; have h4:wq.heap.size≤w6.heap.size:=h3; omega))⟩)
    have M13:aY X S1 base qO b ((M.kind ev).1.put ev) { B1 with vj:=.slice ja (M.jr.length+1) jc }:=by rw [e13]; exact RN.1
    have N7:iO S1 b wq.drew qO:=by rw [e13]; exact (iO.new L7).trans RN.2 (iE.refl _ _)
    have E13:Box qO (w.heap.size) [.int .i64 ev.kind,.int .i64 ev.aV,.int .i64 ev.n,.int .i64 ev.now,.int .i64 ev.m.src,.int .i64 ev.m.dst,.int .i64 ev.m.piece] 71:=by rw [e13]; exact E7.far ⟨b,36,none⟩ _ (fun e=>HEq.out e)
    clear RN e13
    refine hK.out _ _ ?_
    clear hK K
    refine jC ?_
    have VL:=hid M13
    have VN:Hid (iO S1 b wq qO):=hid (Tn.out.trans N7 (iE.refl _ _))
    clear M6 E6 L6 M7 E7 L7 M13 E13 N7 O7 EP Mz Ez Lz hHeld Tn zA
    generalize qO=w8 at *
    go_wp2_with fail
    refine (yK qo.out w8 VL.out).mono ?_
    rintro e w9 ⟨rfl,S2,B2,hm9,hs9,hf9⟩
    have kV:=hid hm9
    have HS9:Hid (iE w S S2):=hid (fun k hk h=>BI.out k hk (hs9 k (Nat.lt_of_lt_of_le hk (Nat.le_trans NZ.out.size VN.out.size)) h))
    have JW:Hid (iO S b w w9):=hid ((NZ.out.trans VN.out BI.out).trans hf9 BI.out)
    clear hm9 hs9 hf9
    go_wp2_with fail
    go_ret
    exact ⟨by rw [HD3.out]; rfl,S2,B2,by rw [HD3.out]; exact kV.out,HS9.out,JW.out⟩
   have h4b:(ev.kind != 4)=true:=by simpa using h4
   by_cases h52:ev.kind=5∧ev.n=2
   ·have yQ:Hid (M.mJ ev=0):=hid (by rw [OJ.out,if_neg (fun h=>h.2.2 h52)])
    have h5b:(ev.kind == 5)=true:=by simpa using h52.1
    have hn2:(ev.n == 2)=true:=by simpa using h52.2
    clear hf h4 h52
    generalize (bH M.CR M.clk ev.now).ay=lf at *
    have JY:Hid (EvPre M ev):=hid (Cb HIv.out yQ.out)
    have EO:Hid (M.go ev=if (M.kind ev).2≠0 then (M,(M.kind ev).2) else (((M.kind ev).1.put ev).over,0)):=hid (by rw [HDG.out,if_neg (fun h=>h yQ.out)])
    have aal:Hid (base≤w5.heap.size):=hid (Nat.le_trans Fa.out HB1.out.size)
    go_upto_region 12 with (fail)
    have e0:=nO.out.cell 0 rfl
    have e1:=nO.out.cell 1 rfl
    have e2:=nO.out.cell 2 rfl
    have e3:=nO.out.cell 3 rfl
    have e4:=nO.out.cell 4 rfl
    have e5:=nO.out.cell 5 rfl
    have e6:=nO.out.cell 6 rfl
    go_wp2_with fail
    clear e0 e1 e2 e3 e4 e5 e6
    refine (HKd.out X S base b B w5 vF.out aal.out JY.out).mono ?_
    rintro e w1 ⟨rfl,S1,B1,hm1,hs1,hf1⟩
    have sD:=hid hm1
    have BI:Hid (iE w S S1):=hid (fun k hk h=>hs1 k (Nat.lt_of_lt_of_le hk HB1.out.size) h)
    have HF2:Hid (iO S b w w1):=hid ((iO.new HB1.out).trans hf1 (iE.refl _ _))
    have HE2:Hid (Box w1 w.heap.size [.int .i64 ev.kind,.int .i64 ev.aV,.int .i64 ev.n,.int .i64 ev.now,.int .i64 ev.m.src,.int .i64 ev.m.dst,.int .i64 ev.m.piece] 71):=hid (nO.out.held hf1 (fun h=>by rcases h with h | h; exact Jg.out h; have h2:w.heap.size=b:=h; have:=HEb.out; omega))
    clear hm1 hs1 hf1 vF nO
    by_cases hz:(M.kind ev).2=0
    rotate_left
    ·have HD2:Hid (M.go ev=(M,(M.kind ev).2)):=hid (by rw [EO.out,if_pos hz])
     have HKb:Hid ((M.kind ev).1=M):=hid (DR M ev hz)
     have hzb:((M.kind ev).2 != 0)=true:=by simpa using hz
     rw [HKb.out] at sD
     clear hz
     generalize (M.kind ev).2=kc at *
     go_wp2_with fail
     go_ret
     exact ⟨by rw [HD2.out]; rfl,S1,B1,by rw [HD2.out]; exact sD.out,BI.out,HF2.out⟩
    have HD3:Hid (M.go ev=(((M.kind ev).1.put ev).over,0)):=hid (by rw [EO.out,if_neg (fun h=>h hz)])
    rw [hz]
    clear hz EO
    have e3:=HE2.out.cell 3 rfl
    have d35:=sD.out.box.cell 35 rfl
    have f35:=sD.out.box.frozen 35
    go_upto_region 16 with (fail)
    have HQ:=hid (sD.out.put (M':=({ (M.kind ev).1 with last:=ev.now }:aP)) (B':=B1) 35 [.int .i64 ev.now] (by simp) rfl rfl rfl rfl (sD.out.rd.imp (fun _ h=>⟨h.rd,h.per,h.pc,h.pr,h.jr⟩)))
    have vG:Hid (aY X S1 base (w1.setCell ⟨b,35,none⟩ (.int .i64 ev.now)) b ({ (M.kind ev).1 with last:=ev.now }:aP) B1):=hid HQ.out.1
    have HF3:Hid (iO S b w (w1.setCell ⟨b,35,none⟩ (.int .i64 ev.now))):=hid (HF2.out.trans HQ.out.2 BI.out)
    have A8:Hid (Box (w1.setCell ⟨b,35,none⟩ (.int .i64 ev.now)) w.heap.size [.int .i64 ev.kind,.int .i64 ev.aV,.int .i64 ev.n,.int .i64 ev.now,.int .i64 ev.m.src,.int .i64 ev.m.dst,.int .i64 ev.m.piece] 71):=hid (HE2.out.far ⟨b,35,none⟩ _ (fun e=>HEq.out e))
    clear HQ sD HE2 e3 d35 f35
    generalize (w1.setCell ⟨b,35,none⟩ (.int .i64 ev.now))=w5' at *
    obtain ⟨w5,hw5⟩:∃ w5,w5=w5':=⟨_,rfl⟩
    rw [← hw5] at vG A8 HF3 ⊢
    clear hw5
    have NZ:=HF3
    have HTb:Hid (∀ {W:World},aY X S1 base W b ({ (M.kind ev).1 with last:=ev.now }:aP) B1→Below w5.heap.size w5 W→Tab W.heap.size W):=hid (fun hm hbl=>Fz.out.mono (Nat.le_trans Fa.out (Nat.le_trans NZ.out.size hbl.size)) ((HM.out.base' NZ.out Fa.out).trans (hbl.mono (Nat.le_trans Fa.out NZ.out.size))))
    have JK:Hid (∀ q,(S1 q∨out1 X b q)→q<w5.heap.size):=hid vG.out.LY
    generalize hq5:w5=wq at *
    have Mz:aY X S1 base wq.drew b ({ (M.kind ev).1 with last:=ev.now }:aP) B1:=vG.out.below (aK (Below.refl _ _))
    have Ez:=A8.out.drew
    have Lz:Below wq.drew.heap.size wq.drew wq.drew:=Below.refl _ _
    have Tn:Hid (iO S1 b wq wq.drew):=hid (Fr.drew (iO.refl _ _ _))
    clear vG A8 HF3
    refine wp_region_noPanic ?_
    refine bI (S:=(fun w'=>w'.cell? ⟨b,36,none⟩=some B1.vj∧w'.cell? ⟨w.heap.size,0,none⟩=some (.int .i64 ev.kind)∧w'.cell? ⟨w.heap.size,1,none⟩=some (.int .i64 ev.aV)∧w'.cell? ⟨w.heap.size,2,none⟩=some (.int .i64 ev.n)∧w'.cell? ⟨w.heap.size,3,none⟩=some (.int .i64 ev.now)∧w'.cell? ⟨w.heap.size,4,none⟩=some (.int .i64 ev.m.src)∧w'.cell? ⟨w.heap.size,5,none⟩=some (.int .i64 ev.m.dst)∧w'.cell? ⟨w.heap.size,6,none⟩=some (.int .i64 ev.m.piece))) (L:=[13]) (by kernel_rfl) (by and_intros <;> first | exact Mz.box.cell _ rfl | exact Ez.cell _ rfl) (fun hHeld=>?_)
    refine aC 0 ?_
    refine aC 1 ?_
    refine dV 5 ?_
    refine aC 2 ?_
    refine aC 3 ?_
    refine dV 4 ?_
    refine fH 6 fun K hK=>?_
    go_simp
    refine (zY HIh.out HJh.out ev _ (HTb.out Mz (aK (Below.refl _ _))) WA.out).mono ?_
    rintro e w6 ⟨rfl,hbb⟩
    have M6:=Mz.below hbb
    have E6:=Ez.stays hbb
    have L6:=ak Lz hbb Lz.size
    clear hbb
    refine hK.out _ _ (by and_intros <;> first | exact M6.box.cell _ rfl | exact E6.cell _ rfl) (fun hHeld=>?_)
    clear hK K
    refine fH 7 fun K hK=>?_
    go_simp
    have zA:=M6.fr.jr
    rw [show (({ (M.kind ev).1 with last:=ev.now }:aP):aP).jr=M.jr from (lM M ev).1] at zA
    refine (uJ B1.vj M.jr (gV ev) _ zA HJo.out (by have:=HJl.out; omega) (by have:=wW ev (oI WA.out); omega)).mono ?_
    rintro e w7 ⟨vn,rfl,uZ,hbb⟩
    have hap:appJ M.jr (gV ev)=(M.jr++[mX M.jr (gV ev)],0):=by unfold appJ; rw [if_neg (by rw [oI WA.out]; decide)]; rfl
    rw [hap] at uZ ⊢
    have EP:w7.ownsRow w6.heap.size 205 2 vn (M.jr.length+1) (iD (M.jr++[mX M.jr (gV ev)])):=by rw [List.length_append] at uZ; exact uZ
    clear uZ
    obtain ⟨ja,jc,rfl⟩:=aG EP
    clear hap
    have M7:=M6.below hbb
    have E7:=E6.stays hbb
    have L7:=ak L6 hbb L6.size
    have O7:w7.ownsRow w6.heap.size 205 2 (.slice ja (M.jr.length+1) jc) ((M.kind ev).1.jr.length+1) (iD ((M.kind ev).1.jr++[mX (M.kind ev).1.jr (gV ev)])):=by rw [(lM M ev).1]; exact EP
    clear hbb
    refine hK.out _ _ (by and_intros <;> first | exact M7.box.cell _ rfl | exact E7.cell _ rfl) (fun hHeld=>?_)
    clear hK K
    refine aC 8 ?_
    refine aC 9 ?_
    refine aC 10 ?_
    refine aC 11 ?_
    refine aC 12 ?_
    refine rP 13 fun K hK=>?_
    have dd:=M7.box.cell 36 rfl
    have df:=M7.box.frozen 36
    go_simp
    refine aQ ?_
    intro qO e13
    clear dd df
    have RN:=M7.put (M':=((M.kind ev).1.put ev)) (B':={ B1 with vj:=.slice ja (M.jr.length+1) jc }) 36 [.slice ja (M.jr.length+1) jc] (by simp) rfl rfl rfl rfl (fun w' hw=>⟨(M7.rd w' hw).rd,(M7.rd w' hw).per,(M7.rd w' hw).pc,(M7.rd w' hw).pr,I8 (fC O7 hw (fun q hq h=>by have h1:=(O7.lt q hq).1; have h2:=JK.out q h; have h3:=L6.size; have h4:wq.heap.size≤w6.heap.size:=h3; omega))⟩)
    have M13:aY X S1 base qO b ((M.kind ev).1.put ev) { B1 with vj:=.slice ja (M.jr.length+1) jc }:=by rw [e13]; exact RN.1
    have N7:iO S1 b wq.drew qO:=by rw [e13]; exact (iO.new L7).trans RN.2 (iE.refl _ _)
    have E13:Box qO (w.heap.size) [.int .i64 ev.kind,.int .i64 ev.aV,.int .i64 ev.n,.int .i64 ev.now,.int .i64 ev.m.src,.int .i64 ev.m.dst,.int .i64 ev.m.piece] 71:=by rw [e13]; exact E7.far ⟨b,36,none⟩ _ (fun e=>HEq.out e)
    clear RN e13
    refine hK.out _ _ ?_
    clear hK K
    refine jC ?_
    have VL:=hid M13
    have VN:Hid (iO S1 b wq qO):=hid (Tn.out.trans N7 (iE.refl _ _))
    clear M6 E6 L6 M7 E7 L7 M13 E13 N7 O7 EP Mz Ez Lz hHeld Tn zA
    generalize qO=w8 at *
    go_wp2_with fail
    refine (yK qo.out w8 VL.out).mono ?_
    rintro e w9 ⟨rfl,S2,B2,hm9,hs9,hf9⟩
    have kV:=hid hm9
    have HS9:Hid (iE w S S2):=hid (fun k hk h=>BI.out k hk (hs9 k (Nat.lt_of_lt_of_le hk (Nat.le_trans NZ.out.size VN.out.size)) h))
    have JW:Hid (iO S b w w9):=hid ((NZ.out.trans VN.out BI.out).trans hf9 BI.out)
    clear hm9 hs9 hf9
    go_wp2_with fail
    go_ret
    exact ⟨by rw [HD3.out]; rfl,S2,B2,by rw [HD3.out]; exact kV.out,HS9.out,JW.out⟩
   have yQ:Hid (M.mJ ev=11):=hid (by rw [OJ.out,if_pos ⟨hfb,h4,h52⟩])
   have HD2:Hid (M.go ev=(M,11)):=hid (by rw [HDG.out,if_pos (by rw [yQ.out]; decide),yQ.out])
   by_cases h5:ev.kind=5
   ·have h5b:(ev.kind == 5)=true:=by simpa using h5
    have hn2:(ev.n == 2)=false:=by simp; exact fun h=>h52 ⟨h5,h⟩
    clear hf h4 h52 h5
    generalize (bH M.CR M.clk ev.now).ay=lf at *
    go_wp2_with fail
    go_ret
    exact ⟨by rw [HD2.out]; rfl,S,B,by rw [HD2.out]; exact vF.out,iE.refl _ _,iO.new HB1.out⟩
   ·have h5b:(ev.kind == 5)=false:=by simpa using h5
    clear hf h4 h52 h5
    generalize (bH M.CR M.clk ev.now).ay=lf at *
    go_wp2_with fail
    go_ret
    exact ⟨by rw [HD2.out]; rfl,S,B,by rw [HD2.out]; exact vF.out,iE.refl _ _,iO.new HB1.out⟩
end Go.Proofs.YteablcielclaeaaGreatDoor
namespace Go.Proofs.YteablcielclaeaaGreatDoor
open Go.ChangeShapes Go.WideShapes Go.ChangeAt Go.RowKit
set_option linter.unusedVariables false
open Go.Lib (hid)
theorem CB:(jW fE fG 0).clk=aI fG 0∧(jW fE fG 0).CR=fG:=by
 unfold jW aP.over
 constructor <;> ((repeat' split) <;> rfl)
theorem aam:JJ (jW fE fG 0).CR (jW fE fG 0).clk gI.now:=by
 rw [CB.1,CB.2]
 exact VJ _ _ _ (by decide) rfl (by decide)
theorem VQ:zn (jW fE fG 0).CR (jW fE fG 0).clk gI.now:=by
 rw [CB.1,CB.2]
 exact Q9 _ _ _ rfl
variable {X S:Nat→Prop} {base b:Nat} {M:aP} {B:kM}
theorem aan (HS:SortMvSaid) (HI:ItoaSaid) (HJ:qG) (ev:yA) (k0:ev.kind=0) (hp0:M.aX=[]) (HLk:JJ M.CR M.clk ev.now) (OJ:zn M.CR M.clk ev.now) (w:World) (h:aY X S base w b M B) (hb:base≤w.heap.size) (hi:MInv M) (hjl:M.jr.length<90) (ht:Tab base w) (hok:Ut ev):Calls Tryz.prog 16 #[.pointer (some ⟨b,0,none⟩),.agg #[.int .i64 ev.kind,.int .i64 ev.aV,.int .i64 ev.n,.int .i64 ev.now,.int .i64 ev.m.src,.int .i64 ev.m.dst,.int .i64 ev.m.piece]] w fun e w'=>e=.returned (.int .i64 (M.go ev).2)∧AZ X S base b w (M.go ev).1 w':=
 ade ev HLk (fun X S base b B w h hb hp=>UW ev k0 (fun w h hb hm hg=>NW (P:=fun l=>l=[]) (fun R p l h=>by subst h; rfl) (fun R vp vs ve p vc v0 v1 v l w h0 hr hn hp hl _=>FH R vp vs ve p vc v0 v1 v l w h0 hr hn hp hl) (fun R p l h=>by subst h; rfl) hp0 HS ev OJ w h hb hm hg) w h hb hp) HS HI HJ w h hb hi hjl ht hok
set_option maxRecDepth 100000 in
set_option maxHeartbeats 8000000 in
theorem JL (HH:afr) (w:World) (ht:Tab w.heap.size w):Calls Tryz.prog 5 #[] w fun e w'=>e=.returned (.bool true)∧Below w.heap.size w w':=by
 have HSo:=HH.so
 have HI:=HH.it
 have HJ:=HH.jm
 have WB:=hid HH
 clear HH
 have HS:=hid HSo
 have HIt:=hid HI
 have HJo:=hid HJ
 have Fz:=hid ht
 clear HSo HI HJ ht
 go_enter Tryz.func5,Tryz.ntmps5
 go_upto_region 1 with (fail)
 go_wp2_with fail
 refine (Af _).mono ?_
 rintro e w1 ⟨vp,vs,ve,rfl,hr,hb1⟩
 have HR:=hid hr
 have HB1:=hid hb1
 clear hr hb1
 go_wp2_with fail
 refine (Jh _).mono ?_
 rintro e w2 ⟨rfl,hp,hb2⟩
 have HR2:=hid (HR.out.below hb2 (Nat.le_refl _))
 have HB2:=hid (HB1.out.trans (hb2.mono HB1.out.size))
 have HP:=hid hp
 have HT2:=hid (Fz.out.mono HB2.out.size HB2.out)
 have hpm:w1.heap.size+1<w2.heap.size:=by
  obtain ⟨g,o,hg,hlt,_⟩:=hp.2 (by decide)
  cases hg
  exact hlt
 clear hb2 hp HR
 go_wp2_with fail
 refine (Yx HS.out HIt.out fE fG vp vs ve (some ⟨w1.heap.size+1,0,none⟩) 1 0 w2 HR2.out (by decide +kernel) HP.out (by decide) (by decide) (by decide) (by decide) HT2.out).mono ?_
 rintro e w3 (⟨c,⟨_,hbad⟩,rfl,_⟩ | ⟨_,hcg,base,S,b,B,rfl,hm,hb0,hb1,hb3⟩)
 ·exact absurd hbad YF
 obtain ⟨M0,hM0,aky,apH,apI,hg1,hg2,hg3⟩:=MH
 have hp0:M0.aX=[]:=by rw [← hM0]; unfold jW aP.over; (repeat' split) <;> rfl
 rw [hM0] at hm
 have HM:=hid hm
 have HB3:=hid (HB2.out.trans (hb3.mono HB2.out.size))
 have Fa:=hid hb1
 have HT3:=hid (Fz.out.mono (Nat.le_trans HB2.out.size hb0) HB3.out)
 have hbw:w.heap.size≤base:=Nat.le_trans HB2.out.size hb0
 clear hm hb0 hb1 hb3
 go_upto_region 5 with (fail)
 have Ov:=hid (Box.new w3 [.int .i64 (-1),.int .i64 4,.int .i64 0] 68)
 have hb4:Below w3.heap.size w3 (w3.alloc (.cells #[.int .i64 (-1),.int .i64 4,.int .i64 0] 68)):=(Below.refl _ _).alloc (Nat.le_refl _) _
 have HM4:=hid (HM.out.below hb4)
 have HB4:=hid (HB3.out.trans (hb4.mono HB3.out.size))
 have akz:=hid (Nat.le_trans Fa.out hb4.size)
 have HT4:=hid (HT3.out.below (hb4.mono Fa.out))
 have JK:Hid (∀ q,S q∨one1 b q→q<w3.heap.size):=hid (fun q hq=>HM.out.aod q hq)
 obtain ⟨xb,hxb⟩:∃ xb,xb=w3.heap.size:=⟨_,rfl⟩
 rw [← hxb] at Ov JK
 generalize (w3.alloc (.cells #[.int .i64 (-1),.int .i64 4,.int .i64 0] 68))=w4 at *
 rw [← hxb]
 clear hb4 HM HT3 hxb
 have x0:=Ov.out.cell 0 rfl
 have x1:=Ov.out.cell 1 rfl
 have x2:=Ov.out.cell 2 rfl
 go_wp2_with fail
 refine (aan HS.out HIt.out HJo.out gI rfl hp0 (by rw [← hM0]; exact aam) (by rw [← hM0]; exact VQ) w4 HM4.out akz.out aky apH HT4.out YG).mono ?_
 rintro e w5 ⟨rfl,S5,B5,hm5,hs5,hf5⟩
 rw [hg1]
 have Ye:=hid (Ov.out.held hf5 (fun hc=>by have:=JK.out _ hc; omega))
 have VL:=hid hm5
 have EY:=hid (HB4.out.trans ((aY.base' HM4.out hf5 akz.out).mono hbw))
 have Wx:=hid (acg aky apI YG)
 generalize (M0.go gI).1=M5 at *
 have HG2:=hid hg2
 clear hm5 hs5 hf5 HM4 HB4 Ov JK hg2 hg3 x0 x1 x2
 go_upto_region 6 with (fail)
 generalize w5=wq at *
 have Mz:=VL.out.below (aK (Below.refl _ _))
 have Xz:=Ye.out.drew
 have Lz:Below w.heap.size w wq.drew:=aK EY.out
 clear VL Ye EY
 refine wp_region_noPanic ?_
 refine bI (S:=(fun w'=>w'.cell? ⟨xb,0,none⟩=some (.int .i64 (-1))∧w'.cell? ⟨xb,1,none⟩=some (.int .i64 4)∧w'.cell? ⟨xb,2,none⟩=some (.int .i64 0))) (L:=[]) (by kernel_rfl) (by and_intros <;> exact Xz.cell _ rfl) (fun hHeld=>?_)
 refine dV 1 ?_
 refine aC 2 ?_
 refine Tv (rs:=[0,3]) ?_
 refine (aU.cons (by first | (simp only [List.getElem?_toArray,List.getElem?_cons_zero,List.getElem?_cons_succ] <;> rfl) | rfl) (fun K hK=>?_) (aU.cons (by first | (simp only [List.getElem?_toArray,List.getElem?_cons_zero,List.getElem?_cons_succ] <;> rfl) | rfl) (fun K hK=>?_) aU.nil))
 ·skip
  go_simp
  refine (Af _).mono ?_
  rintro e w80 ⟨vp',vs',ve',rfl,R80,hbb⟩
  have X80:=Xz.stays hbb
  have M80:=Mz.below hbb
  have L80:=Lz.trans (hbb.mono Lz.size)
  clear hbb
  refine hK.out _ _ (by and_intros <;> exact X80.cell _ rfl) (fun hHeld=>?_)
  clear hK K
  refine fH 3 fun K hK=>?_
  go_simp
  refine aQ ?_
  intro w83 e83
  have hbb:Below w80.heap.size w80 w83:=by rw [e83]; exact (Below.refl _ _).alloc (Nat.le_refl _) _
  have N83:Box w83 (w80.heap.size) [.int .i64 (-1),.int .i64 (-1),.int .i64 4,.int .i64 0,.string ByteArray.empty] 75:=by rw [e83]; exact Box.new' _ _ _ _ rfl
  have X83:=X80.stays hbb
  have M83:=M80.below hbb
  have L83:=L80.trans (hbb.mono L80.size)
  have R83:=R80.below hbb (Nat.le_refl _)
  clear hbb e83
  refine hK.out _ _ (by and_intros <;> exact X83.cell _ rfl) (fun hHeld=>?_)
  clear hK K
  refine aC 4 ?_
  refine fH 5 fun K hK=>?_
  go_simp
  refine (rz.NU (m:=gI.m) WB.out.so WB.out.jb WB.out.wr WB.out.ln WB.out.st fE vp' vs' ve' w83 R83 (by decide +kernel) N83 qB Sz Jc (by have:=GU (qx qB); omega) [83,64,98,50] one_one (by decide)).mono ?_
  rw [NV]
  rintro e w85 ⟨rfl,hbb⟩
  have X85:=X83.stays hbb
  have M85:=M83.below hbb
  have L85:=L83.trans (hbb.mono L83.size)
  clear hbb
  refine hK.out _ _ (by and_intros <;> exact X85.cell _ rfl) (fun hHeld=>?_)
  clear hK K
  refine aC 6 ?_
  refine aC 7 ?_
  refine aC 8 ?_
  refine aC 9 ?_
  refine aC 10 ?_
  refine jC ?_
  have agk:=hid M85
  have aao:=hid L85
  clear hHeld M85 L85 X85 M80 L80 X80 R80 M83 L83 X83 N83 R83 Mz Lz Xz
  go_wp2_with fail
  refine (GI _ agk.out (by have:=Wx.out.pr.len; omega)).mono ?_
  rintro e w9 ⟨ma,mc,qa,qc,rfl,hs1,hs2,vW⟩
  have bF:=hid (aao.out.trans (vW.mono aao.out.size))
  clear vW hs1 hs2
  rw [HG2.out]
  have hfd:=aiU
  have hss:((⟨#[83,64,98,50,32,42,10]⟩:ByteArray).toList == (⟨#[83,64,98,50,32,42,10]⟩:ByteArray).toList)=true:=beq_self_eq_true _
  go_wp2_with fail
  go_ret
  exact ⟨rfl,bF.out⟩
 ·skip
  go_simp
  refine aQ ?_
  intro w83 e83
  have hbb:Below wq.drew.heap.size wq.drew w83:=by rw [e83]; exact (Below.refl _ _).alloc (Nat.le_refl _) _
  have N83:Box w83 (wq.heap.size) [.int .i64 (-1),.int .i64 (-1),.int .i64 4,.int .i64 0,.string ByteArray.empty] 75:=by rw [e83]; exact Box.new' _ _ _ _ rfl
  have X83:=Xz.stays hbb
  have M83:=Mz.below hbb
  have L83:=Lz.trans (hbb.mono Lz.size)
  clear hbb e83
  refine hK.out _ _ (by and_intros <;> exact X83.cell _ rfl) (fun hHeld=>?_)
  clear hK K
  refine aC 4 ?_
  refine fH 0 fun K hK=>?_
  go_simp
  refine (Af _).mono ?_
  rintro e w80 ⟨vp',vs',ve',rfl,R80,hbb⟩
  have X80:=X83.stays hbb
  have M80:=M83.below hbb
  have L80:=L83.trans (hbb.mono L83.size)
  have N80:=N83.stays hbb
  clear hbb
  refine hK.out _ _ (by and_intros <;> exact X80.cell _ rfl) (fun hHeld=>?_)
  clear hK K
  refine fH 5 fun K hK=>?_
  go_simp
  refine (rz.NU (m:=gI.m) WB.out.so WB.out.jb WB.out.wr WB.out.ln WB.out.st fE vp' vs' ve' w80 R80 (by decide +kernel) N80 qB Sz Jc (by have:=GU (qx qB); omega) [83,64,98,50] one_one (by decide)).mono ?_
  rw [NV]
  rintro e w85 ⟨rfl,hbb⟩
  have X85:=X80.stays hbb
  have M85:=M80.below hbb
  have L85:=L80.trans (hbb.mono L80.size)
  clear hbb
  refine hK.out _ _ (by and_intros <;> exact X85.cell _ rfl) (fun hHeld=>?_)
  clear hK K
  refine aC 6 ?_
  refine aC 7 ?_
  refine aC 8 ?_
  refine aC 9 ?_
  refine aC 10 ?_
  refine jC ?_
  have agk:=hid M85
  have aao:=hid L85
  clear hHeld M85 L85 X85 M80 L80 X80 N80 R80 M83 L83 X83 N83 Mz Lz Xz
  go_wp2_with fail
  refine (GI _ agk.out (by have:=Wx.out.pr.len; omega)).mono ?_
  rintro e w9 ⟨ma,mc,qa,qc,rfl,hs1,hs2,vW⟩
  have bF:=hid (aao.out.trans (vW.mono aao.out.size))
  clear vW hs1 hs2
  rw [HG2.out]
  have hfd:=aiU
  have hss:((⟨#[83,64,98,50,32,42,10]⟩:ByteArray).toList == (⟨#[83,64,98,50,32,42,10]⟩:ByteArray).toList)=true:=beq_self_eq_true _
  go_wp2_with fail
  go_ret
  exact ⟨rfl,bF.out⟩
end Go.Proofs.YteablcielclaeaaGreatDoor
