/- match's Do. -/
import Derived.Test.YteablcielclaeaaGreatDoorC23
namespace Go.Proofs.YteablcielclaeaaGreatDoor
open Go.ChangeShapes Go.WideShapes Go.ChangeAt Go.RowKit
set_option linter.unusedVariables false
open Go.Lib (hid)
variable {X S:Nat→Prop} {base b:Nat} {M:aO} {B:mg}
theorem Gi (now:Int):∀ (f:Nat) (M:aO),(aO.runs now f M).jr=M.jr∧(aO.runs now f M).R=M.R∧(aO.runs now f M).CR=M.CR
 | 0,M=>⟨rfl,rfl,rfl⟩
 | f+1,M=>by
  rw [aO.runs]
  split
  ·split
   ·exact Gi now f _
   ·exact ⟨rfl,rfl,rfl⟩
  ·exact ⟨rfl,rfl,rfl⟩
theorem lN (M:aO) (e:yD):(M.kind e).1.jr=M.jr∧(M.kind e).1.R=M.R∧(M.kind e).1.CR=M.CR:=by
 unfold aO.kind aO.jQ aO.yE aO.uj aO.yF aO.qM aO.backTo
 repeat' split
 all_goals first | exact ⟨rfl,rfl,rfl⟩ | exact Gi e.now 400 (M.move e.m e.now)
theorem keyed {P F:World→Nat→Prop} {G:Prop} (main:(∀ w5 bx,F w5 bx→P w5 bx)→G) (rest:∀ w5 bx,F w5 bx→P w5 bx):G:=main rest
theorem Tab.mono {base base':Nat} {w w':World} (h:Tab base w) (hb:base≤base') (hw:Below base w w'):Tab base' w':=⟨(h.below hw).1,fun g hg=>Nat.lt_of_lt_of_le (h.2 g hg) hb⟩
theorem aY.base' {w w':World} (m:aY X S base w b M B) (h:iC S b w w') (hb:base≤w.heap.size):Below base w w':=iC.base m h hb
theorem IZ {w:World} {bb:Nat} {v:Value} {es:List jB} {e:jB} (h:w.ownsRow bb 205 2 v (es.length+1) (iq (es++[e]))):JL w v (es++[e]):=by
 have h2:w.ownsRow bb 205 2 v (es++[e]).length (iq (es++[e])):=by rw [List.length_append]; exact h
 exact Rd.dL h2
set_option maxRecDepth 100000 in
set_option maxHeartbeats 32000000 in
theorem aa3 (ev:yD) (HKS:KindSaid M ev) (HS:SortMvSaid) (HI:ItoaSaid) (HJ:qQ) (w:World) (h:aY X S base w b M B) (hb:base≤w.heap.size) (hi:MInv M) (hjl:M.jr.length<90) (ht:Tab base w) (hok:Uc ev):Calls Tryz.prog 16 #[.pointer (some ⟨b,0,none⟩),.agg #[.int .i64 ev.kind,.int .i64 ev.aT,.int .i64 ev.n,.int .i64 ev.now,.int .i64 ev.m.src,.int .i64 ev.m.dst,.int .i64 ev.m.piece]] w fun e w'=>e=.returned (.int .i64 (M.go ev).2)∧AA X S base b w (M.go ev).1 w':=by
 have HKd:=hid HKS
 clear HKS
 have HIh:=hid HI
 have ZN:=hid HJ
 have HIv:=hid hi
 have HJl:=hid hjl
 have HJo:=hid hi.jo
 have E5:=hid ht
 have Pv:=hid hok
 have HDG:Hid (M.go ev=if M.mP ev≠0 then (M,M.mP ev) else if (M.kind ev).2≠0 then (M,(M.kind ev).2) else (((M.kind ev).1.put ev).over,0)):=hid rfl
 clear hi hjl ht hok HI HJ
 have pq:=hid HS
 have HM:=hid h
 have Ba:=hid hb
 have HSX:Hid (¬ S w.heap.size):=hid (fun hk=>by obtain ⟨up,us,ue,vl,vm,rows,hg⟩:=h.game; have:=(hg.lo _ hk).2; omega)
 have TY:Hid (b<w.heap.size):=hid h.box.lt
 clear h hb HS
 go_enter Tryz.func16,Tryz.ntmps16
 go_upto_region 1 with (fail)
 refine pV fun w0 uo fG hs_=>?_
 have sN:=hid uo
 have HB0:=hid fG
 clear hs_ uo fG
 have DJ:=hid (HM.out.below HB0.out)
 have HEq:Hid (w.heap.size≠b):=hid (fun e=>by have:=TY.out; omega)
 have e0:=sN.out.cell 0 rfl
 have e1:=sN.out.cell 1 rfl
 by_cases hA:ev.kind<0∨6<ev.kind∨(ev.aT≠0∧ev.aT≠1)
 ·have yP:Hid (M.mP ev=1):=hid (by unfold aO.mP; rw [if_pos hA])
  have HD2:Hid (M.go ev=(M,1)):=hid (by rw [HDG.out,if_pos (by rw [yP.out]; decide),yP.out])
  by_cases k0:ev.kind<0
  ·clear hA
   go_wp2_with fail
   go_ret
   exact ⟨by rw [HD2.out]; rfl,S,B,by rw [HD2.out]; exact DJ.out,iI.refl _ _,iC.new HB0.out⟩
  by_cases k6:6<ev.kind
  ·clear hA
   go_wp2_with fail
   go_ret
   exact ⟨by rw [HD2.out]; rfl,S,B,by rw [HD2.out]; exact DJ.out,iI.refl _ _,iC.new HB0.out⟩
  have p0:(ev.aT != 0)=true:=by simp; omega
  have p1:(ev.aT != 1)=true:=by simp; omega
  clear hA
  go_wp2_with fail
  go_ret
  exact ⟨by rw [HD2.out]; rfl,S,B,by rw [HD2.out]; exact DJ.out,iI.refl _ _,iC.new HB0.out⟩
 have k0:¬ ev.kind<0:=by omega
 have k6:¬ 6<ev.kind:=by omega
 go_cut [8] (fun v8 wx=>v8=.bool false∧w0=wx)
 case first =>
  by_cases hp0:ev.aT=0
  ·have p0:(ev.aT != 0)=false:=by simpa using hp0
   clear hp0
   go_wp2_with fail
   go_meet
   exact ⟨rfl,rfl⟩
  ·have p0:(ev.aT != 0)=true:=by simpa using hp0
   have p1:(ev.aT != 1)=false:=by simp; omega
   clear hp0
   go_wp2_with fail
   go_meet
   exact ⟨rfl,rfl⟩
 case rest =>
  obtain ⟨rfl,rfl⟩:=hcut
  clear k0 k6 e0 e1
  go_upto_region 3 with (fail)
  have d35:=DJ.out.box.cell 35 rfl
  have e3:=sN.out.cell 3 rfl
  by_cases ht1:ev.now<M.last
  ·have yP:Hid (M.mP ev=11):=hid (by unfold aO.mP; rw [if_neg hA,if_pos (.inl ht1)])
   have HD2:Hid (M.go ev=(M,11)):=hid (by rw [HDG.out,if_pos (by rw [yP.out]; decide),yP.out])
   go_quiet (fail)
   have vO:Hid (aY X S base (w0.drewN nq) b M B):=hid (DJ.out.below (below_drewN (Below.refl _ _) nq))
   have xQ:=hid (sN.out.drewN nq)
   have HB3:Hid (Below w.heap.size w (w0.drewN nq)):=hid (below_drewN HB0.out nq)
   clear DJ sN HB0 d35 e3
   generalize w0.drewN nq=w3 at *
   go_wp2_with fail
   go_ret
   exact ⟨by rw [HD2.out]; rfl,S,B,by rw [HD2.out]; exact vO.out,iI.refl _ _,iC.new HB3.out⟩
  by_cases ht2:100000000<ev.now
  ·have yP:Hid (M.mP ev=11):=hid (by unfold aO.mP; rw [if_neg hA,if_pos (.inr ht2)])
   have HD2:Hid (M.go ev=(M,11)):=hid (by rw [HDG.out,if_pos (by rw [yP.out]; decide),yP.out])
   go_quiet (fail)
   have vO:Hid (aY X S base (w0.drewN nq) b M B):=hid (DJ.out.below (below_drewN (Below.refl _ _) nq))
   have xQ:=hid (sN.out.drewN nq)
   have HB3:Hid (Below w.heap.size w (w0.drewN nq)):=hid (below_drewN HB0.out nq)
   clear DJ sN HB0 d35 e3
   generalize w0.drewN nq=w3 at *
   go_wp2_with fail
   go_ret
   exact ⟨by rw [HD2.out]; rfl,S,B,by rw [HD2.out]; exact vO.out,iI.refl _ _,iC.new HB3.out⟩
  have HTm:Hid (¬ (ev.now<M.last∨100000000<ev.now)):=hid (by omega)
  have kL:Hid (BD M.CR∧um M.CR M.clk∧M.clk.since≤ev.now∧ev.now≤100000000):=hid ⟨HIv.out.cr,HIv.out.ck,by have:=HIv.out.sn; omega,by omega⟩
  go_quiet (fail)
  have vO:Hid (aY X S base (w0.drewN nq) b M B):=hid (DJ.out.below (below_drewN (Below.refl _ _) nq))
  have xQ:=hid (sN.out.drewN nq)
  have HB3:Hid (Below w.heap.size w (w0.drewN nq)):=hid (below_drewN HB0.out nq)
  clear DJ sN HB0 d35 e3
  generalize w0.drewN nq=w3 at *
  clear ht1 ht2
  have d16:=vO.out.box.cell 16 rfl
  by_cases hr:M.res=0
  rotate_left
  ·have yP:Hid (M.mP ev=14):=hid (by unfold aO.mP; rw [if_neg hA,if_neg HTm.out,if_pos hr])
   have HD2:Hid (M.go ev=(M,14)):=hid (by rw [HDG.out,if_pos (by rw [yP.out]; decide),yP.out])
   have hrb:(M.res != 0)=true:=by simpa using hr
   clear hr
   generalize M.res=rr at *
   go_wp2_with fail
   go_ret
   exact ⟨by rw [HD2.out]; rfl,S,B,by rw [HD2.out]; exact vO.out,iI.refl _ _,iC.new HB3.out⟩
  have NU:Hid (M.mP ev=if 0≤(bK M.CR M.clk ev.now).ak∧ev.kind≠4∧¬ (ev.kind=5∧ev.n=2) then 11 else 0):=hid (by unfold aO.mP; rw [if_neg hA,if_neg HTm.out,if_neg (fun h=>h hr),if_neg (by have:=HJl.out; omega)])
  have hrb:(M.res != 0)=false:=by simpa using hr
  have d36:=vO.out.box.cell 36 rfl
  obtain ⟨ja0,jc0,hja,hjc,hjm,-⟩:=vO.out.fr.jr.form
  unfold maxLen at hjm
  have alx:w3.cell? ⟨b,36,none⟩=some (.slice ja0 M.jr.length jc0):=d36.trans (by rw [← hja])
  have hjl:((M.jr.length:Int) == 1000)=false:=by have:=HJl.out; simp; omega
  clear hr d36 hja
  go_upto_region 9 with (fail)
  clear hrb d16 alx hjl hjc hjm
  generalize w3=wq at *
  have Mz:aY X S base wq.drew b M B:=vO.out.below (aP (Below.refl _ _))
  have Ez:=xQ.out.drew
  have Lz:Below wq.drew.heap.size wq.drew wq.drew:=Below.refl _ _
  have QY:Hid (Below w.heap.size w wq.drew):=hid (aP HB3.out)
  clear vO xQ HB3
  refine' keyed (F:=fun w5 bx=>Hid (aY X S base w5 b M B)∧Hid (Box w5 w.heap.size [.int .i64 ev.kind,.int .i64 ev.aT,.int .i64 ev.n,.int .i64 ev.now,.int .i64 ev.m.src,.int .i64 ev.m.dst,.int .i64 ev.m.piece] 71)∧Hid (Below w.heap.size w w5)∧Hid (Box w5 bx [.int .i64 (bK M.CR M.clk ev.now).l0,.int .i64 (bK M.CR M.clk ev.now).l1,.int .i64 (bK M.CR M.clk ev.now).m0,.int .i64 (bK M.CR M.clk ev.now).m1,.int .i64 (bK M.CR M.clk ev.now).p0,.int .i64 (bK M.CR M.clk ev.now).p1,.int .i64 (bK M.CR M.clk ev.now).turn,.int .i64 (bK M.CR M.clk ev.now).since,.bool (bK M.CR M.clk ev.now).st,.int .i64 (bK M.CR M.clk ev.now).ak] 83)) ?main ?rest
  case main =>
   intro key
   refine wp_region_noPanic ?_
   refine bU (S:=(fun w'=>w'.cell? ⟨b,11,none⟩=some (.slice B.pa M.CR.ps.length B.pc)∧w'.cell? ⟨b,12,none⟩=some (.int .i64 M.CR.inc)∧w'.cell? ⟨b,13,none⟩=some (.int .i64 M.CR.delay)∧w'.cell? ⟨b,18,none⟩=some (.int .i64 M.clk.l0)∧w'.cell? ⟨b,19,none⟩=some (.int .i64 M.clk.l1)∧w'.cell? ⟨b,20,none⟩=some (.int .i64 M.clk.m0)∧w'.cell? ⟨b,21,none⟩=some (.int .i64 M.clk.m1)∧w'.cell? ⟨b,22,none⟩=some (.int .i64 M.clk.p0)∧w'.cell? ⟨b,23,none⟩=some (.int .i64 M.clk.p1)∧w'.cell? ⟨b,24,none⟩=some (.int .i64 M.clk.turn)∧w'.cell? ⟨b,25,none⟩=some (.int .i64 M.clk.since)∧w'.cell? ⟨b,26,none⟩=some (.bool M.clk.st)∧w'.cell? ⟨b,27,none⟩=some (.int .i64 M.clk.ak)∧w'.cell? ⟨w.heap.size,3,none⟩=some (.int .i64 ev.now))) (L:=[]) (by kernel_rfl) (by and_intros <;> first | exact Mz.box.cell _ rfl | exact Ez.cell _ rfl) (fun hHeld=>?_)
   refine aJ 0 ?_
   refine aJ 4 ?_
   refine aJ 9 ?_
   refine aJ 1 ?_
   refine aJ 5 ?_
   refine eH 10 ?_
   refine aJ 2 ?_
   refine aJ 6 ?_
   refine eH 3 ?_
   refine aJ 7 ?_
   refine eH 8 ?_
   refine ZT (rs:=[11,15]) ?_
   refine (bC.cons (by first | (simp only [List.getElem?_toArray,List.getElem?_cons_zero,List.getElem?_cons_succ] <;> rfl) | rfl) (fun K hK=>?_) (bC.cons (by first | (simp only [List.getElem?_toArray,List.getElem?_cons_zero,List.getElem?_cons_succ] <;> rfl) | rfl) (fun K hK=>?_) bC.nil))
   ·skip
    go_simp
    refine (F8 M.CR M.clk ev.now B.pa B.pc _ kL.out.1 kL.out.2.1 kL.out.2.2.1 kL.out.2.2.2 Mz.fr.per).mono ?_
    rintro e w11 ⟨rfl,hbb⟩
    unfold IU
    have M11:=Mz.below hbb
    have E11:=Ez.stays hbb
    have L11:=aj Lz hbb Lz.size
    clear hbb
    refine hK.out _ _ (by and_intros <;> first | exact M11.box.cell _ rfl | exact E11.cell _ rfl) (fun hHeld=>?_)
    clear hK K
    refine aJ 12 ?_
    refine aJ 13 ?_
    refine aJ 14 ?_
    refine gI 15 fun K hK=>?_
    go_simp
    refine bg ?_
    intro w15 e15
    have hbb:Below w11.heap.size w11 w15:=by rw [e15]; exact (Below.refl _ _).alloc (Nat.le_refl _) _
    have X15:Box w15 (w11.heap.size) [.int .i64 0,.int .i64 0,.int .i64 0,.int .i64 0,.int .i64 0,.int .i64 0,.int .i64 0,.int .i64 0,.bool false,.int .i64 0] 83:=by rw [e15]; exact Box.new' _ _ _ _ rfl
    have M15:=M11.below hbb
    have E15:=E11.stays hbb
    have L15:=aj L11 hbb L11.size
    clear hbb e15
    refine hK.out _ _ (by and_intros <;> first | exact M15.box.cell _ rfl | exact E15.cell _ rfl) (fun hHeld=>?_)
    clear hK K
    refine gI 16 fun K hK=>?_
    rw [if_pos (by rfl)]
    refine wp_store_mid 83 (.tmp 5) (.tmp 67) (by rfl) (w11.heap.size) 0 #[.int .i64 (bK M.CR M.clk ev.now).l0,.int .i64 (bK M.CR M.clk ev.now).l1,.int .i64 (bK M.CR M.clk ev.now).m0,.int .i64 (bK M.CR M.clk ev.now).m1,.int .i64 (bK M.CR M.clk ev.now).p0,.int .i64 (bK M.CR M.clk ev.now).p1,.int .i64 (bK M.CR M.clk ev.now).turn,.int .i64 (bK M.CR M.clk ev.now).since,.bool (bK M.CR M.clk ev.now).st,.int .i64 (bK M.CR M.clk ev.now).ak] (by rfl) (by rfl) (X15.has 0 10 (by simp)) (by kernel_rfl) (by simp [Value.oneCell']) ?_
    refine bg ?_
    intro w16 e16
    have X16:Box w16 (w11.heap.size) [.int .i64 (bK M.CR M.clk ev.now).l0,.int .i64 (bK M.CR M.clk ev.now).l1,.int .i64 (bK M.CR M.clk ev.now).m0,.int .i64 (bK M.CR M.clk ev.now).m1,.int .i64 (bK M.CR M.clk ev.now).p0,.int .i64 (bK M.CR M.clk ev.now).p1,.int .i64 (bK M.CR M.clk ev.now).turn,.int .i64 (bK M.CR M.clk ev.now).since,.bool (bK M.CR M.clk ev.now).st,.int .i64 (bK M.CR M.clk ev.now).ak] 83:=by rw [e16]; exact X15.store rfl
    have hbn:wq.heap.size≤w11.heap.size:=L11.size
    have L16:Below wq.drew.heap.size wq.drew w16:=by rw [e16]; exact below_setCells L15 hbn 0 _
    have M16:=Mz.below L16
    have E16:=Ez.stays L16
    clear e16 hbn
    refine hK.out _ _ (by and_intros <;> first | exact M16.box.cell _ rfl | exact E16.cell _ rfl) (fun hHeld=>?_)
    clear hK K
    refine aJ 17 ?_
    refine kW ?_
    have wY:=hid M16
    have jR:=hid E16
    have HB1:Hid (Below w.heap.size w w16):=hid (aj QY.out L16 QY.out.size)
    have nR:=hid X16
    clear M11 E11 L11 M15 E15 L15 M16 E16 L16 hHeld X15 X16
    generalize w11.heap.size=bx at nR ⊢
    exact key w16 bx ⟨wY,jR,HB1,nR⟩
   ·skip
    go_simp
    refine bg ?_
    intro w15 e15
    have hbb:Below wq.drew.heap.size wq.drew w15:=by rw [e15]; exact (Below.refl _ _).alloc (Nat.le_refl _) _
    have X15:Box w15 (wq.heap.size) [.int .i64 0,.int .i64 0,.int .i64 0,.int .i64 0,.int .i64 0,.int .i64 0,.int .i64 0,.int .i64 0,.bool false,.int .i64 0] 83:=by rw [e15]; exact Box.new' _ _ _ _ rfl
    have M15:=Mz.below hbb
    have E15:=Ez.stays hbb
    have L15:=aj Lz hbb Lz.size
    clear hbb e15
    refine hK.out _ _ (by and_intros <;> first | exact M15.box.cell _ rfl | exact E15.cell _ rfl) (fun hHeld=>?_)
    clear hK K
    refine gI 11 fun K hK=>?_
    go_simp
    refine (F8 M.CR M.clk ev.now B.pa B.pc _ kL.out.1 kL.out.2.1 kL.out.2.2.1 kL.out.2.2.2 M15.fr.per).mono ?_
    rintro e w11 ⟨rfl,hbb⟩
    unfold IU
    have M11:=M15.below hbb
    have E11:=E15.stays hbb
    have L11:=aj L15 hbb L15.size
    have X11:=X15.stays hbb
    clear hbb
    refine hK.out _ _ (by and_intros <;> first | exact M11.box.cell _ rfl | exact E11.cell _ rfl) (fun hHeld=>?_)
    clear hK K
    refine aJ 12 ?_
    refine aJ 13 ?_
    refine aJ 14 ?_
    refine gI 16 fun K hK=>?_
    rw [if_pos (by rfl)]
    refine wp_store_mid 83 (.tmp 5) (.tmp 67) (by rfl) (wq.heap.size) 0 #[.int .i64 (bK M.CR M.clk ev.now).l0,.int .i64 (bK M.CR M.clk ev.now).l1,.int .i64 (bK M.CR M.clk ev.now).m0,.int .i64 (bK M.CR M.clk ev.now).m1,.int .i64 (bK M.CR M.clk ev.now).p0,.int .i64 (bK M.CR M.clk ev.now).p1,.int .i64 (bK M.CR M.clk ev.now).turn,.int .i64 (bK M.CR M.clk ev.now).since,.bool (bK M.CR M.clk ev.now).st,.int .i64 (bK M.CR M.clk ev.now).ak] (by rfl) (by rfl) (X11.has 0 10 (by simp)) (by kernel_rfl) (by simp [Value.oneCell']) ?_
    refine bg ?_
    intro w16 e16
    have X16:Box w16 (wq.heap.size) [.int .i64 (bK M.CR M.clk ev.now).l0,.int .i64 (bK M.CR M.clk ev.now).l1,.int .i64 (bK M.CR M.clk ev.now).m0,.int .i64 (bK M.CR M.clk ev.now).m1,.int .i64 (bK M.CR M.clk ev.now).p0,.int .i64 (bK M.CR M.clk ev.now).p1,.int .i64 (bK M.CR M.clk ev.now).turn,.int .i64 (bK M.CR M.clk ev.now).since,.bool (bK M.CR M.clk ev.now).st,.int .i64 (bK M.CR M.clk ev.now).ak] 83:=by rw [e16]; exact X11.store rfl
    have hbn:wq.heap.size≤wq.heap.size:=Nat.le_refl _
    have L16:Below wq.drew.heap.size wq.drew w16:=by rw [e16]; exact below_setCells L11 hbn 0 _
    have M16:=Mz.below L16
    have E16:=Ez.stays L16
    clear e16 hbn
    refine hK.out _ _ (by and_intros <;> first | exact M16.box.cell _ rfl | exact E16.cell _ rfl) (fun hHeld=>?_)
    clear hK K
    refine aJ 17 ?_
    refine kW ?_
    have wY:=hid M16
    have jR:=hid E16
    have HB1:Hid (Below w.heap.size w w16):=hid (aj QY.out L16 QY.out.size)
    have nR:=hid X16
    clear M11 E11 L11 M15 E15 L15 M16 E16 L16 hHeld X15 X11 X16
    obtain ⟨bx,hbx⟩:∃ bx,bx=wq.heap.size:=⟨_,rfl⟩
    rw [← hbx] at nR ⊢
    clear hbx
    exact key w16 bx ⟨wY,jR,HB1,nR⟩
  case rest =>
   rintro w5 bx ⟨wY,jR,HB1,nR⟩
   clear Mz Ez Lz QY
   have x9:=nR.out.cell 9 rfl
   have e0:=jR.out.cell 0 rfl
   have e2:=jR.out.cell 2 rfl
   by_cases hf:(bK M.CR M.clk ev.now).ak<0
   ·have yP:Hid (M.mP ev=0):=hid (by rw [NU.out,if_neg (by omega)])
    have hfb:¬ (0≤(bK M.CR M.clk ev.now).ak):=by omega
    generalize (bK M.CR M.clk ev.now).ak=lf at *
    have JM:Hid (EvPre M ev):=hid (BG HIv.out yP.out)
    have DV:Hid (M.go ev=if (M.kind ev).2≠0 then (M,(M.kind ev).2) else (((M.kind ev).1.put ev).over,0)):=hid (by rw [HDG.out,if_neg (fun h=>h yP.out)])
    have XU:Hid (base≤w5.heap.size):=hid (Nat.le_trans Ba.out HB1.out.size)
    go_upto_region 12 with (fail)
    have e0:=jR.out.cell 0 rfl
    have e1:=jR.out.cell 1 rfl
    have e2:=jR.out.cell 2 rfl
    have e3:=jR.out.cell 3 rfl
    have e4:=jR.out.cell 4 rfl
    have e5:=jR.out.cell 5 rfl
    have e6:=jR.out.cell 6 rfl
    go_wp2_with fail
    clear e0 e1 e2 e3 e4 e5 e6
    refine (HKd.out X S base b B w5 wY.out XU.out JM.out).mono ?_
    rintro e w1 ⟨rfl,S1,B1,hm1,hs1,hf1⟩
    have uS:=hid hm1
    have xu:Hid (iI w S S1):=hid (fun k hk h=>hs1 k (Nat.lt_of_lt_of_le hk HB1.out.size) h)
    have HF2:Hid (iC S b w w1):=hid ((iC.new HB1.out).trans hf1 (iI.refl _ _))
    have HE2:Hid (Box w1 w.heap.size [.int .i64 ev.kind,.int .i64 ev.aT,.int .i64 ev.n,.int .i64 ev.now,.int .i64 ev.m.src,.int .i64 ev.m.dst,.int .i64 ev.m.piece] 71):=hid (jR.out.held hf1 (fun h=>by rcases h with h | h; exact HSX.out h; have h2:w.heap.size=b:=h; have:=TY.out; omega))
    clear hm1 hs1 hf1 wY jR
    by_cases hz:(M.kind ev).2=0
    rotate_left
    ·have HD2:Hid (M.go ev=(M,(M.kind ev).2)):=hid (by rw [DV.out,if_pos hz])
     have HKb:Hid ((M.kind ev).1=M):=hid (Dw M ev hz)
     have hzb:((M.kind ev).2 != 0)=true:=by simpa using hz
     rw [HKb.out] at uS
     clear hz
     generalize (M.kind ev).2=kc at *
     go_wp2_with fail
     go_ret
     exact ⟨by rw [HD2.out]; rfl,S1,B1,by rw [HD2.out]; exact uS.out,xu.out,HF2.out⟩
    have HD3:Hid (M.go ev=(((M.kind ev).1.put ev).over,0)):=hid (by rw [DV.out,if_neg (fun h=>h hz)])
    rw [hz]
    clear hz DV
    have e3:=HE2.out.cell 3 rfl
    have d35:=uS.out.box.cell 35 rfl
    have f35:=uS.out.box.frozen 35
    go_upto_region 16 with (fail)
    have HQ:=hid (uS.out.put (M':=({ (M.kind ev).1 with last:=ev.now }:aO)) (B':=B1) 35 [.int .i64 ev.now] (by simp) rfl rfl rfl rfl (uS.out.rd.imp (fun _ h=>⟨h.rd,h.per,h.pc,h.pr,h.jr⟩)))
    have vO:Hid (aY X S1 base (w1.setCell ⟨b,35,none⟩ (.int .i64 ev.now)) b ({ (M.kind ev).1 with last:=ev.now }:aO) B1):=hid HQ.out.1
    have HF3:Hid (iC S b w (w1.setCell ⟨b,35,none⟩ (.int .i64 ev.now))):=hid (HF2.out.trans HQ.out.2 xu.out)
    have xQ:Hid (Box (w1.setCell ⟨b,35,none⟩ (.int .i64 ev.now)) w.heap.size [.int .i64 ev.kind,.int .i64 ev.aT,.int .i64 ev.n,.int .i64 ev.now,.int .i64 ev.m.src,.int .i64 ev.m.dst,.int .i64 ev.m.piece] 71):=hid (HE2.out.far ⟨b,35,none⟩ _ (fun e=>HEq.out e))
    clear HQ uS HE2 e3 d35 f35
    generalize (w1.setCell ⟨b,35,none⟩ (.int .i64 ev.now))=w5' at *
    obtain ⟨w5,hw5⟩:∃ w5,w5=w5':=⟨_,rfl⟩
    rw [← hw5] at vO xQ HF3 ⊢
    clear hw5
    have MC:=HF3
    have HTb:Hid (∀ {W:World},aY X S1 base W b ({ (M.kind ev).1 with last:=ev.now }:aO) B1→Below w5.heap.size w5 W→Tab W.heap.size W):=hid (fun hm hbl=>E5.out.mono (Nat.le_trans Ba.out (Nat.le_trans MC.out.size hbl.size)) ((HM.out.base' MC.out Ba.out).trans (hbl.mono (Nat.le_trans Ba.out MC.out.size))))
    have IW:Hid (∀ q,(S1 q∨out1 X b q)→q<w5.heap.size):=hid vO.out.LQ
    generalize hq5:w5=wq at *
    have Mz:aY X S1 base wq.drew b ({ (M.kind ev).1 with last:=ev.now }:aO) B1:=vO.out.below (aP (Below.refl _ _))
    have Ez:=xQ.out.drew
    have Lz:Below wq.drew.heap.size wq.drew wq.drew:=Below.refl _ _
    have QY:Hid (iC S1 b wq wq.drew):=hid (Fr.drew (iC.refl _ _ _))
    clear vO xQ HF3
    refine wp_region_noPanic ?_
    refine bU (S:=(fun w'=>w'.cell? ⟨b,36,none⟩=some B1.vj∧w'.cell? ⟨w.heap.size,0,none⟩=some (.int .i64 ev.kind)∧w'.cell? ⟨w.heap.size,1,none⟩=some (.int .i64 ev.aT)∧w'.cell? ⟨w.heap.size,2,none⟩=some (.int .i64 ev.n)∧w'.cell? ⟨w.heap.size,3,none⟩=some (.int .i64 ev.now)∧w'.cell? ⟨w.heap.size,4,none⟩=some (.int .i64 ev.m.src)∧w'.cell? ⟨w.heap.size,5,none⟩=some (.int .i64 ev.m.dst)∧w'.cell? ⟨w.heap.size,6,none⟩=some (.int .i64 ev.m.piece))) (L:=[13]) (by kernel_rfl) (by and_intros <;> first | exact Mz.box.cell _ rfl | exact Ez.cell _ rfl) (fun hHeld=>?_)
    refine aJ 0 ?_
    refine aJ 1 ?_
    refine eH 5 ?_
    refine aJ 2 ?_
    refine aJ 3 ?_
    refine eH 4 ?_
    refine gI 6 fun K hK=>?_
    go_simp
    refine (zM HIh.out ZN.out ev _ (HTb.out Mz (aP (Below.refl _ _))) Pv.out).mono ?_
    rintro e w6 ⟨rfl,hbb⟩
    have M6:=Mz.below hbb
    have E6:=Ez.stays hbb
    have L6:=aj Lz hbb Lz.size
    clear hbb
    refine hK.out _ _ (by and_intros <;> first | exact M6.box.cell _ rfl | exact E6.cell _ rfl) (fun hHeld=>?_)
    clear hK K
    refine gI 7 fun K hK=>?_
    go_simp
    have vN:=M6.fr.jr
    rw [show (({ (M.kind ev).1 with last:=ev.now }:aO):aO).jr=M.jr from (lN M ev).1] at vN
    refine (uU B1.vj M.jr (gQ ev) _ vN HJo.out (by have:=HJl.out; omega) (by have:=xq ev (oD Pv.out); omega)).mono ?_
    rintro e w7 ⟨vn,rfl,vK,hbb⟩
    have hap:appJ M.jr (gQ ev)=(M.jr++[ni M.jr (gQ ev)],0):=by unfold appJ; rw [if_neg (by rw [oD Pv.out]; decide)]; rfl
    rw [hap] at vK ⊢
    have DW:w7.ownsRow w6.heap.size 205 2 vn (M.jr.length+1) (iq (M.jr++[ni M.jr (gQ ev)])):=by rw [List.length_append] at vK; exact vK
    clear vK
    obtain ⟨ja,jc,rfl⟩:=aH DW
    clear hap
    have M7:=M6.below hbb
    have E7:=E6.stays hbb
    have L7:=aj L6 hbb L6.size
    have O7:w7.ownsRow w6.heap.size 205 2 (.slice ja (M.jr.length+1) jc) ((M.kind ev).1.jr.length+1) (iq ((M.kind ev).1.jr++[ni (M.kind ev).1.jr (gQ ev)])):=by rw [(lN M ev).1]; exact DW
    clear hbb
    refine hK.out _ _ (by and_intros <;> first | exact M7.box.cell _ rfl | exact E7.cell _ rfl) (fun hHeld=>?_)
    clear hK K
    refine aJ 8 ?_
    refine aJ 9 ?_
    refine aJ 10 ?_
    refine aJ 11 ?_
    refine aJ 12 ?_
    refine xU 13 fun K hK=>?_
    have dd:=M7.box.cell 36 rfl
    have df:=M7.box.frozen 36
    go_simp
    refine bg ?_
    intro rX e13
    clear dd df
    have QO:=M7.put (M':=((M.kind ev).1.put ev)) (B':={ B1 with vj:=.slice ja (M.jr.length+1) jc }) 36 [.slice ja (M.jr.length+1) jc] (by simp) rfl rfl rfl rfl (fun w' hw=>⟨(M7.rd w' hw).rd,(M7.rd w' hw).per,(M7.rd w' hw).pc,(M7.rd w' hw).pr,IZ (fD O7 hw (fun q hq h=>by have h1:=(O7.lt q hq).1; have h2:=IW.out q h; have h3:=L6.size; have h4:wq.heap.size≤w6.heap.size:=h3; omega))⟩)
    have M13:aY X S1 base rX b ((M.kind ev).1.put ev) { B1 with vj:=.slice ja (M.jr.length+1) jc }:=by rw [e13]; exact QO.1
    have MF:iC S1 b wq.drew rX:=by rw [e13]; exact (iC.new L7).trans QO.2 (iI.refl _ _)
    have E13:Box rX (w.heap.size) [.int .i64 ev.kind,.int .i64 ev.aT,.int .i64 ev.n,.int .i64 ev.now,.int .i64 ev.m.src,.int .i64 ev.m.dst,.int .i64 ev.m.piece] 71:=by rw [e13]; exact E7.far ⟨b,36,none⟩ _ (fun e=>HEq.out e)
    clear QO e13
    refine hK.out _ _ ?_
    clear hK K
    refine kW ?_
    have TR:=hid M13
    have TT:Hid (iC S1 b wq rX):=hid (QY.out.trans MF (iI.refl _ _))
    clear M6 E6 L6 M7 E7 L7 M13 E13 MF O7 DW Mz Ez Lz hHeld QY vN
    generalize rX=w8 at *
    go_wp2_with fail
    refine (yJ pq.out w8 TR.out).mono ?_
    rintro e w9 ⟨rfl,S2,B2,hm9,hs9,hf9⟩
    have kS:=hid hm9
    have Vu:Hid (iI w S S2):=hid (fun k hk h=>xu.out k hk (hs9 k (Nat.lt_of_lt_of_le hk (Nat.le_trans MC.out.size TT.out.size)) h))
    have EX:Hid (iC S b w w9):=hid ((MC.out.trans TT.out xu.out).trans hf9 xu.out)
    clear hm9 hs9 hf9
    go_wp2_with fail
    go_ret
    exact ⟨by rw [HD3.out]; rfl,S2,B2,by rw [HD3.out]; exact kS.out,Vu.out,EX.out⟩
   have hfb:0≤(bK M.CR M.clk ev.now).ak:=by omega
   by_cases h4:ev.kind=4
   ·have yP:Hid (M.mP ev=0):=hid (by rw [NU.out,if_neg (by omega)])
    have h4b:(ev.kind != 4)=false:=by simpa using h4
    have h45:(ev.kind == 5)=false:=by simp; omega
    clear hf h4
    generalize (bK M.CR M.clk ev.now).ak=lf at *
    have JM:Hid (EvPre M ev):=hid (BG HIv.out yP.out)
    have DV:Hid (M.go ev=if (M.kind ev).2≠0 then (M,(M.kind ev).2) else (((M.kind ev).1.put ev).over,0)):=hid (by rw [HDG.out,if_neg (fun h=>h yP.out)])
    have XU:Hid (base≤w5.heap.size):=hid (Nat.le_trans Ba.out HB1.out.size)
    go_upto_region 12 with (fail)
    have e0:=jR.out.cell 0 rfl
    have e1:=jR.out.cell 1 rfl
    have e2:=jR.out.cell 2 rfl
    have e3:=jR.out.cell 3 rfl
    have e4:=jR.out.cell 4 rfl
    have e5:=jR.out.cell 5 rfl
    have e6:=jR.out.cell 6 rfl
    go_wp2_with fail
    clear e0 e1 e2 e3 e4 e5 e6
    refine (HKd.out X S base b B w5 wY.out XU.out JM.out).mono ?_
    rintro e w1 ⟨rfl,S1,B1,hm1,hs1,hf1⟩
    have uS:=hid hm1
    have xu:Hid (iI w S S1):=hid (fun k hk h=>hs1 k (Nat.lt_of_lt_of_le hk HB1.out.size) h)
    have HF2:Hid (iC S b w w1):=hid ((iC.new HB1.out).trans hf1 (iI.refl _ _))
    have HE2:Hid (Box w1 w.heap.size [.int .i64 ev.kind,.int .i64 ev.aT,.int .i64 ev.n,.int .i64 ev.now,.int .i64 ev.m.src,.int .i64 ev.m.dst,.int .i64 ev.m.piece] 71):=hid (jR.out.held hf1 (fun h=>by rcases h with h | h; exact HSX.out h; have h2:w.heap.size=b:=h; have:=TY.out; omega))
    clear hm1 hs1 hf1 wY jR
    by_cases hz:(M.kind ev).2=0
    rotate_left
    ·have HD2:Hid (M.go ev=(M,(M.kind ev).2)):=hid (by rw [DV.out,if_pos hz])
     have HKb:Hid ((M.kind ev).1=M):=hid (Dw M ev hz)
     have hzb:((M.kind ev).2 != 0)=true:=by simpa using hz
     rw [HKb.out] at uS
     clear hz
     generalize (M.kind ev).2=kc at *
     go_wp2_with fail
     go_ret
     exact ⟨by rw [HD2.out]; rfl,S1,B1,by rw [HD2.out]; exact uS.out,xu.out,HF2.out⟩
    have HD3:Hid (M.go ev=(((M.kind ev).1.put ev).over,0)):=hid (by rw [DV.out,if_neg (fun h=>h hz)])
    rw [hz]
    clear hz DV
    have e3:=HE2.out.cell 3 rfl
    have d35:=uS.out.box.cell 35 rfl
    have f35:=uS.out.box.frozen 35
    go_upto_region 16 with (fail)
    have HQ:=hid (uS.out.put (M':=({ (M.kind ev).1 with last:=ev.now }:aO)) (B':=B1) 35 [.int .i64 ev.now] (by simp) rfl rfl rfl rfl (uS.out.rd.imp (fun _ h=>⟨h.rd,h.per,h.pc,h.pr,h.jr⟩)))
    have vO:Hid (aY X S1 base (w1.setCell ⟨b,35,none⟩ (.int .i64 ev.now)) b ({ (M.kind ev).1 with last:=ev.now }:aO) B1):=hid HQ.out.1
    have HF3:Hid (iC S b w (w1.setCell ⟨b,35,none⟩ (.int .i64 ev.now))):=hid (HF2.out.trans HQ.out.2 xu.out)
    have xQ:Hid (Box (w1.setCell ⟨b,35,none⟩ (.int .i64 ev.now)) w.heap.size [.int .i64 ev.kind,.int .i64 ev.aT,.int .i64 ev.n,.int .i64 ev.now,.int .i64 ev.m.src,.int .i64 ev.m.dst,.int .i64 ev.m.piece] 71):=hid (HE2.out.far ⟨b,35,none⟩ _ (fun e=>HEq.out e))
    clear HQ uS HE2 e3 d35 f35
    generalize (w1.setCell ⟨b,35,none⟩ (.int .i64 ev.now))=w5' at *
    obtain ⟨w5,hw5⟩:∃ w5,w5=w5':=⟨_,rfl⟩
    rw [← hw5] at vO xQ HF3 ⊢
    clear hw5
    have MC:=HF3
    have HTb:Hid (∀ {W:World},aY X S1 base W b ({ (M.kind ev).1 with last:=ev.now }:aO) B1→Below w5.heap.size w5 W→Tab W.heap.size W):=hid (fun hm hbl=>E5.out.mono (Nat.le_trans Ba.out (Nat.le_trans MC.out.size hbl.size)) ((HM.out.base' MC.out Ba.out).trans (hbl.mono (Nat.le_trans Ba.out MC.out.size))))
    have IW:Hid (∀ q,(S1 q∨out1 X b q)→q<w5.heap.size):=hid vO.out.LQ
    generalize hq5:w5=wq at *
    have Mz:aY X S1 base wq.drew b ({ (M.kind ev).1 with last:=ev.now }:aO) B1:=vO.out.below (aP (Below.refl _ _))
    have Ez:=xQ.out.drew
    have Lz:Below wq.drew.heap.size wq.drew wq.drew:=Below.refl _ _
    have QY:Hid (iC S1 b wq wq.drew):=hid (Fr.drew (iC.refl _ _ _))
    clear vO xQ HF3
    refine wp_region_noPanic ?_
    refine bU (S:=(fun w'=>w'.cell? ⟨b,36,none⟩=some B1.vj∧w'.cell? ⟨w.heap.size,0,none⟩=some (.int .i64 ev.kind)∧w'.cell? ⟨w.heap.size,1,none⟩=some (.int .i64 ev.aT)∧w'.cell? ⟨w.heap.size,2,none⟩=some (.int .i64 ev.n)∧w'.cell? ⟨w.heap.size,3,none⟩=some (.int .i64 ev.now)∧w'.cell? ⟨w.heap.size,4,none⟩=some (.int .i64 ev.m.src)∧w'.cell? ⟨w.heap.size,5,none⟩=some (.int .i64 ev.m.dst)∧w'.cell? ⟨w.heap.size,6,none⟩=some (.int .i64 ev.m.piece))) (L:=[13]) (by kernel_rfl) (by and_intros <;> first | exact Mz.box.cell _ rfl | exact Ez.cell _ rfl) (fun hHeld=>?_)
    refine aJ 0 ?_
    refine aJ 1 ?_
    refine eH 5 ?_
    refine aJ 2 ?_
    refine aJ 3 ?_
    refine eH 4 ?_
    refine gI 6 fun K hK=>?_
    go_simp
    refine (zM HIh.out ZN.out ev _ (HTb.out Mz (aP (Below.refl _ _))) Pv.out).mono ?_
    rintro e w6 ⟨rfl,hbb⟩
    have M6:=Mz.below hbb
    have E6:=Ez.stays hbb
    have L6:=aj Lz hbb Lz.size
    clear hbb
    refine hK.out _ _ (by and_intros <;> first | exact M6.box.cell _ rfl | exact E6.cell _ rfl) (fun hHeld=>?_)
    clear hK K
    refine gI 7 fun K hK=>?_
    go_simp
    have vN:=M6.fr.jr
    rw [show (({ (M.kind ev).1 with last:=ev.now }:aO):aO).jr=M.jr from (lN M ev).1] at vN
    refine (uU B1.vj M.jr (gQ ev) _ vN HJo.out (by have:=HJl.out; omega) (by have:=xq ev (oD Pv.out); omega)).mono ?_
    rintro e w7 ⟨vn,rfl,vK,hbb⟩
    have hap:appJ M.jr (gQ ev)=(M.jr++[ni M.jr (gQ ev)],0):=by unfold appJ; rw [if_neg (by rw [oD Pv.out]; decide)]; rfl
    rw [hap] at vK ⊢
    have DW:w7.ownsRow w6.heap.size 205 2 vn (M.jr.length+1) (iq (M.jr++[ni M.jr (gQ ev)])):=by rw [List.length_append] at vK; exact vK
    clear vK
    obtain ⟨ja,jc,rfl⟩:=aH DW
    clear hap
    have M7:=M6.below hbb
    have E7:=E6.stays hbb
    have L7:=aj L6 hbb L6.size
    have O7:w7.ownsRow w6.heap.size 205 2 (.slice ja (M.jr.length+1) jc) ((M.kind ev).1.jr.length+1) (iq ((M.kind ev).1.jr++[ni (M.kind ev).1.jr (gQ ev)])):=by rw [(lN M ev).1]; exact DW
    clear hbb
    refine hK.out _ _ (by and_intros <;> first | exact M7.box.cell _ rfl | exact E7.cell _ rfl) (fun hHeld=>?_)
    clear hK K
    refine aJ 8 ?_
    refine aJ 9 ?_
    refine aJ 10 ?_
    refine aJ 11 ?_
    refine aJ 12 ?_
    refine xU 13 fun K hK=>?_
    have dd:=M7.box.cell 36 rfl
    have df:=M7.box.frozen 36
    go_simp
    refine bg ?_
    intro rX e13
    clear dd df
    have QO:=M7.put (M':=((M.kind ev).1.put ev)) (B':={ B1 with vj:=.slice ja (M.jr.length+1) jc }) 36 [.slice ja (M.jr.length+1) jc] (by simp) rfl rfl rfl rfl (fun w' hw=>⟨(M7.rd w' hw).rd,(M7.rd w' hw).per,(M7.rd w' hw).pc,(M7.rd w' hw).pr,IZ (fD O7 hw (fun q hq h=>by have h1:=(O7.lt q hq).1; have h2:=IW.out q h; have h3:=L6.size; have h4:wq.heap.size≤w6.heap.size:=h3; omega))⟩)
    have M13:aY X S1 base rX b ((M.kind ev).1.put ev) { B1 with vj:=.slice ja (M.jr.length+1) jc }:=by rw [e13]; exact QO.1
    have MF:iC S1 b wq.drew rX:=by rw [e13]; exact (iC.new L7).trans QO.2 (iI.refl _ _)
    have E13:Box rX (w.heap.size) [.int .i64 ev.kind,.int .i64 ev.aT,.int .i64 ev.n,.int .i64 ev.now,.int .i64 ev.m.src,.int .i64 ev.m.dst,.int .i64 ev.m.piece] 71:=by rw [e13]; exact E7.far ⟨b,36,none⟩ _ (fun e=>HEq.out e)
    clear QO e13
    refine hK.out _ _ ?_
    clear hK K
    refine kW ?_
    have TR:=hid M13
    have TT:Hid (iC S1 b wq rX):=hid (QY.out.trans MF (iI.refl _ _))
    clear M6 E6 L6 M7 E7 L7 M13 E13 MF O7 DW Mz Ez Lz hHeld QY vN
    generalize rX=w8 at *
    go_wp2_with fail
    refine (yJ pq.out w8 TR.out).mono ?_
    rintro e w9 ⟨rfl,S2,B2,hm9,hs9,hf9⟩
    have kS:=hid hm9
    have Vu:Hid (iI w S S2):=hid (fun k hk h=>xu.out k hk (hs9 k (Nat.lt_of_lt_of_le hk (Nat.le_trans MC.out.size TT.out.size)) h))
    have EX:Hid (iC S b w w9):=hid ((MC.out.trans TT.out xu.out).trans hf9 xu.out)
    clear hm9 hs9 hf9
    go_wp2_with fail
    go_ret
    exact ⟨by rw [HD3.out]; rfl,S2,B2,by rw [HD3.out]; exact kS.out,Vu.out,EX.out⟩
   have h4b:(ev.kind != 4)=true:=by simpa using h4
   by_cases h52:ev.kind=5∧ev.n=2
   ·have yP:Hid (M.mP ev=0):=hid (by rw [NU.out,if_neg (fun h=>h.2.2 h52)])
    have h5b:(ev.kind == 5)=true:=by simpa using h52.1
    have hn2:(ev.n == 2)=true:=by simpa using h52.2
    clear hf h4 h52
    generalize (bK M.CR M.clk ev.now).ak=lf at *
    have JM:Hid (EvPre M ev):=hid (BG HIv.out yP.out)
    have DV:Hid (M.go ev=if (M.kind ev).2≠0 then (M,(M.kind ev).2) else (((M.kind ev).1.put ev).over,0)):=hid (by rw [HDG.out,if_neg (fun h=>h yP.out)])
    have XU:Hid (base≤w5.heap.size):=hid (Nat.le_trans Ba.out HB1.out.size)
    go_upto_region 12 with (fail)
    have e0:=jR.out.cell 0 rfl
    have e1:=jR.out.cell 1 rfl
    have e2:=jR.out.cell 2 rfl
    have e3:=jR.out.cell 3 rfl
    have e4:=jR.out.cell 4 rfl
    have e5:=jR.out.cell 5 rfl
    have e6:=jR.out.cell 6 rfl
    go_wp2_with fail
    clear e0 e1 e2 e3 e4 e5 e6
    refine (HKd.out X S base b B w5 wY.out XU.out JM.out).mono ?_
    rintro e w1 ⟨rfl,S1,B1,hm1,hs1,hf1⟩
    have uS:=hid hm1
    have xu:Hid (iI w S S1):=hid (fun k hk h=>hs1 k (Nat.lt_of_lt_of_le hk HB1.out.size) h)
    have HF2:Hid (iC S b w w1):=hid ((iC.new HB1.out).trans hf1 (iI.refl _ _))
    have HE2:Hid (Box w1 w.heap.size [.int .i64 ev.kind,.int .i64 ev.aT,.int .i64 ev.n,.int .i64 ev.now,.int .i64 ev.m.src,.int .i64 ev.m.dst,.int .i64 ev.m.piece] 71):=hid (jR.out.held hf1 (fun h=>by rcases h with h | h; exact HSX.out h; have h2:w.heap.size=b:=h; have:=TY.out; omega))
    clear hm1 hs1 hf1 wY jR
    by_cases hz:(M.kind ev).2=0
    rotate_left
    ·have HD2:Hid (M.go ev=(M,(M.kind ev).2)):=hid (by rw [DV.out,if_pos hz])
     have HKb:Hid ((M.kind ev).1=M):=hid (Dw M ev hz)
     have hzb:((M.kind ev).2 != 0)=true:=by simpa using hz
     rw [HKb.out] at uS
     clear hz
     generalize (M.kind ev).2=kc at *
     go_wp2_with fail
     go_ret
     exact ⟨by rw [HD2.out]; rfl,S1,B1,by rw [HD2.out]; exact uS.out,xu.out,HF2.out⟩
    have HD3:Hid (M.go ev=(((M.kind ev).1.put ev).over,0)):=hid (by rw [DV.out,if_neg (fun h=>h hz)])
    rw [hz]
    clear hz DV
    have e3:=HE2.out.cell 3 rfl
    have d35:=uS.out.box.cell 35 rfl
    have f35:=uS.out.box.frozen 35
    go_upto_region 16 with (fail)
    have HQ:=hid (uS.out.put (M':=({ (M.kind ev).1 with last:=ev.now }:aO)) (B':=B1) 35 [.int .i64 ev.now] (by simp) rfl rfl rfl rfl (uS.out.rd.imp (fun _ h=>⟨h.rd,h.per,h.pc,h.pr,h.jr⟩)))
    have vO:Hid (aY X S1 base (w1.setCell ⟨b,35,none⟩ (.int .i64 ev.now)) b ({ (M.kind ev).1 with last:=ev.now }:aO) B1):=hid HQ.out.1
    have HF3:Hid (iC S b w (w1.setCell ⟨b,35,none⟩ (.int .i64 ev.now))):=hid (HF2.out.trans HQ.out.2 xu.out)
    have xQ:Hid (Box (w1.setCell ⟨b,35,none⟩ (.int .i64 ev.now)) w.heap.size [.int .i64 ev.kind,.int .i64 ev.aT,.int .i64 ev.n,.int .i64 ev.now,.int .i64 ev.m.src,.int .i64 ev.m.dst,.int .i64 ev.m.piece] 71):=hid (HE2.out.far ⟨b,35,none⟩ _ (fun e=>HEq.out e))
    clear HQ uS HE2 e3 d35 f35
    generalize (w1.setCell ⟨b,35,none⟩ (.int .i64 ev.now))=w5' at *
    obtain ⟨w5,hw5⟩:∃ w5,w5=w5':=⟨_,rfl⟩
    rw [← hw5] at vO xQ HF3 ⊢
    clear hw5
    have MC:=HF3
    have HTb:Hid (∀ {W:World},aY X S1 base W b ({ (M.kind ev).1 with last:=ev.now }:aO) B1→Below w5.heap.size w5 W→Tab W.heap.size W):=hid (fun hm hbl=>E5.out.mono (Nat.le_trans Ba.out (Nat.le_trans MC.out.size hbl.size)) ((HM.out.base' MC.out Ba.out).trans (hbl.mono (Nat.le_trans Ba.out MC.out.size))))
    have IW:Hid (∀ q,(S1 q∨out1 X b q)→q<w5.heap.size):=hid vO.out.LQ
    generalize hq5:w5=wq at *
    have Mz:aY X S1 base wq.drew b ({ (M.kind ev).1 with last:=ev.now }:aO) B1:=vO.out.below (aP (Below.refl _ _))
    have Ez:=xQ.out.drew
    have Lz:Below wq.drew.heap.size wq.drew wq.drew:=Below.refl _ _
    have QY:Hid (iC S1 b wq wq.drew):=hid (Fr.drew (iC.refl _ _ _))
    clear vO xQ HF3
    refine wp_region_noPanic ?_
    refine bU (S:=(fun w'=>w'.cell? ⟨b,36,none⟩=some B1.vj∧w'.cell? ⟨w.heap.size,0,none⟩=some (.int .i64 ev.kind)∧w'.cell? ⟨w.heap.size,1,none⟩=some (.int .i64 ev.aT)∧w'.cell? ⟨w.heap.size,2,none⟩=some (.int .i64 ev.n)∧w'.cell? ⟨w.heap.size,3,none⟩=some (.int .i64 ev.now)∧w'.cell? ⟨w.heap.size,4,none⟩=some (.int .i64 ev.m.src)∧w'.cell? ⟨w.heap.size,5,none⟩=some (.int .i64 ev.m.dst)∧w'.cell? ⟨w.heap.size,6,none⟩=some (.int .i64 ev.m.piece))) (L:=[13]) (by kernel_rfl) (by and_intros <;> first | exact Mz.box.cell _ rfl | exact Ez.cell _ rfl) (fun hHeld=>?_)
    refine aJ 0 ?_
    refine aJ 1 ?_
    refine eH 5 ?_
    refine aJ 2 ?_
    refine aJ 3 ?_
    refine eH 4 ?_
    refine gI 6 fun K hK=>?_
    go_simp
    refine (zM HIh.out ZN.out ev _ (HTb.out Mz (aP (Below.refl _ _))) Pv.out).mono ?_
    rintro e w6 ⟨rfl,hbb⟩
    have M6:=Mz.below hbb
    have E6:=Ez.stays hbb
    have L6:=aj Lz hbb Lz.size
    clear hbb
    refine hK.out _ _ (by and_intros <;> first | exact M6.box.cell _ rfl | exact E6.cell _ rfl) (fun hHeld=>?_)
    clear hK K
    refine gI 7 fun K hK=>?_
    go_simp
    have vN:=M6.fr.jr
    rw [show (({ (M.kind ev).1 with last:=ev.now }:aO):aO).jr=M.jr from (lN M ev).1] at vN
    refine (uU B1.vj M.jr (gQ ev) _ vN HJo.out (by have:=HJl.out; omega) (by have:=xq ev (oD Pv.out); omega)).mono ?_
    rintro e w7 ⟨vn,rfl,vK,hbb⟩
    have hap:appJ M.jr (gQ ev)=(M.jr++[ni M.jr (gQ ev)],0):=by unfold appJ; rw [if_neg (by rw [oD Pv.out]; decide)]; rfl
    rw [hap] at vK ⊢
    have DW:w7.ownsRow w6.heap.size 205 2 vn (M.jr.length+1) (iq (M.jr++[ni M.jr (gQ ev)])):=by rw [List.length_append] at vK; exact vK
    clear vK
    obtain ⟨ja,jc,rfl⟩:=aH DW
    clear hap
    have M7:=M6.below hbb
    have E7:=E6.stays hbb
    have L7:=aj L6 hbb L6.size
    have O7:w7.ownsRow w6.heap.size 205 2 (.slice ja (M.jr.length+1) jc) ((M.kind ev).1.jr.length+1) (iq ((M.kind ev).1.jr++[ni (M.kind ev).1.jr (gQ ev)])):=by rw [(lN M ev).1]; exact DW
    clear hbb
    refine hK.out _ _ (by and_intros <;> first | exact M7.box.cell _ rfl | exact E7.cell _ rfl) (fun hHeld=>?_)
    clear hK K
    refine aJ 8 ?_
    refine aJ 9 ?_
    refine aJ 10 ?_
    refine aJ 11 ?_
    refine aJ 12 ?_
    refine xU 13 fun K hK=>?_
    have dd:=M7.box.cell 36 rfl
    have df:=M7.box.frozen 36
    go_simp
    refine bg ?_
    intro rX e13
    clear dd df
    have QO:=M7.put (M':=((M.kind ev).1.put ev)) (B':={ B1 with vj:=.slice ja (M.jr.length+1) jc }) 36 [.slice ja (M.jr.length+1) jc] (by simp) rfl rfl rfl rfl (fun w' hw=>⟨(M7.rd w' hw).rd,(M7.rd w' hw).per,(M7.rd w' hw).pc,(M7.rd w' hw).pr,IZ (fD O7 hw (fun q hq h=>by have h1:=(O7.lt q hq).1; have h2:=IW.out q h; have h3:=L6.size; have h4:wq.heap.size≤w6.heap.size:=h3; omega))⟩)
    have M13:aY X S1 base rX b ((M.kind ev).1.put ev) { B1 with vj:=.slice ja (M.jr.length+1) jc }:=by rw [e13]; exact QO.1
    have MF:iC S1 b wq.drew rX:=by rw [e13]; exact (iC.new L7).trans QO.2 (iI.refl _ _)
    have E13:Box rX (w.heap.size) [.int .i64 ev.kind,.int .i64 ev.aT,.int .i64 ev.n,.int .i64 ev.now,.int .i64 ev.m.src,.int .i64 ev.m.dst,.int .i64 ev.m.piece] 71:=by rw [e13]; exact E7.far ⟨b,36,none⟩ _ (fun e=>HEq.out e)
    clear QO e13
    refine hK.out _ _ ?_
    clear hK K
    refine kW ?_
    have TR:=hid M13
    have TT:Hid (iC S1 b wq rX):=hid (QY.out.trans MF (iI.refl _ _))
    clear M6 E6 L6 M7 E7 L7 M13 E13 MF O7 DW Mz Ez Lz hHeld QY vN
    generalize rX=w8 at *
    go_wp2_with fail
    refine (yJ pq.out w8 TR.out).mono ?_
    rintro e w9 ⟨rfl,S2,B2,hm9,hs9,hf9⟩
    have kS:=hid hm9
    have Vu:Hid (iI w S S2):=hid (fun k hk h=>xu.out k hk (hs9 k (Nat.lt_of_lt_of_le hk (Nat.le_trans MC.out.size TT.out.size)) h))
    have EX:Hid (iC S b w w9):=hid ((MC.out.trans TT.out xu.out).trans hf9 xu.out)
    clear hm9 hs9 hf9
    go_wp2_with fail
    go_ret
    exact ⟨by rw [HD3.out]; rfl,S2,B2,by rw [HD3.out]; exact kS.out,Vu.out,EX.out⟩
   have yP:Hid (M.mP ev=11):=hid (by rw [NU.out,if_pos ⟨hfb,h4,h52⟩])
   have HD2:Hid (M.go ev=(M,11)):=hid (by rw [HDG.out,if_pos (by rw [yP.out]; decide),yP.out])
   by_cases h5:ev.kind=5
   ·have h5b:(ev.kind == 5)=true:=by simpa using h5
    have hn2:(ev.n == 2)=false:=by simp; exact fun h=>h52 ⟨h5,h⟩
    clear hf h4 h52 h5
    generalize (bK M.CR M.clk ev.now).ak=lf at *
    go_wp2_with fail
    go_ret
    exact ⟨by rw [HD2.out]; rfl,S,B,by rw [HD2.out]; exact wY.out,iI.refl _ _,iC.new HB1.out⟩
   ·have h5b:(ev.kind == 5)=false:=by simpa using h5
    clear hf h4 h52 h5
    generalize (bK M.CR M.clk ev.now).ak=lf at *
    go_wp2_with fail
    go_ret
    exact ⟨by rw [HD2.out]; rfl,S,B,by rw [HD2.out]; exact wY.out,iI.refl _ _,iC.new HB1.out⟩
end Go.Proofs.YteablcielclaeaaGreatDoor
