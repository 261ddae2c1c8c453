/- match's Do. -/
import Derived.Test.YtmabaojkignodaaGreatDoorE29
namespace Go.Proofs.YtmabaojkignodaaGreatDoor
open Go.ChangeShapes Go.WideShapes Go.ChangeAt Go.RowKit
set_option linter.unusedVariables false
open Go.Lib (hid)
variable {X S:Nat→Prop} {base b:Nat} {M:aG} {B:jv}
theorem DU (now:Int):∀ (f:Nat) (M:aG),(aG.runs now f M).jr=M.jr∧(aG.runs now f M).R=M.R∧(aG.runs now f M).CR=M.CR
 | 0,M=>⟨rfl,rfl,rfl⟩
 | f+1,M=>by
  rw [aG.runs]
  split
  ·split
   ·exact DU now f _
   ·exact ⟨rfl,rfl,rfl⟩
  ·exact ⟨rfl,rfl,rfl⟩
theorem jD (M:aG) (e:iY):(M.kind e).1.jr=M.jr∧(M.kind e).1.R=M.R∧(M.kind e).1.CR=M.CR:=by
 unfold aG.kind aG.jO aG.dW aG.gX aG.dK aG.eY aG.backTo
 repeat' split
 all_goals first | exact ⟨rfl,rfl,rfl⟩ | exact DU e.now 400 (M.move e.m e.now)
theorem keyed {P F:World→Nat→Prop} {G:Prop} (main:(∀ w5 bx,F w5 bx→P w5 bx)→G) (rest:∀ w5 bx,F w5 bx→P w5 bx):G:=main rest
theorem Tab.mono {base base':Nat} {w w':World} (h:Tab base w) (hb:base≤base') (hw:Below base w w'):Tab base' w':=⟨(h.below hw).1,fun g hg=>Nat.lt_of_lt_of_le (h.2 g hg) hb⟩
theorem aH.base' {w w':World} (m:aH X S base w b M B) (h:dD S b w w') (hb:base≤w.heap.size):Below base w w':=dD.base m h hb
theorem EZ {w:World} {bb:Nat} {v:Value} {es:List iL} {e:iL} (h:w.ownsRow bb 131 2 v (es.length+1) (gK (es++[e]))):zL w v (es++[e]):=by
 have h2:w.ownsRow bb 131 2 v (es++[e]).length (gK (es++[e])):=by rw [List.length_append]; exact h
 exact Rd.fD h2
set_option maxRecDepth 100000 in
set_option maxHeartbeats 32000000 in
theorem KA (HS:SortMvSaid) (HI:ItoaSaid) (HJ:sO) (ev:iY) (w:World) (h:aH X S base w b M B) (hb:base≤w.heap.size) (hi:MInv M) (hjl:M.jr.length<90) (ht:Tab base w) (hok:wW ev):Calls Tryz.prog 14 #[.pointer (some ⟨b,0,none⟩),.agg #[.int .i64 ev.kind,.int .i64 ev.au,.int .i64 ev.n,.int .i64 ev.now,.int .i64 ev.m.src,.int .i64 ev.m.dst,.int .i64 ev.m.piece]] w fun e w'=>e=.returned (.int .i64 (M.go ev).2)∧wM X S base b w (M.go ev).1 w':=by
 have HIh:=hid HI
 have Wi:=hid HJ
 have HIv:=hid hi
 have DV:=hid hjl
 have HJo:=hid hi.jo
 have nT:=hid ht
 have CX:=hid hok
 have Xt:Hid (M.go ev=if M.nK ev≠0 then (M,M.nK ev) else if (M.kind ev).2≠0 then (M,(M.kind ev).2) else (((M.kind ev).1.put ev).over,0)):=hid rfl
 clear hi hjl ht hok HI HJ
 have lY:=hid HS
 have HM:=hid h
 have qg:=hid hb
 have LJ:Hid (¬ S w.heap.size):=hid (fun hk=>by obtain ⟨up,us,ue,vl,vm,rows,hg⟩:=h.game; have:=(hg.lo _ hk).2; omega)
 have EP:Hid (b<w.heap.size):=hid h.box.lt
 clear h hb HS
 go_enter Tryz.func14,Tryz.ntmps14
 go_upto_region 1 with (fail)
 refine lM fun w0 jU dM hs_=>?_
 have jy:=hid jU
 have HB0:=hid dM
 clear hs_ jU dM
 have iZ:=hid (HM.out.below HB0.out)
 have HEq:Hid (w.heap.size≠b):=hid (fun e=>by have:=EP.out; omega)
 have e0:=jy.out.cell 0 rfl
 have e1:=jy.out.cell 1 rfl
 by_cases hA:ev.kind<0∨6<ev.kind∨(ev.au≠0∧ev.au≠1)
 ·have zx:Hid (M.nK ev=1):=hid (by unfold aG.nK; rw [if_pos hA])
  have HD2:Hid (M.go ev=(M,1)):=hid (by rw [Xt.out,if_pos (by rw [zx.out]; decide),zx.out])
  by_cases k0:ev.kind<0
  ·clear hA
   go_wp2_with fail
   go_ret
   exact ⟨by rw [HD2.out]; rfl,S,B,by rw [HD2.out]; exact iZ.out,dw.refl _ _,dD.new HB0.out⟩
  by_cases k6:6<ev.kind
  ·clear hA
   go_wp2_with fail
   go_ret
   exact ⟨by rw [HD2.out]; rfl,S,B,by rw [HD2.out]; exact iZ.out,dw.refl _ _,dD.new HB0.out⟩
  have p0:(ev.au != 0)=true:=by simp; omega
  have p1:(ev.au != 1)=true:=by simp; omega
  clear hA
  go_wp2_with fail
  go_ret
  exact ⟨by rw [HD2.out]; rfl,S,B,by rw [HD2.out]; exact iZ.out,dw.refl _ _,dD.new HB0.out⟩
 have k0:¬ ev.kind<0:=by omega
 have k6:¬ 6<ev.kind:=by omega
 go_cut [8] (fun v8 wx=>v8=.bool false∧w0=wx)
 case first =>
  by_cases hp0:ev.au=0
  ·have p0:(ev.au != 0)=false:=by simpa using hp0
   clear hp0
   go_wp2_with fail
   go_meet
   exact ⟨rfl,rfl⟩
  ·have p0:(ev.au != 0)=true:=by simpa using hp0
   have p1:(ev.au != 1)=false:=by simp; omega
   clear hp0
   go_wp2_with fail
   go_meet
   exact ⟨rfl,rfl⟩
 case rest =>
  obtain ⟨rfl,rfl⟩:=hcut
  clear k0 k6 e0 e1
  go_upto_region 3 with (fail)
  have Wn:=iZ.out.box.cell 35 rfl
  have e3:=jy.out.cell 3 rfl
  by_cases ht1:ev.now<M.last
  ·have zx:Hid (M.nK ev=11):=hid (by unfold aG.nK; rw [if_neg hA,if_pos (.inl ht1)])
   have HD2:Hid (M.go ev=(M,11)):=hid (by rw [Xt.out,if_pos (by rw [zx.out]; decide),zx.out])
   go_quiet (fail)
   have nR:Hid (aH X S base (w0.drewN nq) b M B):=hid (iZ.out.below (below_drewN (Below.refl _ _) nq))
   have xu:=hid (jy.out.drewN nq)
   have HB3:Hid (Below w.heap.size w (w0.drewN nq)):=hid (below_drewN HB0.out nq)
   clear iZ jy HB0 Wn e3
   generalize w0.drewN nq=w3 at *
   go_wp2_with fail
   go_ret
   exact ⟨by rw [HD2.out]; rfl,S,B,by rw [HD2.out]; exact nR.out,dw.refl _ _,dD.new HB3.out⟩
  by_cases ht2:100000000<ev.now
  ·have zx:Hid (M.nK ev=11):=hid (by unfold aG.nK; rw [if_neg hA,if_pos (.inr ht2)])
   have HD2:Hid (M.go ev=(M,11)):=hid (by rw [Xt.out,if_pos (by rw [zx.out]; decide),zx.out])
   go_quiet (fail)
   have nR:Hid (aH X S base (w0.drewN nq) b M B):=hid (iZ.out.below (below_drewN (Below.refl _ _) nq))
   have xu:=hid (jy.out.drewN nq)
   have HB3:Hid (Below w.heap.size w (w0.drewN nq)):=hid (below_drewN HB0.out nq)
   clear iZ jy HB0 Wn e3
   generalize w0.drewN nq=w3 at *
   go_wp2_with fail
   go_ret
   exact ⟨by rw [HD2.out]; rfl,S,B,by rw [HD2.out]; exact nR.out,dw.refl _ _,dD.new HB3.out⟩
  have HTm:Hid (¬ (ev.now<M.last∨100000000<ev.now)):=hid (by omega)
  have iH:Hid (xU M.CR∧qV M.CR M.clk∧M.clk.since≤ev.now∧ev.now≤100000000):=hid ⟨HIv.out.cr,HIv.out.ck,by have:=HIv.out.sn; omega,by omega⟩
  go_quiet (fail)
  have nR:Hid (aH X S base (w0.drewN nq) b M B):=hid (iZ.out.below (below_drewN (Below.refl _ _) nq))
  have xu:=hid (jy.out.drewN nq)
  have HB3:Hid (Below w.heap.size w (w0.drewN nq)):=hid (below_drewN HB0.out nq)
  clear iZ jy HB0 Wn e3
  generalize w0.drewN nq=w3 at *
  clear ht1 ht2
  have d16:=nR.out.box.cell 16 rfl
  by_cases hr:M.res=0
  rotate_left
  ·have zx:Hid (M.nK ev=14):=hid (by unfold aG.nK; rw [if_neg hA,if_neg HTm.out,if_pos hr])
   have HD2:Hid (M.go ev=(M,14)):=hid (by rw [Xt.out,if_pos (by rw [zx.out]; decide),zx.out])
   have hrb:(M.res != 0)=true:=by simpa using hr
   clear hr
   generalize M.res=rr at *
   go_wp2_with fail
   go_ret
   exact ⟨by rw [HD2.out]; rfl,S,B,by rw [HD2.out]; exact nR.out,dw.refl _ _,dD.new HB3.out⟩
  have XL:Hid (M.nK ev=if 0≤(aV M.CR M.clk ev.now).ak∧ev.kind≠4∧¬ (ev.kind=5∧ev.n=2) then 11 else 0):=hid (by unfold aG.nK; rw [if_neg hA,if_neg HTm.out,if_neg (fun h=>h hr),if_neg (by have:=DV.out; omega)])
  have hrb:(M.res != 0)=false:=by simpa using hr
  have d36:=nR.out.box.cell 36 rfl
  obtain ⟨ja0,jc0,hja,hjc,hjm,-⟩:=nR.out.fr.jr.form
  unfold maxLen at hjm
  have afo:w3.cell? ⟨b,36,none⟩=some (.slice ja0 M.jr.length jc0):=d36.trans (by rw [← hja])
  have hjl:((M.jr.length:Int) == 1000)=false:=by have:=DV.out; simp; omega
  clear hr d36 hja
  go_upto_region 9 with (fail)
  clear hrb d16 afo hjl hjc hjm
  generalize w3=wq at *
  have Mz:aH X S base wq.drew b M B:=nR.out.below (aA (Below.refl _ _))
  have Ez:=xu.out.drew
  have Lz:Below wq.drew.heap.size wq.drew wq.drew:=Below.refl _ _
  have gQ:Hid (Below w.heap.size w wq.drew):=hid (aA HB3.out)
  clear nR xu HB3
  refine' keyed (F:=fun w5 bx=>Hid (aH X S base w5 b M B)∧Hid (Box w5 w.heap.size [.int .i64 ev.kind,.int .i64 ev.au,.int .i64 ev.n,.int .i64 ev.now,.int .i64 ev.m.src,.int .i64 ev.m.dst,.int .i64 ev.m.piece] 54)∧Hid (Below w.heap.size w w5)∧Hid (Box w5 bx [.int .i64 (aV M.CR M.clk ev.now).l0,.int .i64 (aV M.CR M.clk ev.now).l1,.int .i64 (aV M.CR M.clk ev.now).m0,.int .i64 (aV M.CR M.clk ev.now).m1,.int .i64 (aV M.CR M.clk ev.now).p0,.int .i64 (aV M.CR M.clk ev.now).p1,.int .i64 (aV M.CR M.clk ev.now).turn,.int .i64 (aV M.CR M.clk ev.now).since,.bool (aV M.CR M.clk ev.now).st,.int .i64 (aV M.CR M.clk ev.now).ak] 67)) ?main ?rest
  case main =>
   intro key
   refine wp_region_noPanic ?_
   refine bG (S:=(fun w'=>w'.cell? ⟨b,11,none⟩=some (.slice B.pa M.CR.ps.length B.pc)∧w'.cell? ⟨b,12,none⟩=some (.int .i64 M.CR.inc)∧w'.cell? ⟨b,13,none⟩=some (.int .i64 M.CR.delay)∧w'.cell? ⟨b,18,none⟩=some (.int .i64 M.clk.l0)∧w'.cell? ⟨b,19,none⟩=some (.int .i64 M.clk.l1)∧w'.cell? ⟨b,20,none⟩=some (.int .i64 M.clk.m0)∧w'.cell? ⟨b,21,none⟩=some (.int .i64 M.clk.m1)∧w'.cell? ⟨b,22,none⟩=some (.int .i64 M.clk.p0)∧w'.cell? ⟨b,23,none⟩=some (.int .i64 M.clk.p1)∧w'.cell? ⟨b,24,none⟩=some (.int .i64 M.clk.turn)∧w'.cell? ⟨b,25,none⟩=some (.int .i64 M.clk.since)∧w'.cell? ⟨b,26,none⟩=some (.bool M.clk.st)∧w'.cell? ⟨b,27,none⟩=some (.int .i64 M.clk.ak)∧w'.cell? ⟨w.heap.size,3,none⟩=some (.int .i64 ev.now))) (L:=[]) (by kernel_rfl) (by and_intros <;> first | exact Mz.box.cell _ rfl | exact Ez.cell _ rfl) (fun hHeld=>?_)
   refine aF 0 ?_
   refine aF 4 ?_
   refine aF 9 ?_
   refine aF 1 ?_
   refine aF 5 ?_
   refine dL 10 ?_
   refine aF 2 ?_
   refine aF 6 ?_
   refine dL 3 ?_
   refine aF 7 ?_
   refine dL 8 ?_
   refine IL (rs:=[11,15]) ?_
   refine (aO.cons (by first | (simp only [List.getElem?_toArray,List.getElem?_cons_zero,List.getElem?_cons_succ] <;> rfl) | rfl) (fun K hK=>?_) (aO.cons (by first | (simp only [List.getElem?_toArray,List.getElem?_cons_zero,List.getElem?_cons_succ] <;> rfl) | rfl) (fun K hK=>?_) aO.nil))
   ·skip
    go_simp
    refine (sK M.CR M.clk ev.now B.pa B.pc _ iH.out.1 iH.out.2.1 iH.out.2.2.1 iH.out.2.2.2 Mz.fr.per).mono ?_
    rintro e ku ⟨rfl,hbb⟩
    unfold Bc
    have M11:=Mz.below hbb
    have nS:=Ez.stays hbb
    have jR:=aj Lz hbb Lz.size
    clear hbb
    refine hK.out _ _ (by and_intros <;> first | exact M11.box.cell _ rfl | exact nS.cell _ rfl) (fun hHeld=>?_)
    clear hK K
    refine aF 12 ?_
    refine aF 13 ?_
    refine aF 14 ?_
    refine dO 15 fun K hK=>?_
    go_simp
    refine aK ?_
    intro mZ e15
    have hbb:Below ku.heap.size ku mZ:=by rw [e15]; exact (Below.refl _ _).alloc (Nat.le_refl _) _
    have Bg:Box mZ (ku.heap.size) [.int .i64 0,.int .i64 0,.int .i64 0,.int .i64 0,.int .i64 0,.int .i64 0,.int .i64 0,.int .i64 0,.bool false,.int .i64 0] 67:=by rw [e15]; exact Box.new' _ _ _ _ rfl
    have sZ:=M11.below hbb
    have vC:=nS.stays hbb
    have xA:=aj jR hbb jR.size
    clear hbb e15
    refine hK.out _ _ (by and_intros <;> first | exact sZ.box.cell _ rfl | exact vC.cell _ rfl) (fun hHeld=>?_)
    clear hK K
    refine dO 16 fun K hK=>?_
    rw [if_pos (by rfl)]
    refine wp_store_mid 67 (.tmp 5) (.tmp 67) (by rfl) (ku.heap.size) 0 #[.int .i64 (aV M.CR M.clk ev.now).l0,.int .i64 (aV M.CR M.clk ev.now).l1,.int .i64 (aV M.CR M.clk ev.now).m0,.int .i64 (aV M.CR M.clk ev.now).m1,.int .i64 (aV M.CR M.clk ev.now).p0,.int .i64 (aV M.CR M.clk ev.now).p1,.int .i64 (aV M.CR M.clk ev.now).turn,.int .i64 (aV M.CR M.clk ev.now).since,.bool (aV M.CR M.clk ev.now).st,.int .i64 (aV M.CR M.clk ev.now).ak] (by rfl) (by rfl) (Bg.has 0 10 (by simp)) (by kernel_rfl) (by simp [Value.oneCell']) ?_
    refine aK ?_
    intro w16 e16
    have qj:Box w16 (ku.heap.size) [.int .i64 (aV M.CR M.clk ev.now).l0,.int .i64 (aV M.CR M.clk ev.now).l1,.int .i64 (aV M.CR M.clk ev.now).m0,.int .i64 (aV M.CR M.clk ev.now).m1,.int .i64 (aV M.CR M.clk ev.now).p0,.int .i64 (aV M.CR M.clk ev.now).p1,.int .i64 (aV M.CR M.clk ev.now).turn,.int .i64 (aV M.CR M.clk ev.now).since,.bool (aV M.CR M.clk ev.now).st,.int .i64 (aV M.CR M.clk ev.now).ak] 67:=by rw [e16]; exact Bg.store rfl
    have hbn:wq.heap.size≤ku.heap.size:=jR.size
    have kH:Below wq.drew.heap.size wq.drew w16:=by rw [e16]; exact below_setCells xA hbn 0 _
    have lT:=Mz.below kH
    have mO:=Ez.stays kH
    clear e16 hbn
    refine hK.out _ _ (by and_intros <;> first | exact lT.box.cell _ rfl | exact mO.cell _ rfl) (fun hHeld=>?_)
    clear hK K
    refine aF 17 ?_
    refine iE ?_
    have bM:=hid lT
    have gW:=hid mO
    have HB1:Hid (Below w.heap.size w w16):=hid (aj gQ.out kH gQ.out.size)
    have dn:=hid qj
    clear M11 nS jR sZ vC xA lT mO kH hHeld Bg qj
    generalize ku.heap.size=bx at dn ⊢
    exact key w16 bx ⟨bM,gW,HB1,dn⟩
   ·skip
    go_simp
    refine aK ?_
    intro mZ e15
    have hbb:Below wq.drew.heap.size wq.drew mZ:=by rw [e15]; exact (Below.refl _ _).alloc (Nat.le_refl _) _
    have Bg:Box mZ (wq.heap.size) [.int .i64 0,.int .i64 0,.int .i64 0,.int .i64 0,.int .i64 0,.int .i64 0,.int .i64 0,.int .i64 0,.bool false,.int .i64 0] 67:=by rw [e15]; exact Box.new' _ _ _ _ rfl
    have sZ:=Mz.below hbb
    have vC:=Ez.stays hbb
    have xA:=aj Lz hbb Lz.size
    clear hbb e15
    refine hK.out _ _ (by and_intros <;> first | exact sZ.box.cell _ rfl | exact vC.cell _ rfl) (fun hHeld=>?_)
    clear hK K
    refine dO 11 fun K hK=>?_
    go_simp
    refine (sK M.CR M.clk ev.now B.pa B.pc _ iH.out.1 iH.out.2.1 iH.out.2.2.1 iH.out.2.2.2 sZ.fr.per).mono ?_
    rintro e ku ⟨rfl,hbb⟩
    unfold Bc
    have M11:=sZ.below hbb
    have nS:=vC.stays hbb
    have jR:=aj xA hbb xA.size
    have C9:=Bg.stays hbb
    clear hbb
    refine hK.out _ _ (by and_intros <;> first | exact M11.box.cell _ rfl | exact nS.cell _ rfl) (fun hHeld=>?_)
    clear hK K
    refine aF 12 ?_
    refine aF 13 ?_
    refine aF 14 ?_
    refine dO 16 fun K hK=>?_
    rw [if_pos (by rfl)]
    refine wp_store_mid 67 (.tmp 5) (.tmp 67) (by rfl) (wq.heap.size) 0 #[.int .i64 (aV M.CR M.clk ev.now).l0,.int .i64 (aV M.CR M.clk ev.now).l1,.int .i64 (aV M.CR M.clk ev.now).m0,.int .i64 (aV M.CR M.clk ev.now).m1,.int .i64 (aV M.CR M.clk ev.now).p0,.int .i64 (aV M.CR M.clk ev.now).p1,.int .i64 (aV M.CR M.clk ev.now).turn,.int .i64 (aV M.CR M.clk ev.now).since,.bool (aV M.CR M.clk ev.now).st,.int .i64 (aV M.CR M.clk ev.now).ak] (by rfl) (by rfl) (C9.has 0 10 (by simp)) (by kernel_rfl) (by simp [Value.oneCell']) ?_
    refine aK ?_
    intro w16 e16
    have qj:Box w16 (wq.heap.size) [.int .i64 (aV M.CR M.clk ev.now).l0,.int .i64 (aV M.CR M.clk ev.now).l1,.int .i64 (aV M.CR M.clk ev.now).m0,.int .i64 (aV M.CR M.clk ev.now).m1,.int .i64 (aV M.CR M.clk ev.now).p0,.int .i64 (aV M.CR M.clk ev.now).p1,.int .i64 (aV M.CR M.clk ev.now).turn,.int .i64 (aV M.CR M.clk ev.now).since,.bool (aV M.CR M.clk ev.now).st,.int .i64 (aV M.CR M.clk ev.now).ak] 67:=by rw [e16]; exact C9.store rfl
    have hbn:wq.heap.size≤wq.heap.size:=Nat.le_refl _
    have kH:Below wq.drew.heap.size wq.drew w16:=by rw [e16]; exact below_setCells jR hbn 0 _
    have lT:=Mz.below kH
    have mO:=Ez.stays kH
    clear e16 hbn
    refine hK.out _ _ (by and_intros <;> first | exact lT.box.cell _ rfl | exact mO.cell _ rfl) (fun hHeld=>?_)
    clear hK K
    refine aF 17 ?_
    refine iE ?_
    have bM:=hid lT
    have gW:=hid mO
    have HB1:Hid (Below w.heap.size w w16):=hid (aj gQ.out kH gQ.out.size)
    have dn:=hid qj
    clear M11 nS jR sZ vC xA lT mO kH hHeld Bg C9 qj
    obtain ⟨bx,hbx⟩:∃ bx,bx=wq.heap.size:=⟨_,rfl⟩
    rw [← hbx] at dn ⊢
    clear hbx
    exact key w16 bx ⟨bM,gW,HB1,dn⟩
  case rest =>
   rintro w5 bx ⟨bM,gW,HB1,dn⟩
   clear Mz Ez Lz gQ
   have x9:=dn.out.cell 9 rfl
   have e0:=gW.out.cell 0 rfl
   have e2:=gW.out.cell 2 rfl
   by_cases hf:(aV M.CR M.clk ev.now).ak<0
   ·have zx:Hid (M.nK ev=0):=hid (by rw [XL.out,if_neg (by omega)])
    have hfb:¬ (0≤(aV M.CR M.clk ev.now).ak):=by omega
    generalize (aV M.CR M.clk ev.now).ak=lf at *
    have FP:Hid (EvPre M ev):=hid (zM HIv.out zx.out)
    have Bo:Hid (M.go ev=if (M.kind ev).2≠0 then (M,(M.kind ev).2) else (((M.kind ev).1.put ev).over,0)):=hid (by rw [Xt.out,if_neg (fun h=>h zx.out)])
    have SE:Hid (base≤w5.heap.size):=hid (Nat.le_trans qg.out HB1.out.size)
    go_upto_region 12 with (fail)
    have e0:=gW.out.cell 0 rfl
    have e1:=gW.out.cell 1 rfl
    have e2:=gW.out.cell 2 rfl
    have e3:=gW.out.cell 3 rfl
    have e4:=gW.out.cell 4 rfl
    have e5:=gW.out.cell 5 rfl
    have e6:=gW.out.cell 6 rfl
    go_wp2_with fail
    clear e0 e1 e2 e3 e4 e5 e6
    refine (Bj lY.out ev w5 bM.out SE.out FP.out).mono ?_
    rintro e w1 ⟨rfl,S1,B1,hm1,hs1,hf1⟩
    have ou:=hid hm1
    have wV:Hid (dw w S S1):=hid (fun k hk h=>hs1 k (Nat.lt_of_lt_of_le hk HB1.out.size) h)
    have HF2:Hid (dD S b w w1):=hid ((dD.new HB1.out).trans hf1 (dw.refl _ _))
    have HE2:Hid (Box w1 w.heap.size [.int .i64 ev.kind,.int .i64 ev.au,.int .i64 ev.n,.int .i64 ev.now,.int .i64 ev.m.src,.int .i64 ev.m.dst,.int .i64 ev.m.piece] 54):=hid (gW.out.held hf1 (fun h=>by rcases h with h | h; exact LJ.out h; have h2:w.heap.size=b:=h; have:=EP.out; omega))
    clear hm1 hs1 hf1 bM gW
    by_cases hz:(M.kind ev).2=0
    rotate_left
    ·have HD2:Hid (M.go ev=(M,(M.kind ev).2)):=hid (by rw [Bo.out,if_pos hz])
     have HKb:Hid ((M.kind ev).1=M):=hid (AL M ev hz)
     have hzb:((M.kind ev).2 != 0)=true:=by simpa using hz
     rw [HKb.out] at ou
     clear hz
     generalize (M.kind ev).2=kc at *
     go_wp2_with fail
     go_ret
     exact ⟨by rw [HD2.out]; rfl,S1,B1,by rw [HD2.out]; exact ou.out,wV.out,HF2.out⟩
    have HD3:Hid (M.go ev=(((M.kind ev).1.put ev).over,0)):=hid (by rw [Bo.out,if_neg (fun h=>h hz)])
    rw [hz]
    clear hz Bo
    have e3:=HE2.out.cell 3 rfl
    have Wn:=ou.out.box.cell 35 rfl
    have f35:=ou.out.box.frozen 35
    go_upto_region 16 with (fail)
    have HQ:=hid (ou.out.put (M':=({ (M.kind ev).1 with last:=ev.now }:aG)) (B':=B1) 35 [.int .i64 ev.now] (by simp) rfl rfl rfl rfl (ou.out.rd.imp (fun _ h=>⟨h.rd,h.per,h.pc,h.pr,h.jr⟩)))
    have nR:Hid (aH X S1 base (w1.setCell ⟨b,35,none⟩ (.int .i64 ev.now)) b ({ (M.kind ev).1 with last:=ev.now }:aG) B1):=hid HQ.out.1
    have HF3:Hid (dD S b w (w1.setCell ⟨b,35,none⟩ (.int .i64 ev.now))):=hid (HF2.out.trans HQ.out.2 wV.out)
    have xu:Hid (Box (w1.setCell ⟨b,35,none⟩ (.int .i64 ev.now)) w.heap.size [.int .i64 ev.kind,.int .i64 ev.au,.int .i64 ev.n,.int .i64 ev.now,.int .i64 ev.m.src,.int .i64 ev.m.dst,.int .i64 ev.m.piece] 54):=hid (HE2.out.far ⟨b,35,none⟩ _ (fun e=>HEq.out e))
    clear HQ ou HE2 e3 Wn f35
    generalize (w1.setCell ⟨b,35,none⟩ (.int .i64 ev.now))=w5' at *
    obtain ⟨w5,hw5⟩:∃ w5,w5=w5':=⟨_,rfl⟩
    rw [← hw5] at nR xu HF3 ⊢
    clear hw5
    have EU:=HF3
    have HTb:Hid (∀ {W:World},aH X S1 base W b ({ (M.kind ev).1 with last:=ev.now }:aG) B1→Below w5.heap.size w5 W→Tab W.heap.size W):=hid (fun hm hbl=>nT.out.mono (Nat.le_trans qg.out (Nat.le_trans EU.out.size hbl.size)) ((HM.out.base' EU.out qg.out).trans (hbl.mono (Nat.le_trans qg.out EU.out.size))))
    have BU:Hid (∀ q,(S1 q∨out1 X b q)→q<w5.heap.size):=hid nR.out.wL
    generalize hq5:w5=wq at *
    have Mz:aH X S1 base wq.drew b ({ (M.kind ev).1 with last:=ev.now }:aG) B1:=nR.out.below (aA (Below.refl _ _))
    have Ez:=xu.out.drew
    have Lz:Below wq.drew.heap.size wq.drew wq.drew:=Below.refl _ _
    have gQ:Hid (dD S1 b wq wq.drew):=hid (Fr.drew (dD.refl _ _ _))
    clear nR xu HF3
    refine wp_region_noPanic ?_
    refine bG (S:=(fun w'=>w'.cell? ⟨b,36,none⟩=some B1.vj∧w'.cell? ⟨w.heap.size,0,none⟩=some (.int .i64 ev.kind)∧w'.cell? ⟨w.heap.size,1,none⟩=some (.int .i64 ev.au)∧w'.cell? ⟨w.heap.size,2,none⟩=some (.int .i64 ev.n)∧w'.cell? ⟨w.heap.size,3,none⟩=some (.int .i64 ev.now)∧w'.cell? ⟨w.heap.size,4,none⟩=some (.int .i64 ev.m.src)∧w'.cell? ⟨w.heap.size,5,none⟩=some (.int .i64 ev.m.dst)∧w'.cell? ⟨w.heap.size,6,none⟩=some (.int .i64 ev.m.piece))) (L:=[13]) (by kernel_rfl) (by and_intros <;> first | exact Mz.box.cell _ rfl | exact Ez.cell _ rfl) (fun hHeld=>?_)
    refine aF 0 ?_
    refine aF 1 ?_
    refine dL 5 ?_
    refine aF 2 ?_
    refine aF 3 ?_
    refine dL 4 ?_
    refine dO 6 fun K hK=>?_
    go_simp
    refine (yu HIh.out Wi.out ev _ (HTb.out Mz (aA (Below.refl _ _))) CX.out).mono ?_
    rintro e w6 ⟨rfl,hbb⟩
    have M6:=Mz.below hbb
    have E6:=Ez.stays hbb
    have L6:=aj Lz hbb Lz.size
    clear hbb
    refine hK.out _ _ (by and_intros <;> first | exact M6.box.cell _ rfl | exact E6.cell _ rfl) (fun hHeld=>?_)
    clear hK K
    refine dO 7 fun K hK=>?_
    go_simp
    have AZ:=M6.fr.jr
    rw [show (({ (M.kind ev).1 with last:=ev.now }:aG):aG).jr=M.jr from (jD M ev).1] at AZ
    refine (sJ B1.vj M.jr (bV ev) _ AZ HJo.out (by have:=DV.out; omega) (by have:=qJ ev (lH CX.out); omega)).mono ?_
    rintro e w7 ⟨vn,rfl,uY,hbb⟩
    have hap:appJ M.jr (bV ev)=(M.jr++[jS M.jr (bV ev)],0):=by unfold appJ; rw [if_neg (by rw [lH CX.out]; decide)]; rfl
    rw [hap] at uY ⊢
    have Bq:w7.ownsRow w6.heap.size 131 2 vn (M.jr.length+1) (gK (M.jr++[jS M.jr (bV ev)])):=by rw [List.length_append] at uY; exact uY
    clear uY
    obtain ⟨ja,jc,rfl⟩:=aI Bq
    clear hap
    have M7:=M6.below hbb
    have E7:=E6.stays hbb
    have L7:=aj L6 hbb L6.size
    have O7:w7.ownsRow w6.heap.size 131 2 (.slice ja (M.jr.length+1) jc) ((M.kind ev).1.jr.length+1) (gK ((M.kind ev).1.jr++[jS (M.kind ev).1.jr (bV ev)])):=by rw [(jD M ev).1]; exact Bq
    clear hbb
    refine hK.out _ _ (by and_intros <;> first | exact M7.box.cell _ rfl | exact E7.cell _ rfl) (fun hHeld=>?_)
    clear hK K
    refine aF 8 ?_
    refine aF 9 ?_
    refine aF 10 ?_
    refine aF 11 ?_
    refine aF 12 ?_
    refine xE 13 fun K hK=>?_
    have dd:=M7.box.cell 36 rfl
    have df:=M7.box.frozen 36
    go_simp
    refine aK ?_
    intro jY e13
    clear dd df
    have Lu:=M7.put (M':=((M.kind ev).1.put ev)) (B':={ B1 with vj:=.slice ja (M.jr.length+1) jc }) 36 [.slice ja (M.jr.length+1) jc] (by simp) rfl rfl rfl rfl (fun w' hw=>⟨(M7.rd w' hw).rd,(M7.rd w' hw).per,(M7.rd w' hw).pc,(M7.rd w' hw).pr,EZ (gV O7 hw (fun q hq h=>by have h1:=(O7.lt q hq).1; have h2:=BU.out q h; have h3:=L6.size; have h4:wq.heap.size≤w6.heap.size:=h3; omega))⟩)
    have M13:aH X S1 base jY b ((M.kind ev).1.put ev) { B1 with vj:=.slice ja (M.jr.length+1) jc }:=by rw [e13]; exact Lu.1
    have Iu:dD S1 b wq.drew jY:=by rw [e13]; exact (dD.new L7).trans Lu.2 (dw.refl _ _)
    have E13:Box jY (w.heap.size) [.int .i64 ev.kind,.int .i64 ev.au,.int .i64 ev.n,.int .i64 ev.now,.int .i64 ev.m.src,.int .i64 ev.m.dst,.int .i64 ev.m.piece] 54:=by rw [e13]; exact E7.far ⟨b,36,none⟩ _ (fun e=>HEq.out e)
    clear Lu e13
    refine hK.out _ _ ?_
    clear hK K
    refine iE ?_
    have zu:=hid M13
    have Ko:Hid (dD S1 b wq jY):=hid (gQ.out.trans Iu (dw.refl _ _))
    clear M6 E6 L6 M7 E7 L7 M13 E13 Iu O7 Bq Mz Ez Lz hHeld gQ AZ
    generalize jY=w8 at *
    go_wp2_with fail
    refine (wO lY.out w8 zu.out).mono ?_
    rintro e w9 ⟨rfl,S2,B2,Xu,hs9,Xv⟩
    have lG:=hid Xu
    have HS9:Hid (dw w S S2):=hid (fun k hk h=>wV.out k hk (hs9 k (Nat.lt_of_lt_of_le hk (Nat.le_trans EU.out.size Ko.out.size)) h))
    have FI:Hid (dD S b w w9):=hid ((EU.out.trans Ko.out wV.out).trans Xv wV.out)
    clear Xu hs9 Xv
    go_wp2_with fail
    go_ret
    exact ⟨by rw [HD3.out]; rfl,S2,B2,by rw [HD3.out]; exact lG.out,HS9.out,FI.out⟩
   have hfb:0≤(aV M.CR M.clk ev.now).ak:=by omega
   by_cases h4:ev.kind=4
   ·have zx:Hid (M.nK ev=0):=hid (by rw [XL.out,if_neg (by omega)])
    have h4b:(ev.kind != 4)=false:=by simpa using h4
    have h45:(ev.kind == 5)=false:=by simp; omega
    clear hf h4
    generalize (aV M.CR M.clk ev.now).ak=lf at *
    have FP:Hid (EvPre M ev):=hid (zM HIv.out zx.out)
    have Bo:Hid (M.go ev=if (M.kind ev).2≠0 then (M,(M.kind ev).2) else (((M.kind ev).1.put ev).over,0)):=hid (by rw [Xt.out,if_neg (fun h=>h zx.out)])
    have SE:Hid (base≤w5.heap.size):=hid (Nat.le_trans qg.out HB1.out.size)
    go_upto_region 12 with (fail)
    have e0:=gW.out.cell 0 rfl
    have e1:=gW.out.cell 1 rfl
    have e2:=gW.out.cell 2 rfl
    have e3:=gW.out.cell 3 rfl
    have e4:=gW.out.cell 4 rfl
    have e5:=gW.out.cell 5 rfl
    have e6:=gW.out.cell 6 rfl
    go_wp2_with fail
    clear e0 e1 e2 e3 e4 e5 e6
    refine (Bj lY.out ev w5 bM.out SE.out FP.out).mono ?_
    rintro e w1 ⟨rfl,S1,B1,hm1,hs1,hf1⟩
    have ou:=hid hm1
    have wV:Hid (dw w S S1):=hid (fun k hk h=>hs1 k (Nat.lt_of_lt_of_le hk HB1.out.size) h)
    have HF2:Hid (dD S b w w1):=hid ((dD.new HB1.out).trans hf1 (dw.refl _ _))
    have HE2:Hid (Box w1 w.heap.size [.int .i64 ev.kind,.int .i64 ev.au,.int .i64 ev.n,.int .i64 ev.now,.int .i64 ev.m.src,.int .i64 ev.m.dst,.int .i64 ev.m.piece] 54):=hid (gW.out.held hf1 (fun h=>by rcases h with h | h; exact LJ.out h; have h2:w.heap.size=b:=h; have:=EP.out; omega))
    clear hm1 hs1 hf1 bM gW
    by_cases hz:(M.kind ev).2=0
    rotate_left
    ·have HD2:Hid (M.go ev=(M,(M.kind ev).2)):=hid (by rw [Bo.out,if_pos hz])
     have HKb:Hid ((M.kind ev).1=M):=hid (AL M ev hz)
     have hzb:((M.kind ev).2 != 0)=true:=by simpa using hz
     rw [HKb.out] at ou
     clear hz
     generalize (M.kind ev).2=kc at *
     go_wp2_with fail
     go_ret
     exact ⟨by rw [HD2.out]; rfl,S1,B1,by rw [HD2.out]; exact ou.out,wV.out,HF2.out⟩
    have HD3:Hid (M.go ev=(((M.kind ev).1.put ev).over,0)):=hid (by rw [Bo.out,if_neg (fun h=>h hz)])
    rw [hz]
    clear hz Bo
    have e3:=HE2.out.cell 3 rfl
    have Wn:=ou.out.box.cell 35 rfl
    have f35:=ou.out.box.frozen 35
    go_upto_region 16 with (fail)
    have HQ:=hid (ou.out.put (M':=({ (M.kind ev).1 with last:=ev.now }:aG)) (B':=B1) 35 [.int .i64 ev.now] (by simp) rfl rfl rfl rfl (ou.out.rd.imp (fun _ h=>⟨h.rd,h.per,h.pc,h.pr,h.jr⟩)))
    have nR:Hid (aH X S1 base (w1.setCell ⟨b,35,none⟩ (.int .i64 ev.now)) b ({ (M.kind ev).1 with last:=ev.now }:aG) B1):=hid HQ.out.1
    have HF3:Hid (dD S b w (w1.setCell ⟨b,35,none⟩ (.int .i64 ev.now))):=hid (HF2.out.trans HQ.out.2 wV.out)
    have xu:Hid (Box (w1.setCell ⟨b,35,none⟩ (.int .i64 ev.now)) w.heap.size [.int .i64 ev.kind,.int .i64 ev.au,.int .i64 ev.n,.int .i64 ev.now,.int .i64 ev.m.src,.int .i64 ev.m.dst,.int .i64 ev.m.piece] 54):=hid (HE2.out.far ⟨b,35,none⟩ _ (fun e=>HEq.out e))
    clear HQ ou HE2 e3 Wn f35
    generalize (w1.setCell ⟨b,35,none⟩ (.int .i64 ev.now))=w5' at *
    obtain ⟨w5,hw5⟩:∃ w5,w5=w5':=⟨_,rfl⟩
    rw [← hw5] at nR xu HF3 ⊢
    clear hw5
    have EU:=HF3
    have HTb:Hid (∀ {W:World},aH X S1 base W b ({ (M.kind ev).1 with last:=ev.now }:aG) B1→Below w5.heap.size w5 W→Tab W.heap.size W):=hid (fun hm hbl=>nT.out.mono (Nat.le_trans qg.out (Nat.le_trans EU.out.size hbl.size)) ((HM.out.base' EU.out qg.out).trans (hbl.mono (Nat.le_trans qg.out EU.out.size))))
    have BU:Hid (∀ q,(S1 q∨out1 X b q)→q<w5.heap.size):=hid nR.out.wL
    generalize hq5:w5=wq at *
    have Mz:aH X S1 base wq.drew b ({ (M.kind ev).1 with last:=ev.now }:aG) B1:=nR.out.below (aA (Below.refl _ _))
    have Ez:=xu.out.drew
    have Lz:Below wq.drew.heap.size wq.drew wq.drew:=Below.refl _ _
    have gQ:Hid (dD S1 b wq wq.drew):=hid (Fr.drew (dD.refl _ _ _))
    clear nR xu HF3
    refine wp_region_noPanic ?_
    refine bG (S:=(fun w'=>w'.cell? ⟨b,36,none⟩=some B1.vj∧w'.cell? ⟨w.heap.size,0,none⟩=some (.int .i64 ev.kind)∧w'.cell? ⟨w.heap.size,1,none⟩=some (.int .i64 ev.au)∧w'.cell? ⟨w.heap.size,2,none⟩=some (.int .i64 ev.n)∧w'.cell? ⟨w.heap.size,3,none⟩=some (.int .i64 ev.now)∧w'.cell? ⟨w.heap.size,4,none⟩=some (.int .i64 ev.m.src)∧w'.cell? ⟨w.heap.size,5,none⟩=some (.int .i64 ev.m.dst)∧w'.cell? ⟨w.heap.size,6,none⟩=some (.int .i64 ev.m.piece))) (L:=[13]) (by kernel_rfl) (by and_intros <;> first | exact Mz.box.cell _ rfl | exact Ez.cell _ rfl) (fun hHeld=>?_)
    refine aF 0 ?_
    refine aF 1 ?_
    refine dL 5 ?_
    refine aF 2 ?_
    refine aF 3 ?_
    refine dL 4 ?_
    refine dO 6 fun K hK=>?_
    go_simp
    refine (yu HIh.out Wi.out ev _ (HTb.out Mz (aA (Below.refl _ _))) CX.out).mono ?_
    rintro e w6 ⟨rfl,hbb⟩
    have M6:=Mz.below hbb
    have E6:=Ez.stays hbb
    have L6:=aj Lz hbb Lz.size
    clear hbb
    refine hK.out _ _ (by and_intros <;> first | exact M6.box.cell _ rfl | exact E6.cell _ rfl) (fun hHeld=>?_)
    clear hK K
    refine dO 7 fun K hK=>?_
    go_simp
    have AZ:=M6.fr.jr
    rw [show (({ (M.kind ev).1 with last:=ev.now }:aG):aG).jr=M.jr from (jD M ev).1] at AZ
    refine (sJ B1.vj M.jr (bV ev) _ AZ HJo.out (by have:=DV.out; omega) (by have:=qJ ev (lH CX.out); omega)).mono ?_
    rintro e w7 ⟨vn,rfl,uY,hbb⟩
    have hap:appJ M.jr (bV ev)=(M.jr++[jS M.jr (bV ev)],0):=by unfold appJ; rw [if_neg (by rw [lH CX.out]; decide)]; rfl
    rw [hap] at uY ⊢
    have Bq:w7.ownsRow w6.heap.size 131 2 vn (M.jr.length+1) (gK (M.jr++[jS M.jr (bV ev)])):=by rw [List.length_append] at uY; exact uY
    clear uY
    obtain ⟨ja,jc,rfl⟩:=aI Bq
    clear hap
    have M7:=M6.below hbb
    have E7:=E6.stays hbb
    have L7:=aj L6 hbb L6.size
    have O7:w7.ownsRow w6.heap.size 131 2 (.slice ja (M.jr.length+1) jc) ((M.kind ev).1.jr.length+1) (gK ((M.kind ev).1.jr++[jS (M.kind ev).1.jr (bV ev)])):=by rw [(jD M ev).1]; exact Bq
    clear hbb
    refine hK.out _ _ (by and_intros <;> first | exact M7.box.cell _ rfl | exact E7.cell _ rfl) (fun hHeld=>?_)
    clear hK K
    refine aF 8 ?_
    refine aF 9 ?_
    refine aF 10 ?_
    refine aF 11 ?_
    refine aF 12 ?_
    refine xE 13 fun K hK=>?_
    have dd:=M7.box.cell 36 rfl
    have df:=M7.box.frozen 36
    go_simp
    refine aK ?_
    intro jY e13
    clear dd df
    have Lu:=M7.put (M':=((M.kind ev).1.put ev)) (B':={ B1 with vj:=.slice ja (M.jr.length+1) jc }) 36 [.slice ja (M.jr.length+1) jc] (by simp) rfl rfl rfl rfl (fun w' hw=>⟨(M7.rd w' hw).rd,(M7.rd w' hw).per,(M7.rd w' hw).pc,(M7.rd w' hw).pr,EZ (gV O7 hw (fun q hq h=>by have h1:=(O7.lt q hq).1; have h2:=BU.out q h; have h3:=L6.size; have h4:wq.heap.size≤w6.heap.size:=h3; omega))⟩)
    have M13:aH X S1 base jY b ((M.kind ev).1.put ev) { B1 with vj:=.slice ja (M.jr.length+1) jc }:=by rw [e13]; exact Lu.1
    have Iu:dD S1 b wq.drew jY:=by rw [e13]; exact (dD.new L7).trans Lu.2 (dw.refl _ _)
    have E13:Box jY (w.heap.size) [.int .i64 ev.kind,.int .i64 ev.au,.int .i64 ev.n,.int .i64 ev.now,.int .i64 ev.m.src,.int .i64 ev.m.dst,.int .i64 ev.m.piece] 54:=by rw [e13]; exact E7.far ⟨b,36,none⟩ _ (fun e=>HEq.out e)
    clear Lu e13
    refine hK.out _ _ ?_
    clear hK K
    refine iE ?_
    have zu:=hid M13
    have Ko:Hid (dD S1 b wq jY):=hid (gQ.out.trans Iu (dw.refl _ _))
    clear M6 E6 L6 M7 E7 L7 M13 E13 Iu O7 Bq Mz Ez Lz hHeld gQ AZ
    generalize jY=w8 at *
    go_wp2_with fail
    refine (wO lY.out w8 zu.out).mono ?_
    rintro e w9 ⟨rfl,S2,B2,Xu,hs9,Xv⟩
    have lG:=hid Xu
    have HS9:Hid (dw w S S2):=hid (fun k hk h=>wV.out k hk (hs9 k (Nat.lt_of_lt_of_le hk (Nat.le_trans EU.out.size Ko.out.size)) h))
    have FI:Hid (dD S b w w9):=hid ((EU.out.trans Ko.out wV.out).trans Xv wV.out)
    clear Xu hs9 Xv
    go_wp2_with fail
    go_ret
    exact ⟨by rw [HD3.out]; rfl,S2,B2,by rw [HD3.out]; exact lG.out,HS9.out,FI.out⟩
   have h4b:(ev.kind != 4)=true:=by simpa using h4
   by_cases Xw:ev.kind=5∧ev.n=2
   ·have zx:Hid (M.nK ev=0):=hid (by rw [XL.out,if_neg (fun h=>h.2.2 Xw)])
    have h5b:(ev.kind == 5)=true:=by simpa using Xw.1
    have hn2:(ev.n == 2)=true:=by simpa using Xw.2
    clear hf h4 Xw
    generalize (aV M.CR M.clk ev.now).ak=lf at *
    have FP:Hid (EvPre M ev):=hid (zM HIv.out zx.out)
    have Bo:Hid (M.go ev=if (M.kind ev).2≠0 then (M,(M.kind ev).2) else (((M.kind ev).1.put ev).over,0)):=hid (by rw [Xt.out,if_neg (fun h=>h zx.out)])
    have SE:Hid (base≤w5.heap.size):=hid (Nat.le_trans qg.out HB1.out.size)
    go_upto_region 12 with (fail)
    have e0:=gW.out.cell 0 rfl
    have e1:=gW.out.cell 1 rfl
    have e2:=gW.out.cell 2 rfl
    have e3:=gW.out.cell 3 rfl
    have e4:=gW.out.cell 4 rfl
    have e5:=gW.out.cell 5 rfl
    have e6:=gW.out.cell 6 rfl
    go_wp2_with fail
    clear e0 e1 e2 e3 e4 e5 e6
    refine (Bj lY.out ev w5 bM.out SE.out FP.out).mono ?_
    rintro e w1 ⟨rfl,S1,B1,hm1,hs1,hf1⟩
    have ou:=hid hm1
    have wV:Hid (dw w S S1):=hid (fun k hk h=>hs1 k (Nat.lt_of_lt_of_le hk HB1.out.size) h)
    have HF2:Hid (dD S b w w1):=hid ((dD.new HB1.out).trans hf1 (dw.refl _ _))
    have HE2:Hid (Box w1 w.heap.size [.int .i64 ev.kind,.int .i64 ev.au,.int .i64 ev.n,.int .i64 ev.now,.int .i64 ev.m.src,.int .i64 ev.m.dst,.int .i64 ev.m.piece] 54):=hid (gW.out.held hf1 (fun h=>by rcases h with h | h; exact LJ.out h; have h2:w.heap.size=b:=h; have:=EP.out; omega))
    clear hm1 hs1 hf1 bM gW
    by_cases hz:(M.kind ev).2=0
    rotate_left
    ·have HD2:Hid (M.go ev=(M,(M.kind ev).2)):=hid (by rw [Bo.out,if_pos hz])
     have HKb:Hid ((M.kind ev).1=M):=hid (AL M ev hz)
     have hzb:((M.kind ev).2 != 0)=true:=by simpa using hz
     rw [HKb.out] at ou
     clear hz
     generalize (M.kind ev).2=kc at *
     go_wp2_with fail
     go_ret
     exact ⟨by rw [HD2.out]; rfl,S1,B1,by rw [HD2.out]; exact ou.out,wV.out,HF2.out⟩
    have HD3:Hid (M.go ev=(((M.kind ev).1.put ev).over,0)):=hid (by rw [Bo.out,if_neg (fun h=>h hz)])
    rw [hz]
    clear hz Bo
    have e3:=HE2.out.cell 3 rfl
    have Wn:=ou.out.box.cell 35 rfl
    have f35:=ou.out.box.frozen 35
    go_upto_region 16 with (fail)
    have HQ:=hid (ou.out.put (M':=({ (M.kind ev).1 with last:=ev.now }:aG)) (B':=B1) 35 [.int .i64 ev.now] (by simp) rfl rfl rfl rfl (ou.out.rd.imp (fun _ h=>⟨h.rd,h.per,h.pc,h.pr,h.jr⟩)))
    have nR:Hid (aH X S1 base (w1.setCell ⟨b,35,none⟩ (.int .i64 ev.now)) b ({ (M.kind ev).1 with last:=ev.now }:aG) B1):=hid HQ.out.1
    have HF3:Hid (dD S b w (w1.setCell ⟨b,35,none⟩ (.int .i64 ev.now))):=hid (HF2.out.trans HQ.out.2 wV.out)
    have xu:Hid (Box (w1.setCell ⟨b,35,none⟩ (.int .i64 ev.now)) w.heap.size [.int .i64 ev.kind,.int .i64 ev.au,.int .i64 ev.n,.int .i64 ev.now,.int .i64 ev.m.src,.int .i64 ev.m.dst,.int .i64 ev.m.piece] 54):=hid (HE2.out.far ⟨b,35,none⟩ _ (fun e=>HEq.out e))
    clear HQ ou HE2 e3 Wn f35
    generalize (w1.setCell ⟨b,35,none⟩ (.int .i64 ev.now))=w5' at *
    obtain ⟨w5,hw5⟩:∃ w5,w5=w5':=⟨_,rfl⟩
    rw [← hw5] at nR xu HF3 ⊢
    clear hw5
    have EU:=HF3
    have HTb:Hid (∀ {W:World},aH X S1 base W b ({ (M.kind ev).1 with last:=ev.now }:aG) B1→Below w5.heap.size w5 W→Tab W.heap.size W):=hid (fun hm hbl=>nT.out.mono (Nat.le_trans qg.out (Nat.le_trans EU.out.size hbl.size)) ((HM.out.base' EU.out qg.out).trans (hbl.mono (Nat.le_trans qg.out EU.out.size))))
    have BU:Hid (∀ q,(S1 q∨out1 X b q)→q<w5.heap.size):=hid nR.out.wL
    generalize hq5:w5=wq at *
    have Mz:aH X S1 base wq.drew b ({ (M.kind ev).1 with last:=ev.now }:aG) B1:=nR.out.below (aA (Below.refl _ _))
    have Ez:=xu.out.drew
    have Lz:Below wq.drew.heap.size wq.drew wq.drew:=Below.refl _ _
    have gQ:Hid (dD S1 b wq wq.drew):=hid (Fr.drew (dD.refl _ _ _))
    clear nR xu HF3
    refine wp_region_noPanic ?_
    refine bG (S:=(fun w'=>w'.cell? ⟨b,36,none⟩=some B1.vj∧w'.cell? ⟨w.heap.size,0,none⟩=some (.int .i64 ev.kind)∧w'.cell? ⟨w.heap.size,1,none⟩=some (.int .i64 ev.au)∧w'.cell? ⟨w.heap.size,2,none⟩=some (.int .i64 ev.n)∧w'.cell? ⟨w.heap.size,3,none⟩=some (.int .i64 ev.now)∧w'.cell? ⟨w.heap.size,4,none⟩=some (.int .i64 ev.m.src)∧w'.cell? ⟨w.heap.size,5,none⟩=some (.int .i64 ev.m.dst)∧w'.cell? ⟨w.heap.size,6,none⟩=some (.int .i64 ev.m.piece))) (L:=[13]) (by kernel_rfl) (by and_intros <;> first | exact Mz.box.cell _ rfl | exact Ez.cell _ rfl) (fun hHeld=>?_)
    refine aF 0 ?_
    refine aF 1 ?_
    refine dL 5 ?_
    refine aF 2 ?_
    refine aF 3 ?_
    refine dL 4 ?_
    refine dO 6 fun K hK=>?_
    go_simp
    refine (yu HIh.out Wi.out ev _ (HTb.out Mz (aA (Below.refl _ _))) CX.out).mono ?_
    rintro e w6 ⟨rfl,hbb⟩
    have M6:=Mz.below hbb
    have E6:=Ez.stays hbb
    have L6:=aj Lz hbb Lz.size
    clear hbb
    refine hK.out _ _ (by and_intros <;> first | exact M6.box.cell _ rfl | exact E6.cell _ rfl) (fun hHeld=>?_)
    clear hK K
    refine dO 7 fun K hK=>?_
    go_simp
    have AZ:=M6.fr.jr
    rw [show (({ (M.kind ev).1 with last:=ev.now }:aG):aG).jr=M.jr from (jD M ev).1] at AZ
    refine (sJ B1.vj M.jr (bV ev) _ AZ HJo.out (by have:=DV.out; omega) (by have:=qJ ev (lH CX.out); omega)).mono ?_
    rintro e w7 ⟨vn,rfl,uY,hbb⟩
    have hap:appJ M.jr (bV ev)=(M.jr++[jS M.jr (bV ev)],0):=by unfold appJ; rw [if_neg (by rw [lH CX.out]; decide)]; rfl
    rw [hap] at uY ⊢
    have Bq:w7.ownsRow w6.heap.size 131 2 vn (M.jr.length+1) (gK (M.jr++[jS M.jr (bV ev)])):=by rw [List.length_append] at uY; exact uY
    clear uY
    obtain ⟨ja,jc,rfl⟩:=aI Bq
    clear hap
    have M7:=M6.below hbb
    have E7:=E6.stays hbb
    have L7:=aj L6 hbb L6.size
    have O7:w7.ownsRow w6.heap.size 131 2 (.slice ja (M.jr.length+1) jc) ((M.kind ev).1.jr.length+1) (gK ((M.kind ev).1.jr++[jS (M.kind ev).1.jr (bV ev)])):=by rw [(jD M ev).1]; exact Bq
    clear hbb
    refine hK.out _ _ (by and_intros <;> first | exact M7.box.cell _ rfl | exact E7.cell _ rfl) (fun hHeld=>?_)
    clear hK K
    refine aF 8 ?_
    refine aF 9 ?_
    refine aF 10 ?_
    refine aF 11 ?_
    refine aF 12 ?_
    refine xE 13 fun K hK=>?_
    have dd:=M7.box.cell 36 rfl
    have df:=M7.box.frozen 36
    go_simp
    refine aK ?_
    intro jY e13
    clear dd df
    have Lu:=M7.put (M':=((M.kind ev).1.put ev)) (B':={ B1 with vj:=.slice ja (M.jr.length+1) jc }) 36 [.slice ja (M.jr.length+1) jc] (by simp) rfl rfl rfl rfl (fun w' hw=>⟨(M7.rd w' hw).rd,(M7.rd w' hw).per,(M7.rd w' hw).pc,(M7.rd w' hw).pr,EZ (gV O7 hw (fun q hq h=>by have h1:=(O7.lt q hq).1; have h2:=BU.out q h; have h3:=L6.size; have h4:wq.heap.size≤w6.heap.size:=h3; omega))⟩)
    have M13:aH X S1 base jY b ((M.kind ev).1.put ev) { B1 with vj:=.slice ja (M.jr.length+1) jc }:=by rw [e13]; exact Lu.1
    have Iu:dD S1 b wq.drew jY:=by rw [e13]; exact (dD.new L7).trans Lu.2 (dw.refl _ _)
    have E13:Box jY (w.heap.size) [.int .i64 ev.kind,.int .i64 ev.au,.int .i64 ev.n,.int .i64 ev.now,.int .i64 ev.m.src,.int .i64 ev.m.dst,.int .i64 ev.m.piece] 54:=by rw [e13]; exact E7.far ⟨b,36,none⟩ _ (fun e=>HEq.out e)
    clear Lu e13
    refine hK.out _ _ ?_
    clear hK K
    refine iE ?_
    have zu:=hid M13
    have Ko:Hid (dD S1 b wq jY):=hid (gQ.out.trans Iu (dw.refl _ _))
    clear M6 E6 L6 M7 E7 L7 M13 E13 Iu O7 Bq Mz Ez Lz hHeld gQ AZ
    generalize jY=w8 at *
    go_wp2_with fail
    refine (wO lY.out w8 zu.out).mono ?_
    rintro e w9 ⟨rfl,S2,B2,Xu,hs9,Xv⟩
    have lG:=hid Xu
    have HS9:Hid (dw w S S2):=hid (fun k hk h=>wV.out k hk (hs9 k (Nat.lt_of_lt_of_le hk (Nat.le_trans EU.out.size Ko.out.size)) h))
    have FI:Hid (dD S b w w9):=hid ((EU.out.trans Ko.out wV.out).trans Xv wV.out)
    clear Xu hs9 Xv
    go_wp2_with fail
    go_ret
    exact ⟨by rw [HD3.out]; rfl,S2,B2,by rw [HD3.out]; exact lG.out,HS9.out,FI.out⟩
   have zx:Hid (M.nK ev=11):=hid (by rw [XL.out,if_pos ⟨hfb,h4,Xw⟩])
   have HD2:Hid (M.go ev=(M,11)):=hid (by rw [Xt.out,if_pos (by rw [zx.out]; decide),zx.out])
   by_cases h5:ev.kind=5
   ·have h5b:(ev.kind == 5)=true:=by simpa using h5
    have hn2:(ev.n == 2)=false:=by simp; exact fun h=>Xw ⟨h5,h⟩
    clear hf h4 Xw h5
    generalize (aV M.CR M.clk ev.now).ak=lf at *
    go_wp2_with fail
    go_ret
    exact ⟨by rw [HD2.out]; rfl,S,B,by rw [HD2.out]; exact bM.out,dw.refl _ _,dD.new HB1.out⟩
   ·have h5b:(ev.kind == 5)=false:=by simpa using h5
    clear hf h4 Xw h5
    generalize (aV M.CR M.clk ev.now).ak=lf at *
    go_wp2_with fail
    go_ret
    exact ⟨by rw [HD2.out]; rfl,S,B,by rw [HD2.out]; exact bM.out,dw.refl _ _,dD.new HB1.out⟩
end Go.Proofs.YtmabaojkignodaaGreatDoor
