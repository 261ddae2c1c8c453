/- match's doAccept. -/
import Derived.Test.YtmabaojkignodaaGreatDoorE26
namespace Go.Proofs.YtmabaojkignodaaGreatDoor
open Go.ChangeShapes Go.WideShapes Go.ChangeAt Go.RowKit
set_option linter.unusedVariables false
open Go.Lib (hid)
variable {X S:Nat→Prop} {base b:Nat} {M:aG} {B:jv}
theorem YV {P F:World→Nat→iW→Prop} {G:Prop} (main:(∀ w5 bx ro,F w5 bx ro→P w5 bx ro)→G) (rest:∀ w5 bx ro,F w5 bx ro→P w5 bx ro):G:=main rest
theorem wU {P:Program} {c:Code} {Q:Exit→Act→World→Prop} {a:Act} {W:World} (h:∀ w',w'=W→Code.wp P c Q a w'):Code.wp P c Q a W:=h _ rfl
theorem Ip (p:Int) (n:Nat):0≤jm p n∧jm p n≤n:=by unfold jm; repeat' split
                                                 all_goals omega
set_option maxRecDepth 100000 in
set_option maxHeartbeats 16000000 in
theorem ET (HS:SortMvSaid) (ev:iY) (w:World) (h:aH X S base w b M B) (hb:base≤w.heap.size) (hog:kF M.off) (hpl:ev.au=0∨ev.au=1):Calls Tryz.prog 98 #[.pointer (some ⟨b,0,none⟩),.agg #[.int .i64 ev.kind,.int .i64 ev.au,.int .i64 ev.n,.int .i64 ev.now,.int .i64 ev.m.src,.int .i64 ev.m.dst,.int .i64 ev.m.piece]] w fun e w'=>e=.returned (.int .i64 (M.gX ev).2)∧wM X S base b w (M.gX ev).1 w':=by
  have Sj:=hid hog
  have yS:=hid hpl
  have IY:Hid (M.ms.length≤400):=hid (by obtain ⟨up,us,ue,vl,vm,rows,hg⟩:=h.game; exact hg.lt)
  have V9:Hid (M.gX ev=if bU M.off ev.n ev.au M.ms.length≠0 then (M,bU M.off ev.n ev.au M.ms.length) else if ev.n=0 then ({ M with off:=kE M.off,res:=3,reason:=4 },0) else (M.backTo (jm (1 - ev.au) M.ms.length).toNat ev.now,0)):=hid rfl
  clear hog hpl
  have lY:=hid HS
  have HM:=hid h
  have qg:=hid hb
  have LJ:Hid (¬ S w.heap.size):=hid (fun hk=>by obtain ⟨up,us,ue,vl,vm,rows,hg⟩:=h.game; have:=(hg.lo _ hk).2; omega)
  have EP:Hid (b<w.heap.size):=hid h.box.lt
  clear h hb HS
  go_enter Tryz.func98,Tryz.ntmps98
  go_upto_region 1 with (fail)
  refine lM fun w0 jU dM hs_=>?_
  have jy:=hid jU
  have HB0:=hid dM
  clear hs_ jU dM
  have iZ:=hid (HM.out.below HB0.out)
  have HEq:Hid (w.heap.size≠b):=hid (fun e=>by have:=EP.out; omega)
  generalize w0=wq at *
  have Mz:aH X S base wq.drew b M B:=iZ.out.below (aA (Below.refl _ _))
  have Ez:=jy.out.drew
  have Lz:Below wq.drew.heap.size wq.drew wq.drew:=Below.refl _ _
  have gQ:Hid (Below w.heap.size w wq.drew):=hid (aA HB0.out)
  clear iZ jy HB0
  refine' YV (F:=fun w5 bx ro=>Hid (aH X S base w5 b M B)∧Hid (Box w5 w.heap.size [.int .i64 ev.kind,.int .i64 ev.au,.int .i64 ev.n,.int .i64 ev.now,.int .i64 ev.m.src,.int .i64 ev.m.dst,.int .i64 ev.m.piece] 54)∧Hid (Below w.heap.size w w5)∧Hid (Box w5 bx [.int .i64 ro.b0,.int .i64 ro.b1,.int .i64 ro.aY,.int .i64 ro.aZ,.int .i64 ro.l10,.int .i64 ro.aX] 70)∧Hid (bx≠b)∧Hid (bU M.off ev.n ev.au M.ms.length=0→ro=kE M.off)) ?main ?rest
  case main =>
    intro key
    refine wp_region_noPanic ?_
    refine bG (S:=(fun w'=>w'.cell? ⟨b,28,none⟩=some (.int .i64 M.off.b0)∧w'.cell? ⟨b,29,none⟩=some (.int .i64 M.off.b1)∧w'.cell? ⟨b,30,none⟩=some (.int .i64 M.off.aY)∧w'.cell? ⟨b,31,none⟩=some (.int .i64 M.off.aZ)∧w'.cell? ⟨b,32,none⟩=some (.int .i64 M.off.l10)∧w'.cell? ⟨b,33,none⟩=some (.int .i64 M.off.aX)∧w'.cell? ⟨w.heap.size,2,none⟩=some (.int .i64 ev.n)∧w'.cell? ⟨w.heap.size,1,none⟩=some (.int .i64 ev.au))) (L:=[]) (by kernel_rfl) (by and_intros <;> first | exact Mz.box.cell _ rfl | exact Ez.cell _ rfl) (fun hHeld=>?_)
    refine aF 0 ?_
    refine aF 5 ?_
    refine aF 7 ?_
    refine aF 9 ?_
    refine aF 1 ?_
    refine dL 6 ?_
    refine dL 8 ?_
    refine aF 2 ?_
    refine aF 3 ?_
    refine dL 4 ?_
    refine IL (rs:=[10,15]) ?_
    refine (aO.cons (by first | (simp only [List.getElem?_toArray,List.getElem?_cons_zero,List.getElem?_cons_succ] <;> rfl) | rfl) (fun K hK=>?_) (aO.cons (by first | (simp only [List.getElem?_toArray,List.getElem?_cons_zero,List.getElem?_cons_succ] <;> rfl) | rfl) (fun K hK=>?_) aO.nil))
    · skip
      go_simp
      refine (kW _ Mz).mono ?_
      rintro e w10 ⟨rfl,hbb⟩
      have M10:=Mz.below hbb
      have wJ:=Ez.stays hbb
      have wG:=aj Lz hbb Lz.size
      clear hbb
      refine hK.out _ _ (by and_intros <;> first | exact M10.box.cell _ rfl | exact wJ.cell _ rfl) (fun hHeld=>?_)
      clear hK K
      refine IL (rs:=[11,15]) ?_
      refine (aO.cons (by first | (simp only [List.getElem?_toArray,List.getElem?_cons_zero,List.getElem?_cons_succ] <;> rfl) | rfl) (fun K hK=>?_) (aO.cons (by first | (simp only [List.getElem?_toArray,List.getElem?_cons_zero,List.getElem?_cons_succ] <;> rfl) | rfl) (fun K hK=>?_) aO.nil))
      · skip
        go_simp
        refine (Kv M.off ev.n ev.au M.ms.length _ Sj.out yS.out IY.out).mono ?_
        rintro e ku ⟨ro,hro,rfl,hbb⟩
        have M11:=M10.below hbb
        have nS:=wJ.stays hbb
        have jR:=aj wG hbb wG.size
        clear hbb
        refine hK.out _ _ (by and_intros <;> first | exact M11.box.cell _ rfl | exact nS.cell _ rfl) (fun hHeld=>?_)
        clear hK K
        refine aF 12 ?_
        refine aF 13 ?_
        refine aF 14 ?_
        refine dO 15 fun K hK=>?_
        go_simp
        refine aK ?_
        intro mZ e15
        have hbb:Below ku.heap.size ku mZ:=by rw [e15]; exact (Below.refl _ _).alloc (Nat.le_refl _) _
        have Bg:Box mZ (ku.heap.size) [.int .i64 0,.int .i64 0,.int .i64 0,.int .i64 0,.int .i64 0,.int .i64 0] 70:=by rw [e15]; exact Box.new' _ _ _ _ rfl
        have sZ:=M11.below hbb
        have vC:=nS.stays hbb
        have xA:=aj jR hbb jR.size
        clear hbb e15
        refine hK.out _ _ (by and_intros <;> first | exact sZ.box.cell _ rfl | exact vC.cell _ rfl) (fun hHeld=>?_)
        clear hK K
        refine dO 16 fun K hK=>?_
        rw [if_pos (by rfl)]
        refine wp_store_mid 70 (.tmp 5) (.tmp 20) (by rfl) (ku.heap.size) 0 #[.int .i64 ro.b0,.int .i64 ro.b1,.int .i64 ro.aY,.int .i64 ro.aZ,.int .i64 ro.l10,.int .i64 ro.aX] (by rfl) (by rfl) (Bg.has 0 6 (by simp)) (by kernel_rfl) (by simp [Value.oneCell']) ?_
        refine aK ?_
        intro w16 e16
        have qj:Box w16 (ku.heap.size) [.int .i64 ro.b0,.int .i64 ro.b1,.int .i64 ro.aY,.int .i64 ro.aZ,.int .i64 ro.l10,.int .i64 ro.aX] 70:=by rw [e16]; exact Bg.store rfl
        have hbn:wq.heap.size≤ku.heap.size:=jR.size
        have kH:Below wq.drew.heap.size wq.drew w16:=by rw [e16]; exact below_setCells xA hbn 0 _
        have lT:=Mz.below kH
        have mO:=Ez.stays kH
        clear e16 hbn
        refine hK.out _ _ (by and_intros <;> first | exact lT.box.cell _ rfl | exact mO.cell _ rfl) (fun hHeld=>?_)
        clear hK K
        refine aF 17 ?_
        refine iE ?_
        have bM:=hid lT
        have gW:=hid mO
        have HB1:Hid (Below w.heap.size w w16):=hid (aj gQ.out kH gQ.out.size)
        have dn:=hid qj
        have uQ:Hid (ku.heap.size≠b):=hid (fun e=>by have h1:=Mz.box.lt; have h2:wq.heap.size≤ku.heap.size:=jR.size; have h3:b<wq.heap.size:=h1; omega)
        have qW:=hid hro
        clear hro M10 wJ wG M11 nS jR sZ vC xA lT mO kH hHeld Bg qj
        generalize ku.heap.size=bx at dn uQ ⊢
        exact key w16 bx ro ⟨bM,gW,HB1,dn,uQ,qW⟩
      · skip
        go_simp
        refine aK ?_
        intro mZ e15
        have hbb:Below w10.heap.size w10 mZ:=by rw [e15]; exact (Below.refl _ _).alloc (Nat.le_refl _) _
        have Bg:Box mZ (w10.heap.size) [.int .i64 0,.int .i64 0,.int .i64 0,.int .i64 0,.int .i64 0,.int .i64 0] 70:=by rw [e15]; exact Box.new' _ _ _ _ rfl
        have sZ:=M10.below hbb
        have vC:=wJ.stays hbb
        have xA:=aj wG hbb wG.size
        clear hbb e15
        refine hK.out _ _ (by and_intros <;> first | exact sZ.box.cell _ rfl | exact vC.cell _ rfl) (fun hHeld=>?_)
        clear hK K
        refine dO 11 fun K hK=>?_
        go_simp
        refine (Kv M.off ev.n ev.au M.ms.length _ Sj.out yS.out IY.out).mono ?_
        rintro e ku ⟨ro,hro,rfl,hbb⟩
        have M11:=sZ.below hbb
        have nS:=vC.stays hbb
        have jR:=aj xA hbb xA.size
        have C9:=Bg.stays hbb
        clear hbb
        refine hK.out _ _ (by and_intros <;> first | exact M11.box.cell _ rfl | exact nS.cell _ rfl) (fun hHeld=>?_)
        clear hK K
        refine aF 12 ?_
        refine aF 13 ?_
        refine aF 14 ?_
        refine dO 16 fun K hK=>?_
        rw [if_pos (by rfl)]
        refine wp_store_mid 70 (.tmp 5) (.tmp 20) (by rfl) (w10.heap.size) 0 #[.int .i64 ro.b0,.int .i64 ro.b1,.int .i64 ro.aY,.int .i64 ro.aZ,.int .i64 ro.l10,.int .i64 ro.aX] (by rfl) (by rfl) (C9.has 0 6 (by simp)) (by kernel_rfl) (by simp [Value.oneCell']) ?_
        refine aK ?_
        intro w16 e16
        have qj:Box w16 (w10.heap.size) [.int .i64 ro.b0,.int .i64 ro.b1,.int .i64 ro.aY,.int .i64 ro.aZ,.int .i64 ro.l10,.int .i64 ro.aX] 70:=by rw [e16]; exact C9.store rfl
        have hbn:wq.heap.size≤w10.heap.size:=wG.size
        have kH:Below wq.drew.heap.size wq.drew w16:=by rw [e16]; exact below_setCells jR hbn 0 _
        have lT:=Mz.below kH
        have mO:=Ez.stays kH
        clear e16 hbn
        refine hK.out _ _ (by and_intros <;> first | exact lT.box.cell _ rfl | exact mO.cell _ rfl) (fun hHeld=>?_)
        clear hK K
        refine aF 17 ?_
        refine iE ?_
        have bM:=hid lT
        have gW:=hid mO
        have HB1:Hid (Below w.heap.size w w16):=hid (aj gQ.out kH gQ.out.size)
        have dn:=hid qj
        have uQ:Hid (w10.heap.size≠b):=hid (fun e=>by have h1:=Mz.box.lt; have h2:wq.heap.size≤w10.heap.size:=wG.size; have h3:b<wq.heap.size:=h1; omega)
        have qW:=hid hro
        clear hro M10 wJ wG M11 nS jR sZ vC xA lT mO kH hHeld Bg C9 qj
        generalize w10.heap.size=bx at dn uQ ⊢
        exact key w16 bx ro ⟨bM,gW,HB1,dn,uQ,qW⟩
    · skip
      go_simp
      refine aK ?_
      intro mZ e15
      have hbb:Below wq.drew.heap.size wq.drew mZ:=by rw [e15]; exact (Below.refl _ _).alloc (Nat.le_refl _) _
      have Bg:Box mZ (wq.heap.size) [.int .i64 0,.int .i64 0,.int .i64 0,.int .i64 0,.int .i64 0,.int .i64 0] 70:=by rw [e15]; exact Box.new' _ _ _ _ rfl
      have sZ:=Mz.below hbb
      have vC:=Ez.stays hbb
      have xA:=aj Lz hbb Lz.size
      clear hbb e15
      refine hK.out _ _ (by and_intros <;> first | exact sZ.box.cell _ rfl | exact vC.cell _ rfl) (fun hHeld=>?_)
      clear hK K
      refine dO 10 fun K hK=>?_
      go_simp
      refine (kW _ sZ).mono ?_
      rintro e w10 ⟨rfl,hbb⟩
      have M10:=sZ.below hbb
      have wJ:=vC.stays hbb
      have wG:=aj xA hbb xA.size
      have Sl:=Bg.stays hbb
      clear hbb
      refine hK.out _ _ (by and_intros <;> first | exact M10.box.cell _ rfl | exact wJ.cell _ rfl) (fun hHeld=>?_)
      clear hK K
      refine dO 11 fun K hK=>?_
      go_simp
      refine (Kv M.off ev.n ev.au M.ms.length _ Sj.out yS.out IY.out).mono ?_
      rintro e ku ⟨ro,hro,rfl,hbb⟩
      have M11:=M10.below hbb
      have nS:=wJ.stays hbb
      have jR:=aj wG hbb wG.size
      have C9:=Sl.stays hbb
      clear hbb
      refine hK.out _ _ (by and_intros <;> first | exact M11.box.cell _ rfl | exact nS.cell _ rfl) (fun hHeld=>?_)
      clear hK K
      refine aF 12 ?_
      refine aF 13 ?_
      refine aF 14 ?_
      refine dO 16 fun K hK=>?_
      rw [if_pos (by rfl)]
      refine wp_store_mid 70 (.tmp 5) (.tmp 20) (by rfl) (wq.heap.size) 0 #[.int .i64 ro.b0,.int .i64 ro.b1,.int .i64 ro.aY,.int .i64 ro.aZ,.int .i64 ro.l10,.int .i64 ro.aX] (by rfl) (by rfl) (C9.has 0 6 (by simp)) (by kernel_rfl) (by simp [Value.oneCell']) ?_
      refine aK ?_
      intro w16 e16
      have qj:Box w16 (wq.heap.size) [.int .i64 ro.b0,.int .i64 ro.b1,.int .i64 ro.aY,.int .i64 ro.aZ,.int .i64 ro.l10,.int .i64 ro.aX] 70:=by rw [e16]; exact C9.store rfl
      have hbn:wq.heap.size≤wq.heap.size:=Nat.le_refl _
      have kH:Below wq.drew.heap.size wq.drew w16:=by rw [e16]; exact below_setCells jR hbn 0 _
      have lT:=Mz.below kH
      have mO:=Ez.stays kH
      clear e16 hbn
      refine hK.out _ _ (by and_intros <;> first | exact lT.box.cell _ rfl | exact mO.cell _ rfl) (fun hHeld=>?_)
      clear hK K
      refine aF 17 ?_
      refine iE ?_
      have bM:=hid lT
      have gW:=hid mO
      have HB1:Hid (Below w.heap.size w w16):=hid (aj gQ.out kH gQ.out.size)
      have dn:=hid qj
      have uQ:Hid (wq.heap.size≠b):=hid (fun e=>by have h1:=Mz.box.lt; have h2:wq.heap.size≤wq.heap.size:=Nat.le_refl _; have h3:b<wq.heap.size:=h1; omega)
      have qW:=hid hro
      clear hro M10 wJ wG M11 nS jR sZ vC xA lT mO kH hHeld Bg Sl C9 qj
      obtain ⟨bx,hbx⟩:∃ bx,bx=wq.heap.size:=⟨_,rfl⟩
      rw [← hbx] at dn uQ ⊢
      clear hbx
      exact key w16 bx ro ⟨bM,gW,HB1,dn,uQ,qW⟩
  case rest =>
    rintro w5 bx ro ⟨bM,gW,HB1,dn,uQ,qW⟩
    clear Mz Ez Lz gQ
    by_cases hz:bU M.off ev.n ev.au M.ms.length=0
    rotate_left
    · have HD2:Hid (M.gX ev=(M,bU M.off ev.n ev.au M.ms.length)):=hid (by rw [V9.out,if_pos hz])
      have hzb:(bU M.off ev.n ev.au M.ms.length != 0)=true:=by simpa using hz
      clear hz qW V9
      generalize bU M.off ev.n ev.au M.ms.length=er at *
      go_wp2_with fail
      go_ret
      exact ⟨by rw [HD2.out]; rfl,S,B,by rw [HD2.out]; exact bM.out,dw.refl _ _,dD.new HB1.out⟩
    have HRg:Hid (kF ro):=hid (by rw [qW.out hz]; exact xW Sj.out)
    have wS:Hid (ro=kE M.off):=hid (qW.out hz)
    have IX:Hid (M.gX ev=if ev.n=0 then ({ M with off:=kE M.off,res:=3,reason:=4 },0) else (M.backTo (jm (1 - ev.au) M.ms.length).toNat ev.now,0)):=hid (by rw [V9.out,if_neg (fun h=>h hz)])
    rw [hz]
    clear hz qW V9
    go_upto_region 4 with (fail)
    have x0:=dn.out.cell 0 rfl
    have x1:=dn.out.cell 1 rfl
    have x2:=dn.out.cell 2 rfl
    have x3:=dn.out.cell 3 rfl
    have x4:=dn.out.cell 4 rfl
    have x5:=dn.out.cell 5 rfl
    have YP:=bM.out.box.cell 28 rfl
    have f28:=bM.out.box.frozen 28
    have YQ:=bM.out.box.cell 29 rfl
    have f29:=bM.out.box.frozen 29
    have YR:=bM.out.box.cell 30 rfl
    have f30:=bM.out.box.frozen 30
    have YS:=bM.out.box.cell 31 rfl
    have f31:=bM.out.box.frozen 31
    have YT:=bM.out.box.cell 32 rfl
    have f32:=bM.out.box.frozen 32
    have YU:=bM.out.box.cell 33 rfl
    have f33:=bM.out.box.frozen 33
    have HP:=hid (bM.out.put (M':=({ M with off:=ro }:aG)) (B':=B) 28 [.int .i64 ro.b0,.int .i64 ro.b1,.int .i64 ro.aY,.int .i64 ro.aZ,.int .i64 ro.l10,.int .i64 ro.aX] (by simp) rfl rfl rfl rfl (bM.out.rd.imp (fun _ h=>⟨h.rd,h.per,h.pc,h.pr,h.jr⟩)))
    go_upto_region 5 with (fail)
    clear YP f28 YQ f29 YR f30 YS f31 YT f32 YU f33 x0 x1 x2 x3 x4 x5
    refine wU ?_
    intro w6 e6
    have ou:Hid (aH X S base w6 b ({ M with off:=ro }:aG) B):=hid (by rw [e6]; exact HP.out.1)
    have HF2:Hid (dD S b w w6):=hid (by rw [e6]; exact (dD.new HB1.out).trans HP.out.2 (dw.refl _ _))
    have HE2:Hid (Box w6 w.heap.size [.int .i64 ev.kind,.int .i64 ev.au,.int .i64 ev.n,.int .i64 ev.now,.int .i64 ev.m.src,.int .i64 ev.m.dst,.int .i64 ev.m.piece] 54):=hid (by rw [e6]; exact gW.out.qA HEq.out 28 [.int .i64 ro.b0,.int .i64 ro.b1,.int .i64 ro.aY,.int .i64 ro.aZ,.int .i64 ro.l10,.int .i64 ro.aX])
    clear HP bM gW dn e6
    have e2:=HE2.out.cell 2 rfl
    by_cases hn:ev.n=0
    · have HD2:Hid (M.gX ev=({ M with off:=kE M.off,res:=3,reason:=4 },0)):=hid (by rw [IX.out,if_pos hn])
      have hnb:(ev.n == 0)=true:=by simpa using hn
      have d16:=ou.out.box.cell 16 rfl
      have f16:=ou.out.box.frozen 16
      have d17:=ou.out.box.cell 17 rfl
      have f17:=ou.out.box.frozen 17
      have HP:=hid (ou.out.put (M':={ M with off:=ro,res:=3,reason:=4 }) (B':=B) 16 [.int .i64 3,.int .i64 4] (by simp) rfl rfl rfl rfl (ou.out.rd.imp (fun _ h=>⟨h.rd,h.per,h.pc,h.pr,h.jr⟩)))
      clear hn IX
      go_wp2_with fail
      go_ret
      exact ⟨by rw [HD2.out]; rfl,S,B,by rw [HD2.out,← wS.out]; exact HP.out.1,dw.refl _ _,HF2.out.trans HP.out.2 (dw.refl _ _)⟩
    have HD2:Hid (M.gX ev=(M.backTo (jm (1 - ev.au) M.ms.length).toNat ev.now,0)):=hid (by rw [IX.out,if_neg hn])
    have hnb:(ev.n == 0)=false:=by simpa using hn
    clear hn IX
    go_upto_region 8 with (fail)
    clear e2 hnb
    generalize w6=wq at *
    have Mz:aH X S base wq.drew b ({ M with off:=ro }:aG) B:=ou.out.below (aA (Below.refl _ _))
    have Ez:=HE2.out.drew
    have Lz:Below wq.drew.heap.size wq.drew wq.drew:=Below.refl _ _
    have gQ:Hid (dD S b w wq.drew):=hid (Fr.drew HF2.out)
    have hw1:IntKind.i64.wrap (1 - ev.au)=1 - ev.au:=IntWalk.i64_in _ (by have:=yS.out; omega)
    clear ou HE2
    refine wp_region_noPanic ?_
    refine bG (S:=(fun w'=>w'.cell? ⟨b,14,none⟩=some (.pointer (some ⟨B.g,0,none⟩))∧w'.cell? ⟨w.heap.size,1,none⟩=some (.int .i64 ev.au))) (L:=[]) (by kernel_rfl) ⟨Mz.box.cell 14 rfl,Ez.cell 1 rfl⟩ (fun hHeld=>?_)
    refine aF 0 ?_
    refine aF 3 ?_
    refine aF 6 ?_
    refine dL 1 ?_
    refine aF 2 ?_
    refine dO 4 fun K hK=>?_
    go_simp
    refine (kW _ Mz).mono ?_
    rintro e w4 ⟨rfl,hbb⟩
    have M4:=Mz.below hbb
    have E4:=Ez.stays hbb
    have L4:=aj Lz hbb Lz.size
    clear hbb
    refine hK.out _ _ ⟨M4.box.cell 14 rfl,E4.cell 1 rfl⟩ (fun hHeld=>?_)
    clear hK K
    refine dO 5 fun K hK=>?_
    go_simp
    refine (off.pR (1 - ev.au) M.ms.length _ (by have:=yS.out; omega) (by omega) (by have:=IY.out; omega)).mono ?_
    rintro e w5' ⟨rfl,rfl⟩
    have hbb:=Below.refl w4.heap.size w4
    obtain ⟨w5,hw5⟩:∃ w5,w5=w4:=⟨_,rfl⟩
    have hbb:Below w4.heap.size w4 w5:=by rw [hw5]; exact Below.refl _ _
    rw [← hw5]
    clear hw5
    have M5:=M4.below hbb
    have E5:=E4.stays hbb
    have L5:=aj L4 hbb L4.size
    clear hbb
    refine hK.out _ _ ⟨M5.box.cell 14 rfl,E5.cell 1 rfl⟩ (fun hHeld=>?_)
    clear hK K
    refine iE ?_
    have bM:=hid M5
    have gW:=hid E5
    have Dt:Hid (dD S b w w5):=hid (gQ.out.trans (dD.new L5) (dw.refl _ _))
    clear M4 E4 L4 M5 E5 L5 Mz Ez Lz hHeld gQ
    obtain ⟨n,hn⟩:∃ n:Nat,jm (1 - ev.au) M.ms.length=(n:Int):=⟨(jm (1 - ev.au) M.ms.length).toNat,by have:=Ip (1 - ev.au) M.ms.length; omega⟩
    have HNn:=hid hn
    have HNl:Hid (n≤M.ms.length):=hid (by have:=Ip (1 - ev.au) M.ms.length; omega)
    rw [show off.yP (1 - ev.au) M.ms.length=(n:Int) from hn]
    clear hn hw1
    go_wp2_with fail
    go_loopw [47] (fun v47 wr=>∃ k:Nat,k≤n∧v47=.int .i64 k∧Hid (aH X S base wr b { M with off:=ro,ms:=M.ms.take (M.ms.length - k) } B)∧Hid (dD S b w wr)∧Hid (Box wr w.heap.size [.int .i64 ev.kind,.int .i64 ev.au,.int .i64 ev.n,.int .i64 ev.now,.int .i64 ev.m.src,.int .i64 ev.m.dst,.int .i64 ev.m.piece] 54)) (fun v _=>n - (intOf v).toNat)
    case atStart=>exact ⟨0,Nat.zero_le _,rfl,hid (by rw [Nat.sub_zero,List.take_of_length_le (Nat.le_refl _)]; exact bM.out),Dt,gW⟩
    case round =>
      obtain ⟨k,hk,rfl,OL,HFk,HEk⟩:=hrel
      by_cases hlt:k<n
      · have Uy:(k:Int)<(n:Int):=by omega
        have Wh:=hid hlt
        have c14:=OL.out.box.cell 14 rfl
        have HBk:Hid (base≤wr.heap.size):=hid (Nat.le_trans qg.out HFk.out.size)
        have HGk:=hid OL.out.game
        go_wp2_with fail
        obtain ⟨up,us,ue,vl,vm,rows,hg⟩:=HGk.out
        refine (gx.QV wr hg HBk.out).mono ?_
        rintro e w5 hp
        rcases hp with ⟨h0,-⟩ | ⟨n1,hn1,rfl,VB,VD,rows',hg',hf'⟩
        · exfalso; rw [List.length_take] at h0; have:=HNl.out; omega
        have MP:=OL.out.RF hg' (dw.refl _ _) hf'
        have zu:Hid (aH X S base w5 b { M with off:=ro,ms:=M.ms.take (M.ms.length - (k+1)) } B):=hid (by
          have:=MP.1
          rw [List.length_take] at hn1
          rw [show (M.ms.take (M.ms.length - k)).take n1=M.ms.take (M.ms.length - (k+1)) by rw [List.take_take]; congr 1; have:=HNl.out; omega] at this
          exact this)
        have Ko:Hid (dD S b w w5):=hid (HFk.out.trans MP.2 (dw.refl _ _))
        have G9:Hid (Box w5 w.heap.size [.int .i64 ev.kind,.int .i64 ev.au,.int .i64 ev.n,.int .i64 ev.now,.int .i64 ev.m.src,.int .i64 ev.m.dst,.int .i64 ev.m.piece] 54):=hid (HEk.out.held hf' LJ.out)
        clear hg hg' hf' MP c14 hn1
        have hkb:(k:Int)<401:=by have:=HNl.out; have:=IY.out; have:=Wh.out; omega
        have hk0:0≤(k:Int):=by omega
        go_wp2_with fail
        go_roundw
        case rel=>exact ⟨k+1,by have:=Wh.out; omega,by go_num,zu,Ko,G9⟩
        case measure=>have:=Wh.out; simp [intOf]; omega
      obtain rfl:k=n:=by omega
      obtain ⟨tk,htk⟩:∃ tk,tk=M.ms.take (M.ms.length - k):=⟨_,rfl⟩
      rw [← htk] at OL
      have HTk:=hid htk
      have HTl:Hid (tk.length=M.ms.length - k):=hid (by rw [htk,List.length_take,Nat.min_eq_left (Nat.sub_le _ _)])
      clear htk
      have Uy:¬ ((k:Int)<(k:Int)):=by omega
      clear hlt hk
      go_upto_region 12 with (fail)
      clear Uy
      generalize wr=wq at *
      have Mz:aH X S base wq.drew b ({ M with off:=ro,ms:=tk }:aG) B:=OL.out.below (aA (Below.refl _ _))
      have Ez:=HEk.out.drew
      have Lz:Below wq.drew.heap.size wq.drew wq.drew:=Below.refl _ _
      have gQ:Hid (dD S b w wq.drew):=hid (Fr.drew HFk.out)
      clear OL HEk
      refine wp_region_noPanic ?_
      refine bG (S:=(fun w'=>w'.cell? ⟨b,28,none⟩=some (.int .i64 { M with off:=ro,ms:=tk }.off.b0)∧w'.cell? ⟨b,29,none⟩=some (.int .i64 { M with off:=ro,ms:=tk }.off.b1)∧w'.cell? ⟨b,30,none⟩=some (.int .i64 { M with off:=ro,ms:=tk }.off.aY)∧w'.cell? ⟨b,31,none⟩=some (.int .i64 { M with off:=ro,ms:=tk }.off.aZ)∧w'.cell? ⟨b,32,none⟩=some (.int .i64 { M with off:=ro,ms:=tk }.off.l10)∧w'.cell? ⟨b,33,none⟩=some (.int .i64 { M with off:=ro,ms:=tk }.off.aX)∧w'.cell? ⟨w.heap.size,3,none⟩=some (.int .i64 ev.now))) (L:=[15]) (by kernel_rfl) (by and_intros <;> first | exact Mz.box.cell _ rfl | exact Ez.cell _ rfl) (fun hHeld=>?_)
      refine aF 0 ?_
      refine aF 1 ?_
      refine aF 6 ?_
      refine aF 2 ?_
      refine aF 3 ?_
      refine aF 4 ?_
      refine dL 5 ?_
      refine dO 7 fun K hK=>?_
      go_simp
      refine (kW _ Mz).mono ?_
      rintro e w7 ⟨rfl,hbb⟩
      have M7:=Mz.below hbb
      have E7:=Ez.stays hbb
      have L7:=aj Lz hbb Lz.size
      clear hbb
      refine hK.out _ _ (by and_intros <;> first | exact M7.box.cell _ rfl | exact E7.cell _ rfl) (fun hHeld=>?_)
      clear hK K
      refine dO 8 fun K hK=>?_
      go_simp
      refine (V5 ro tk.length _ HRg.out (by have:=HTl.out; have:=IY.out; omega)).mono ?_
      rintro e w8 ⟨rfl,hbb⟩
      unfold EO
      have M8:=M7.below hbb
      have E8:=E7.stays hbb
      have L8:=aj L7 hbb L7.size
      clear hbb
      refine hK.out _ _ (by and_intros <;> first | exact M8.box.cell _ rfl | exact E8.cell _ rfl) (fun hHeld=>?_)
      clear hK K
      refine aF 9 ?_
      refine aF 10 ?_
      refine aF 11 ?_
      refine aF 12 ?_
      refine aF 13 ?_
      refine aF 14 ?_
      refine xE 15 fun K hK=>?_
      rw [if_pos (by rfl)]
      refine wp_store_mid 70 (.tmp 69) (.tmp 65) (by rfl) b 28 #[.int .i64 (iO ro (tk.length:Nat)).b0,.int .i64 (iO ro (tk.length:Nat)).b1,.int .i64 (iO ro (tk.length:Nat)).aY,.int .i64 (iO ro (tk.length:Nat)).aZ,.int .i64 (iO ro (tk.length:Nat)).l10,.int .i64 (iO ro (tk.length:Nat)).aX] (by rfl) (by rfl) (M8.box.has 28 6 (by simp [J6])) (by kernel_rfl) (by simp [Value.oneCell']) ?_
      refine aK ?_
      intro mZ e15
      have Sm:=M8.put (M':={ M with off:=(iO ro (tk.length:Nat)),ms:=tk }) (B':=B) 28 [.int .i64 (iO ro (tk.length:Nat)).b0,.int .i64 (iO ro (tk.length:Nat)).b1,.int .i64 (iO ro (tk.length:Nat)).aY,.int .i64 (iO ro (tk.length:Nat)).aZ,.int .i64 (iO ro (tk.length:Nat)).l10,.int .i64 (iO ro (tk.length:Nat)).aX] (by simp) rfl rfl rfl rfl (M8.rd.imp (fun _ h=>⟨h.rd,h.per,h.pc,h.pr,h.jr⟩))
      have sZ:aH X S base mZ b { M with off:=(iO ro (tk.length:Nat)),ms:=tk } B:=by rw [e15]; exact Sm.1
      have Sr:dD S b wq.drew mZ:=by rw [e15]; exact (dD.new L8).trans Sm.2 (dw.refl _ _)
      have vC:Box mZ (w.heap.size) [.int .i64 ev.kind,.int .i64 ev.au,.int .i64 ev.n,.int .i64 ev.now,.int .i64 ev.m.src,.int .i64 ev.m.dst,.int .i64 ev.m.piece] 54:=by rw [e15]; exact E8.qA (fun e=>HEq.out e) 28 _
      clear Sm e15
      refine hK.out _ _ ?_
      clear hK K
      refine iE ?_
      have nR:=hid sZ
      have xu:=hid vC
      have HF3:Hid (dD S b w mZ):=hid (gQ.out.trans Sr (dw.refl _ _))
      clear M7 E7 L7 M8 E8 L8 sZ vC Sr Mz Ez Lz hHeld gQ
      go_upto_region 13 with (fail)
      generalize mZ=wq at *
      have Mz:aH X S base wq.drew b ({ M with off:=(iO ro (tk.length:Nat)),ms:=tk }:aG) B:=nR.out.below (aA (Below.refl _ _))
      have Ez:=xu.out.drew
      have Lz:Below wq.drew.heap.size wq.drew wq.drew:=Below.refl _ _
      have gQ:Hid (dD S b w wq.drew):=hid (Fr.drew HF3.out)
      clear nR xu
      refine wp_region_noPanic ?_
      refine bG (S:=(fun w'=>w'.cell? ⟨w.heap.size,3,none⟩=some (.int .i64 ev.now))) (L:=[]) (by kernel_rfl) (Ez.cell 3 rfl) (fun hHeld=>?_)
      refine aF 0 ?_
      refine aF 1 ?_
      refine aF 2 ?_
      refine aF 4 ?_
      refine dL 5 ?_
      refine dO 3 fun K hK=>?_
      go_simp
      refine (lF _ Mz).mono ?_
      rintro e w3 ⟨rfl,hbb⟩
      have M3:=Mz.below hbb
      have E3:=Ez.stays hbb
      have L3:=aj Lz hbb Lz.size
      clear hbb
      refine hK.out _ _ (E3.cell 3 rfl) (fun hHeld=>?_)
      clear hK K
      refine aF 6 ?_
      refine aF 7 ?_
      refine aF 8 ?_
      refine aF 9 ?_
      refine dO 10 fun K hK=>?_
      have dd:=M3.box.cell 24 rfl
      have df:=M3.box.frozen 24
      go_simp
      refine aK ?_
      intro w10 e10
      clear dd df
      have P10:=M3.put (M':={ M with off:=(iO ro (tk.length:Nat)),ms:=tk,clk:={ M.clk with turn:=(bn M.R (tk)).turn } }) (B':=B) 24 [.int .i64 (bn M.R (tk)).turn] (by simp) rfl rfl rfl rfl (M3.rd.imp (fun _ h=>⟨h.rd,h.per,h.pc,h.pr,h.jr⟩))
      have M10:aH X S base w10 b { M with off:=(iO ro (tk.length:Nat)),ms:=tk,clk:={ M.clk with turn:=(bn M.R (tk)).turn } } B:=by rw [e10]; exact P10.1
      have abL:dD S b wq.drew w10:=by rw [e10]; exact (dD.new L3).trans P10.2 (dw.refl _ _)
      have wJ:Box w10 (w.heap.size) [.int .i64 ev.kind,.int .i64 ev.au,.int .i64 ev.n,.int .i64 ev.now,.int .i64 ev.m.src,.int .i64 ev.m.dst,.int .i64 ev.m.piece] 54:=by rw [e10]; exact E3.far ⟨b,24,none⟩ _ (fun e=>HEq.out e)
      clear P10 e10
      refine hK.out _ _ (wJ.cell 3 rfl) (fun hHeld=>?_)
      clear hK K
      refine aF 11 ?_
      refine aF 12 ?_
      refine aF 13 ?_
      refine aF 14 ?_
      refine dO 15 fun K hK=>?_
      have dd:=M10.box.cell 25 rfl
      have df:=M10.box.frozen 25
      go_simp
      refine aK ?_
      intro mZ e15
      clear dd df
      have Sm:=M10.put (M':={ M with off:=(iO ro (tk.length:Nat)),ms:=tk,clk:={ M.clk with turn:=(bn M.R (tk)).turn,since:=ev.now } }) (B':=B) 25 [.int .i64 ev.now] (by simp) rfl rfl rfl rfl (M10.rd.imp (fun _ h=>⟨h.rd,h.per,h.pc,h.pr,h.jr⟩))
      have sZ:aH X S base mZ b { M with off:=(iO ro (tk.length:Nat)),ms:=tk,clk:={ M.clk with turn:=(bn M.R (tk)).turn,since:=ev.now } } B:=by rw [e15]; exact Sm.1
      have Sr:dD S b wq.drew mZ:=by rw [e15]; exact abL.trans Sm.2 (dw.refl _ _)
      have vC:Box mZ (w.heap.size) [.int .i64 ev.kind,.int .i64 ev.au,.int .i64 ev.n,.int .i64 ev.now,.int .i64 ev.m.src,.int .i64 ev.m.dst,.int .i64 ev.m.piece] 54:=by rw [e15]; exact wJ.far ⟨b,25,none⟩ _ (fun e=>HEq.out e)
      clear Sm e15
      refine hK.out _ _ (vC.cell 3 rfl) (fun hHeld=>?_)
      clear hK K
      refine iE ?_
      have qh:=hid sZ
      have EU:Hid (dD S b w mZ):=hid (gQ.out.trans Sr (dw.refl _ _))
      clear M3 E3 L3 M10 wJ abL sZ vC Sr Mz Ez Lz hHeld gQ
      generalize mZ=w7 at *
      have YO:=qh.out.box.cell 34 rfl
      have f34:=qh.out.box.frozen 34
      have HP:=hid (qh.out.put (M':=({ M with off:=(iO ro (tk.length:Nat)),ms:=tk,clk:={ M.clk with turn:=(bn M.R (tk)).turn,since:=ev.now },aS:=[] }:aG)) (B':={ B with vr:=.slice none 0 0 }) 34 [.slice none 0 0] (by simp) rfl rfl rfl rfl (qh.out.rd.imp (fun w' h=>⟨h.rd,h.per,h.pc,gI.nil _ _,h.jr⟩)))
      have uP:Hid (M.backTo (jm (1 - ev.au) M.ms.length).toNat ev.now=({ M with off:=(iO ro (tk.length:Nat)),ms:=tk,clk:={ M.clk with turn:=(bn M.R (tk)).turn,since:=ev.now },aS:=[] }:aG)):=hid (by
        rw [HNn.out,Int.toNat_natCast]
        unfold aG.backTo
        rw [wS.out,HTl.out,HTk.out])
      go_wp2_with fail
      go_ret
      exact ⟨by rw [HD2.out]; rfl,S,_,by rw [HD2.out,uP.out]; exact HP.out.1,dw.refl _ _,EU.out.trans HP.out.2 (dw.refl _ _)⟩
end Go.Proofs.YtmabaojkignodaaGreatDoor
