/- TwSwO, TwSwL, TwSwRep, TwApp0. -/
import Derived.Test.YteablcielclaeaaGreatDoorP31
import Derived.Laws.CopyOwn
import Derived.Laws.Bits64b
namespace Go.Proofs.YteablcielclaeaaGreatDoor
open Go.ChangeShapes Go.WideShapes Go.ChangeAt Go.RowKit
set_option linter.unusedVariables false
open Go.Lib (hid)
set_option maxRecDepth 100000 in
set_option maxHeartbeats 8000000 in
theorem Nq (ps:List dH) (g o vc b h f:Nat) (hn2:2≤ps.length) (MG:ps.length≤8) (hsm:∀ k,k<ps.length→Small (aZ ps k)) (IH:SearchSaid ps g o vc b h f) (bU:List Int) (dX:Bool) (sum:Int) (bst:Option (List Int)×Int) (vb:Value) (w:World) (hl:bU.length=ps.length)
  (hc:kN bU<f+1) (hneg:Neg bU) (h0:0≤sum) (hB:sum+200000 * (kN bU:Int)≤10000000) (hs:St ps (some ⟨g,o,none⟩) vc b h bU vb bst w) (i:Nat) (hx:lq (-1) bU 0=(i:Int)) (hi:i<ps.length) (hwi:bU.getD i 0 = -1) :
 Calls Tryz.prog 31 #[.pointer (some ⟨b,0,none⟩),.bool dX,.int .i64 sum] w fun e w'=>e=.returned (.tuple #[])∧∃ vb',St ps (some ⟨g,o,none⟩) vc b h bU vb' (jX ps (f+1) dX sum bU bst) w'∧Fr (Two b h) w w':=by
 have hrd:fQ w (.slice (some ⟨h,0,none⟩) ps.length ps.length) bU:=by
  refine ⟨by rw [nR]; omega,.inr ⟨h,0,ps.length,by rw [hl],by omega,by unfold maxLen; omega,fun i hi=>?_⟩⟩
  rw [Nat.zero_add,hs.wit.cell i (dI bU i (by omega)),dI bU i (by omega)]
 have HR:=hid hrd
 have HS:=hid hs
 have HL:=hid hl
 have HWI:=hid hwi
 have afL:=hid hneg
 have HIH:=hid IH
 have OC:=hid hs.rd
 have PS:=hid hsm
 have HCN:=hid hc
 have HBD:=hid hB
 have HIX:=hid hx
 have HF:=hid (Hz ps f dX sum bU bst i hx)
 have q0:=hs.box.cell 0 rfl
 have q1:=hs.box.cell 1 rfl
 have hig:¬ ((i:Int)<0):=by omega
 clear hs hrd hl hx hneg IH hsm hwi hc hB
 go_enter Tryz.func31,Tryz.ntmps31
 go_upto_region 5 with (go_at_call 74; refine (uO _ bU (-1) _ HR.out).mono ?_; rintro e w' ⟨rfl,rfl⟩; rw [HIX.out])
 clear q0 q1
 have Xe:Hid (jJ ps f dX sum bU i (i+1) bst=jJ ps f dX sum bU i (i+1) bst):=hid rfl
 have HF0:=hid (Fr.refl (Two b h) w)
 go_loopw [7] (fun v7 wr=>∃ (j:Nat) (vj:Value) (bj:Option (List Int)×Int),i+1≤j∧j≤ps.length∧v7=.int .i64 (j:Int)∧Hid (jJ ps f dX sum bU i (i+1) bst=jJ ps f dX sum bU i j bj)∧Hid (St ps (some ⟨g,o,none⟩) vc b h bU vj bj wr)∧Hid (Fr (Two b h) w wr)) (fun v _=>ps.length - (intOf v).toNat)
 case atStart=>exact ⟨i+1,vb,bst,Nat.le_refl _,by omega,by go_num,Xe,HS,HF0⟩
 clear Xe HF0 HR HS
 case round =>
  obtain ⟨j,vj,bj,hij,hjn,rfl,HNJ,Nr,HFR⟩:=hrel
  have q0:=Nr.out.box.cell 0 rfl
  have q1:=Nr.out.box.cell 1 rfl
  by_cases hlt:j<ps.length
  ·have hji:(j:Int)<(ps.length:Int):=by omega
   have cj:=Nr.out.wit.cell j (dI bU j (by have:=HL.out; omega))
   obtain ⟨z,hz⟩:∃ z,bU.getD j 0=z:=⟨_,rfl⟩
   rw [hz] at cj
   obtain ⟨m,hm⟩:∃ m,ji ps i (j:Int)=m:=⟨_,rfl⟩
   have HM:=hid hm
   have hst:=Ht ps f dX sum bU i j bj hlt
   have hlen:=HL.out
   by_cases hz0:z<0
   ·by_cases hm0:m=0
    ·have HST:Hid (jJ ps f dX sum bU i (i+1) bst=jJ ps f dX sum bU i (j+1) (jX ps f dX (sum+oJ ps i j) ((bU.set i (j:Int)).set j (i:Int)) bj)):=hid (by
      rw [HNJ.out,hst,Ep,if_pos ⟨by rw [hz]; exact hz0,by rw [hm]; exact hm0⟩])
     have HWJ:Hid (bU.getD j 0 = -1):=hid (afL.out j (by rw [hz]; exact hz0))
     have hc1:=nG bU i (j:Int) (by omega) (by omega) HWI.out
     have hg2:(bU.set i (j:Int)).getD j 0 = -1:=by rw [jY _ _ _ _ (by omega),if_neg (by omega)]; exact HWJ.out
     have hc2:=nG (bU.set i (j:Int)) j (i:Int) (by rw [List.length_set]; omega) (by omega) hg2
     have HCC:Hid (kN ((bU.set i (j:Int)).set j (i:Int))+2=kN bU):=hid (by omega)
     have HLW:Hid (((bU.set i (j:Int)).set j (i:Int)).length=ps.length):=hid (by (try simp only [List.length_set]); omega)
     have HNW:Hid (Neg ((bU.set i (j:Int)).set j (i:Int))):=hid ((afL.out.set i _ (by omega)).set j _ (by omega))
     clear hm hz hst hc1 hg2 hc2 HNJ
     subst hm0
     have hmz:((0:Nat):Int)=0:=rfl
     go_upto_region 8 with (go_at_call 72; refine (Cj _ ps i (j:Int) _ Nr.out.rd.now (by omega)).mono ?_; rintro e w' ⟨rfl,rfl⟩; rw [HM.out])
     have Sr:=Nr.out.drew
     have Zj:=HFR.out.drew
     clear q0 q1 cj Nr HFR
     refine wp_region_noPanic ?_
     refine bI (S:=(fun w'=>w'.cell? ⟨b,0,none⟩=some (.slice (some ⟨g,o,none⟩) ps.length vc)∧w'.cell? ⟨b,1,none⟩=some (.slice (some ⟨h,0,none⟩) ps.length ps.length))) (L:=[13,15]) (by kernel_rfl) ⟨Sr.box.cell 0 rfl,Sr.box.cell 1 rfl⟩ (fun hHeld=>?_)
     refine aC 0 ?_
     refine aC 4 ?_
     refine aC 5 ?_
     refine aC 9 ?_
     refine aC 10 ?_
     refine aC 11 ?_
     refine aC 1 ?_
     refine aC 6 ?_
     refine aC 2 ?_
     refine aC 7 ?_
     refine dV 3 ?_
     refine dV 8 ?_
     refine aC 12 ?_
     refine rP 13 fun K hK=>?_
     have d1:wr.drew.cell? ⟨h,i,none⟩=some (.int .i64 ((bU).getD i 0)):=Sr.wit.cell i (dI _ _ (by (try simp only [List.length_set]); omega))
     have d2:=Sr.wit.frozen i
     go_simp
     refine aQ ?_
     intro qO QF
     have S13:St ps (some ⟨g,o,none⟩) vc b h ((bU).set i ((j:Int))) vj bj qO:=by rw [QF]; exact Sr.setW i ((j:Int))
     have Zk:Fr (Two b h) w qO:=by rw [QF]; exact Zj.setCell (.inr rfl) _
     clear QF d1 d2
     refine hK.out _ _ ?_
     clear hK K
     refine aC 14 ?_
     refine rP 15 fun K hK=>?_
     have d1:qO.cell? ⟨h,j,none⟩=some (.int .i64 ((bU.set i (j:Int)).getD j 0)):=S13.wit.cell j (dI _ _ (by (try simp only [List.length_set]); omega))
     have d2:=S13.wit.frozen j
     go_simp
     refine aQ ?_
     intro w15 afM
     have S15:St ps (some ⟨g,o,none⟩) vc b h ((bU.set i (j:Int)).set j ((i:Int))) vj bj w15:=by rw [afM]; exact S13.setW j ((i:Int))
     have ajd:Fr (Two b h) w w15:=by rw [afM]; exact Zk.setCell (.inr rfl) _
     clear afM d1 d2
     refine hK.out _ _ ?_
     clear hK K
     refine jC ?_
     have acO:=hid S15
     have aje:=hid ajd
     clear hHeld Sr S13 Zj Zk S15 ajd
     have z0:=acO.out.box.cell 0 rfl
     have hcb:=acN ps i j (PS.out i hi) (PS.out j hlt)
     obtain ⟨ct,hct⟩:∃ c,oJ ps i j=c:=⟨_,rfl⟩
     rw [hct] at hcb HST
     have hbd:=HBD.out
     have hcn:=HCN.out
     have hcc:=HCC.out
     have hwr:IntKind.i64.wrap (sum+ct)=sum+ct:=IntWalk.i64_in _ (by omega)
     have hs0:0≤sum+ct:=by omega
     have hsB:sum+ct+200000 * (kN ((bU.set i (j:Int)).set j (i:Int)):Int)≤10000000:=by omega
     have HCW:Hid (kN ((bU.set i (j:Int)).set j (i:Int))<f):=hid (by omega)
     have Rq:=hid hct
     clear hcb hbd hcn hcc hct
     go_upto_region 10 with (go_at_call 75; refine (Zh _ ps i j _ acO.out.rd.now hi hlt (PS.out i hi) (PS.out j hlt)).mono ?_; rintro e w' ⟨rfl,nq,rfl⟩; rw [Rq.out]; have ajf:=hid (acO.out.drewN nq); have ajg:=hid (aje.out.drewN nq))
     refine (HIH.out ((bU.set i (j:Int)).set j (i:Int)) dX (sum+ct) bj vj _ HLW.out HCW.out HNW.out hs0 hsB ajf.out).mono ?_
     rintro e wx ⟨rfl,vx,hsx,hfx⟩
     have Jg:=hid hsx
     have HFX:=hid (ajg.out.trans hfx (iE.refl _ _))
     clear hsx hfx
     go_upto_region 10 with (fail)
     clear z0 hwr hs0 hsB
     obtain ⟨bx,hbx⟩:∃ bx,jX ps f dX (sum+ct) ((bU.set i (j:Int)).set j (i:Int)) bj=bx:=⟨_,rfl⟩
     have HNX:Hid (jJ ps f dX sum bU i (i+1) bst=jJ ps f dX sum bU i (j+1) bx):=hid (by rw [HST.out,hbx])
     have Sx:=Jg.out.drew
     rw [hbx] at Sx
     have aji:=HFX.out.drew
     clear Jg HFX acO ajf aje ajg HST hbx HCW Rq
     refine wp_region_noPanic ?_
     refine bI (S:=(fun w'=>w'.cell? ⟨b,0,none⟩=some (.slice (some ⟨g,o,none⟩) ps.length vc)∧w'.cell? ⟨b,1,none⟩=some (.slice (some ⟨h,0,none⟩) ps.length ps.length))) (L:=[11,13]) (by kernel_rfl) ⟨Sx.box.cell 0 rfl,Sx.box.cell 1 rfl⟩ (fun hHeld=>?_)
     refine aC 0 ?_
     refine aC 4 ?_
     refine aC 5 ?_
     refine aC 9 ?_
     refine aC 1 ?_
     refine aC 6 ?_
     refine aC 2 ?_
     refine aC 7 ?_
     refine dV 3 ?_
     refine dV 8 ?_
     refine aC 10 ?_
     refine rP 11 fun K hK=>?_
     have d1:wx.drew.cell? ⟨h,i,none⟩=some (.int .i64 (((bU.set i (j:Int)).set j (i:Int)).getD i 0)):=Sx.wit.cell i (dI _ _ (by (try simp only [List.length_set]); omega))
     have d2:=Sx.wit.frozen i
     go_simp
     refine aQ ?_
     intro Ns QG
     have S11:St ps (some ⟨g,o,none⟩) vc b h (((bU.set i (j:Int)).set j (i:Int)).set i (-1)) vx bx Ns:=by rw [QG]; exact Sx.setW i (-1)
     have Zl:Fr (Two b h) w Ns:=by rw [QG]; exact aji.setCell (.inr rfl) _
     clear QG d1 d2
     refine hK.out _ _ ?_
     clear hK K
     refine aC 12 ?_
     refine rP 13 fun K hK=>?_
     have d1:Ns.cell? ⟨h,j,none⟩=some (.int .i64 ((((bU.set i (j:Int)).set j (i:Int)).set i (-1)).getD j 0)):=S11.wit.cell j (dI _ _ (by (try simp only [List.length_set]); omega))
     have d2:=S11.wit.frozen j
     go_simp
     refine aQ ?_
     intro qO QF
     have S13:St ps (some ⟨g,o,none⟩) vc b h ((((bU.set i (j:Int)).set j (i:Int)).set i (-1)).set j (-1)) vx bx qO:=by rw [QF]; exact S11.setW j (-1)
     have Zk:Fr (Two b h) w qO:=by rw [QF]; exact Zl.setCell (.inr rfl) _
     clear QF d1 d2
     refine hK.out _ _ ?_
     clear hK K
     refine jC ?_
     rw [aja bU i j _ _ (by omega) (by omega) (by omega) HWI.out HWJ.out] at S13
     have aox:=hid S13
     have aoy:=hid Zk
     clear hHeld Sx S11 aji Zl S13 Zk
     go_wp2_with fail
     go_roundw
     case rel=>exact ⟨j+1,vx,bx,by omega,by omega,by go_num,HNX,aox,aoy⟩
     case measure=>simp [intOf]; omega
    ·have HST:Hid (jJ ps f dX sum bU i (i+1) bst=jJ ps f dX sum bU i (j+1) bj):=hid (by
      rw [HNJ.out,hst,Ep,if_neg (fun e=>hm0 (hm.symm.trans e.2))])
     have avm:((m:Nat):Int)≠0:=by omega
     clear hm hz hst HNJ hm0
     go_wp2_with (go_at_call 72; refine (Cj _ ps i (j:Int) _ Nr.out.rd.now (by omega)).mono ?_; rintro e w' ⟨rfl,rfl⟩; rw [HM.out])
     go_roundw
     case rel=>exact ⟨j+1,vj,bj,by omega,by omega,by go_num,HST,Nr,HFR⟩
     case measure=>simp [intOf]; omega
   ·have HST:Hid (jJ ps f dX sum bU i (i+1) bst=jJ ps f dX sum bU i (j+1) bj):=hid (by
     rw [HNJ.out,hst,Ep,if_neg (fun e=>hz0 (by rw [← hz]; exact e.1))])
    clear hm hz hst HNJ
    go_wp2_with fail
    go_roundw
    case rel=>exact ⟨j+1,vj,bj,by omega,by omega,by go_num,HST,Nr,HFR⟩
    case measure=>simp [intOf]; omega
  ·obtain rfl:j=ps.length:=by omega
   have Dh:Hid (jJ ps f dX sum bU i (i+1) bst=bj):=hid (by rw [HNJ.out,Nl])
   have HSC:Hid (∀ w',Fr (Two b h) w w'→w'.cell? ⟨g,o+i * 4,none⟩=some (.int .i64 (aZ ps i).score)):=hid (fun w' hf=>by
    obtain ⟨g',o',ha,-,hcc⟩:=kZ.some (OC.out w' hf) (by omega)
    cases ha
    obtain ⟨v,c0,-⟩:=hcc i hi
    exact c0)
   have hbc:wr.cell? ⟨g,o+i * 4+3,none⟩=some (.bool (aZ ps i).dX):=by
    obtain ⟨g',o',ha,-,hcc⟩:=kZ.some Nr.out.rd.now (by omega)
    cases ha
    obtain ⟨v,-,-,-,c3,-⟩:=hcc i hi
    exact c3
   clear HNJ
   have hlen:=HL.out
   cases dX
   ·have HFN:Hid (jX ps (f+1) false sum bU bst=bj):=hid (by rw [HF.out,if_neg (fun e=>by cases e.1),Dh.out])
    clear HF hbc
    go_wp2_with fail
    go_end0
    exact ⟨rfl,vj,by rw [HFN.out]; exact Nr.out,HFR.out⟩
   ·obtain ⟨yb,hyb⟩:∃ y,(aZ ps i).dX=y:=⟨_,rfl⟩
    rw [hyb] at hbc
    cases yb
    ·obtain ⟨si,hsi⟩:∃ s,(aZ ps i).score=s:=⟨_,rfl⟩
     rw [hsi] at HSC
     have HFN:Hid (jX ps (f+1) true sum bU bst=jX ps f false (sum+100 * si * si) (bU.set i (ps.length:Int)) bj):=hid (by rw [HF.out,if_pos ⟨rfl,hyb⟩,Dh.out,hsi])
     have hsq:=PS.out i hi
     unfold Small at hsq
     rw [hsi] at hsq
     have hs2:=uj si 40 (by omega) (by omega)
     have hmul:100 * si * si=100 * (si * si):=Int.mul_assoc _ _ _
     have ajk:0≤100 * si * si∧100 * si * si≤160000:=by omega
     have hc1:=nG bU i (ps.length:Int) (by omega) (by omega) HWI.out
     have hbd:=HBD.out
     have hcn:=HCN.out
     have HLW:Hid ((bU.set i (ps.length:Int)).length=ps.length):=hid (by rw [List.length_set]; omega)
     have HCW:Hid (kN (bU.set i (ps.length:Int))<f):=hid (by omega)
     have HNW:Hid (Neg (bU.set i (ps.length:Int))):=hid (afL.out.set i _ (by omega))
     have ajl:0≤sum+100 * si * si:=by omega
     have ajm:sum+100 * si * si+200000 * (kN (bU.set i (ps.length:Int)):Int)≤10000000:=by omega
     have hw1:IntKind.i64.wrap (100 * si)=100 * si:=IntWalk.i64_in _ (by omega)
     have hw2:IntKind.i64.wrap (100 * si * si)=100 * si * si:=IntWalk.i64_in _ (by omega)
     have hw3:IntKind.i64.wrap (sum+100 * si * si)=sum+100 * si * si:=IntWalk.i64_in _ (by omega)
     clear HF hsi hyb hsq hs2 hmul ajk hc1 hbd hcn
     go_upto_region 12 with (fail)
     have Sr:=Nr.out.drew
     have Zj:=HFR.out.drew
     clear q0 q1 hbc Nr HFR
     refine wp_region_noPanic ?_
     refine bI (S:=(fun w'=>w'.cell? ⟨b,0,none⟩=some (.slice (some ⟨g,o,none⟩) ps.length vc)∧w'.cell? ⟨b,1,none⟩=some (.slice (some ⟨h,0,none⟩) ps.length ps.length))) (L:=[11]) (by kernel_rfl) ⟨Sr.box.cell 0 rfl,Sr.box.cell 1 rfl⟩ (fun hHeld=>?_)
     refine aC 0 ?_
     refine aC 4 ?_
     refine aC 5 ?_
     refine aC 1 ?_
     refine aC 6 ?_
     refine aC 2 ?_
     refine aC 7 ?_
     refine dV 3 ?_
     refine dV 8 ?_
     refine aC 9 ?_
     refine aC 10 ?_
     refine rP 11 fun K hK=>?_
     have d1:wr.drew.cell? ⟨h,i,none⟩=some (.int .i64 ((bU).getD i 0)):=Sr.wit.cell i (dI _ _ (by (try simp only [List.length_set]); omega))
     have d2:=Sr.wit.frozen i
     go_simp
     refine aQ ?_
     intro Ns QG
     have S11:St ps (some ⟨g,o,none⟩) vc b h ((bU).set i ((ps.length:Int))) vj bj Ns:=by rw [QG]; exact Sr.setW i ((ps.length:Int))
     have Zl:Fr (Two b h) w Ns:=by rw [QG]; exact Zj.setCell (.inr rfl) _
     clear QG d1 d2
     refine hK.out _ _ ?_
     clear hK K
     refine jC ?_
     have aoA:=hid S11
     have aoB:=hid Zl
     clear hHeld Sr Zj S11 Zl
     go_upto_region 13 with (fail)
     have Sy:=aoA.out.drew
     have Fyd:=aoB.out.drew
     have hsc:=HSC.out _ Fyd
     refine wp_region_noPanic ?_
     refine bI (S:=(fun w'=>w'.cell? ⟨b,0,none⟩=some (.slice (some ⟨g,o,none⟩) ps.length vc)∧w'.cell? ⟨g,o+i * 4,none⟩=some (.int .i64 si))) (L:=[]) (by kernel_rfl) ⟨Sy.box.cell 0 rfl,hsc⟩ (fun hHeld=>?_)
     refine aC 0 ?_
     refine aC 1 ?_
     refine aC 2 ?_
     refine aC 6 ?_
     refine aC 11 ?_
     refine aC 15 ?_
     refine aC 3 ?_
     refine aC 12 ?_
     refine aC 4 ?_
     refine aC 13 ?_
     refine dV 5 ?_
     refine dV 14 ?_
     refine aC 7 ?_
     refine aC 16 ?_
     refine aC 8 ?_
     refine aC 17 ?_
     refine dV 9 ?_
     refine dV 18 ?_
     refine aC 10 ?_
     refine aC 19 ?_
     refine aC 20 ?_
     refine fH 21 fun K hK=>?_
     go_simp
     try simp only [hw1,hw2,hw3]
     refine (HIH.out (bU.set i (ps.length:Int)) false (sum+100 * si * si) bj vj Ns.drew HLW.out HCW.out HNW.out ajl ajm Sy).mono ?_
     rintro e wx ⟨rfl,vx,hsx,hfx⟩
     have Jg:=hid hsx
     have HFX:=hid (Fyd.trans hfx (iE.refl _ _))
     clear hsx hfx Sy Fyd
     refine hK.out _ _ ⟨Jg.out.box.cell 0 rfl,(HSC.out wx HFX.out)⟩ (fun hHeld=>?_)
     clear hK K
     refine jC ?_
     clear hHeld
     have q0:=Jg.out.box.cell 0 rfl
     have q1:=Jg.out.box.cell 1 rfl
     have ci:=Jg.out.wit.cell i (dI (bU.set i (ps.length:Int)) i (by rw [List.length_set]; omega))
     have fi:=Jg.out.wit.frozen i
     go_wp2_with fail
     go_end0
     refine ⟨rfl,vx,?_,HFX.out.setCell (.inr rfl) _⟩
     have hq:=Jg.out.setW i (-1)
     rw [ai9 bU i _ (by omega) HWI.out] at hq
     rw [HFN.out]
     exact hq
    ·have HFN:Hid (jX ps (f+1) true sum bU bst=bj):=hid (by rw [HF.out,if_neg (fun e=>by rw [hyb] at e; cases e.2),Dh.out])
     clear HF hyb
     go_wp2_with fail
     go_end0
     exact ⟨rfl,vj,by rw [HFN.out]; exact Nr.out,HFR.out⟩
theorem Es (ps:List dH) (g o vc b h:Nat) (hn2:2≤ps.length) (MG:ps.length≤8) (hsm:∀ k,k<ps.length→Small (aZ ps k)):∀ f,SearchSaid ps g o vc b h f
 | 0=>fun bU _ _ _ _ _ _ hc=>absurd hc (Nat.not_lt_zero _)
 | f+1=>fun bU dX sum bst vb w hl hc hneg h0 hB hs=>by
  rcases (by omega:lq (-1) bU 0<0∨0≤lq (-1) bU 0) with hx | hx
  ·exact Np ps g o vc b h f hn2 MG bU dX sum bst vb w hl hs hx
  ·obtain ⟨i,h1,h2,h3⟩:=xA (-1) bU 0 hx
   rw [Nat.zero_add] at h1
   exact Nq ps g o vc b h f hn2 MG hsm (Es ps g o vc b h hn2 MG hsm f) bU dX sum bst vb w hl hc hneg h0 hB hs i h1 (by omega) h3
def Ent (ps:List dH) (bU:List Int) (i:Nat):Prop:=
 bU.getD i 0 = -1∨(bU.getD i 0=ps.length∧(aZ ps i).dX=false)∨∃ j:Nat,j<ps.length∧bU.getD i 0=j∧j≠i∧bU.getD j 0=i∧ji ps i j=0
structure Inv (ps:List dH) (dX:Bool) (bU:List Int):Prop where
 len:bU.length=ps.length
 ent:∀ i,i<ps.length→Ent ps bU i
 uniq:∀ i k,i<ps.length→k<ps.length→bU.getD i 0=ps.length→bU.getD k 0=ps.length→i=k
 has:(∃ i,i<ps.length∧bU.getD i 0=ps.length)↔(ps.length % 2=1∧dX=false)
 odd:dX=true→ps.length % 2=1
 par:kN bU % 2=if dX=true then 1 else 0
def SymM (ps:List dH):Prop:=∀ i j:Nat,i<ps.length→j<ps.length→ji ps i j=ji ps j i
theorem Inv.pair {ps:List dH} {dX:Bool} {bU:List Int} (h:Inv ps dX bU) (hs:SymM ps) (i j:Nat) (hij:i<j) (hj:j<ps.length) (hi0:bU.getD i 0 = -1) (hj0:bU.getD j 0 = -1) (hm:ji ps i j=0) :
  Inv ps dX ((bU.set i (j:Int)).set j (i:Int)):=by
 have hl:=h.len
 have hg:∀ k,((bU.set i (j:Int)).set j (i:Int)).getD k 0=if k=j then (i:Int) else if k=i then (j:Int) else bU.getD k 0:=by
  intro k
  rw [jY _ _ _ _ (by rw [List.length_set]; omega),jY _ _ _ _ (by omega)]
 have c1:=nG bU i (j:Int) (by omega) (by omega) hi0
 have c2:=nG (bU.set i (j:Int)) j (i:Int) (by rw [List.length_set]; omega) (by omega) (by rw [jY _ _ _ _ (by omega),if_neg (by omega)]; exact hj0)
 have hn:∀ k,((bU.set i (j:Int)).set j (i:Int)).getD k 0=ps.length↔bU.getD k 0=ps.length:=by
  intro k
  rw [hg k]
  by_cases e1:k=j
  ·subst e1; rw [if_pos rfl,hj0]; omega
  ·rw [if_neg e1]
   by_cases e2:k=i
   ·subst e2; rw [if_pos rfl,hi0]; omega
   ·rw [if_neg e2]
 refine ⟨by simp only [List.length_set]; exact hl,fun k hk=>?_,fun a b ha hb h1 h2=>h.uniq a b ha hb ((hn a).1 h1) ((hn b).1 h2),?_,h.odd,by rw [← h.par]; omega⟩
 ·by_cases e1:k=j
  ·subst e1
   exact .inr (.inr ⟨i,by omega,by rw [hg,if_pos rfl],by omega,by rw [hg,if_neg (by omega),if_pos rfl],by rw [hs k i hk (by omega)]; exact hm⟩)
  ·by_cases e2:k=i
   ·subst e2
    exact .inr (.inr ⟨j,hj,by rw [hg,if_neg e1,if_pos rfl],by omega,by rw [hg,if_pos rfl],hm⟩)
   ·rcases h.ent k hk with h1 | ⟨h1,h2⟩ | ⟨m,h1,h2,h3,h4,h5⟩
    ·exact .inl (by rw [hg,if_neg e1,if_neg e2]; exact h1)
    ·exact .inr (.inl ⟨by rw [hg,if_neg e1,if_neg e2]; exact h1,h2⟩)
    ·have f1:m≠j:=fun e=>by subst e; rw [hj0] at h4; omega
     have f2:m≠i:=fun e=>by subst e; rw [hi0] at h4; omega
     exact .inr (.inr ⟨m,h1,by rw [hg,if_neg e1,if_neg e2]; exact h2,h3,by rw [hg,if_neg f1,if_neg f2]; exact h4,h5⟩)
 ·rw [← h.has]
  exact ⟨fun ⟨k,h1,h2⟩=>⟨k,h1,(hn k).1 h2⟩,fun ⟨k,h1,h2⟩=>⟨k,h1,(hn k).2 h2⟩⟩
theorem Inv.off {ps:List dH} {bU:List Int} (h:Inv ps true bU) (i:Nat) (hi:i<ps.length) (hi0:bU.getD i 0 = -1) (hb:(aZ ps i).dX=false):Inv ps false (bU.set i (ps.length:Int)):=by
 have hl:=h.len
 have hg:∀ k,(bU.set i (ps.length:Int)).getD k 0=if k=i then (ps.length:Int) else bU.getD k 0:=fun k=>jY _ _ _ _ (by omega)
 have c1:=nG bU i (ps.length:Int) (by omega) (by omega) hi0
 have hno:∀ k,k<ps.length→bU.getD k 0≠ps.length:=fun k hk e=>by
  have:=(h.has.1 ⟨k,hk,e⟩).2
  cases this
 have hp:=h.par
 rw [if_pos rfl] at hp
 refine ⟨by rw [List.length_set]; exact hl,fun k hk=>?_,fun a b ha hb h1 h2=>?_,?_,fun e=>(by cases e),by rw [if_neg (by decide)]; omega⟩
 ·by_cases e:k=i
  ·subst e
   exact .inr (.inl ⟨by rw [hg,if_pos rfl],hb⟩)
  ·rcases h.ent k hk with h1 | ⟨h1,h2⟩ | ⟨m,h1,h2,h3,h4,h5⟩
   ·exact .inl (by rw [hg,if_neg e]; exact h1)
   ·exact absurd h1 (hno k hk)
   ·have f2:m≠i:=fun e=>by subst e; rw [hi0] at h4; omega
    exact .inr (.inr ⟨m,h1,by rw [hg,if_neg e]; exact h2,h3,by rw [hg,if_neg f2]; exact h4,h5⟩)
 ·by_cases e1:a=i
  ·by_cases e2:b=i
   ·rw [e1,e2]
   ·rw [hg,if_neg e2] at h2; exact absurd h2 (hno b hb)
  ·rw [hg,if_neg e1] at h1; exact absurd h1 (hno a ha)
 ·exact ⟨fun _=>⟨h.odd rfl,rfl⟩,fun _=>⟨i,hi,by rw [hg,if_pos rfl]⟩⟩
def dh:Nat→(Nat→Int)→Int
 | 0,_=>0
 | n+1,f=>dh n f+f n
theorem sumTo_congr (f g:Nat→Int):∀ n,(∀ k,k<n→g k=f k)→dh n g=dh n f
 | 0,_=>rfl
 | n+1,h=>by unfold dh; rw [sumTo_congr f g n (fun k hk=>h k (by omega)),h n (by omega)]
theorem lQ (f g:Nat→Int) (i:Nat):∀ n,(∀ k,k<n→k≠i→g k=f k)→i<n→dh n g=dh n f+(g i - f i)
 | 0,_,h=>absurd h (Nat.not_lt_zero _)
 | n+1,h,hi=>by
  unfold dh
  by_cases e:i=n
  ·subst e
   rw [sumTo_congr f g i (fun k hk=>h k (by omega) (by omega))]
   omega
  ·rw [lQ f g i n (fun k hk he=>h k (by omega) he) (by omega),h n (by omega) (fun e'=>e e'.symm)]
   omega
def SQ (ps:List dH) (i:Nat) (v:Int):Int:=if v=ps.length then 100 * (aZ ps i).score * (aZ ps i).score else if (i:Int)<v then oJ ps i v.toNat else 0
def uo (ps:List dH) (bU:List Int):Int:=dh ps.length (fun i=>SQ ps i (bU.getD i 0))
theorem Ag (ps:List dH) (l:List Int) (hl:l.length=ps.length) (i:Nat) (hi:i<ps.length) (v:Int):uo ps (l.set i v)=uo ps l+(SQ ps i v - SQ ps i (l.getD i 0)):=by
 unfold uo
 rw [lQ (fun k=>SQ ps k (l.getD k 0)) (fun k=>SQ ps k ((l.set i v).getD k 0)) i ps.length (fun k hk he=>by show SQ ps k ((l.set i v).getD k 0)=_; rw [jY _ _ _ _ (by omega),if_neg he]) hi]
 show _+(SQ ps i ((l.set i v).getD i 0) - _)=_
 rw [jY _ _ _ _ (by omega),if_pos rfl]
theorem QH (ps:List dH) (i j:Nat):oJ ps i j=oJ ps j i:=by
 unfold oJ
 generalize (aZ ps i).score=a
 generalize (aZ ps j).score=b
 rw [Int.add_comm (aZ ps j).colour (aZ ps i).colour]
 rw [Int.mul_assoc,Int.mul_assoc,show b - a = -(a - b) by omega,Int.neg_mul_neg]
theorem acP (ps:List dH) (i j:Nat) (hi:i<ps.length) (hj:j<ps.length) (hne:i≠j):SQ ps i (j:Int)+SQ ps j (i:Int)=oJ ps i j:=by
 unfold SQ
 rw [if_neg (show ¬ ((j:Int)=ps.length) by omega),if_neg (show ¬ ((i:Int)=ps.length) by omega)]
 rcases Nat.lt_or_ge i j with h | h
 ·rw [if_pos (show (i:Int)<j by omega),if_neg (show ¬ ((j:Int)<i) by omega)]; simp
 ·rw [if_neg (show ¬ ((i:Int)<j) by omega),if_pos (show (j:Int)<i by omega),QH]; simp
theorem Jw (ps:List dH) (i:Nat):SQ ps i (-1)=0:=by
 unfold SQ
 rw [if_neg (show ¬ ((-1:Int)=ps.length) by omega),if_neg (show ¬ ((i:Int) < -1) by omega)]
theorem QI (ps:List dH) (l:List Int) (hl:l.length=ps.length) (i j:Nat) (hij:i<j) (hj:j<ps.length) (hi0:l.getD i 0 = -1) (hj0:l.getD j 0 = -1):uo ps ((l.set i (j:Int)).set j (i:Int))=uo ps l+oJ ps i j:=by
 rw [Ag ps _ (by rw [List.length_set]; exact hl) j hj,Ag ps l hl i (by omega),jY _ _ _ _ (by omega),if_neg (by omega),hi0,hj0,Jw,Jw,← acP ps i j (by omega) hj (by omega)]
 omega
theorem Vh (ps:List dH) (l:List Int) (hl:l.length=ps.length) (i:Nat) (hi:i<ps.length) (hi0:l.getD i 0 = -1):uo ps (l.set i (ps.length:Int))=uo ps l+100 * (aZ ps i).score * (aZ ps i).score:=by
 rw [Ag ps l hl i hi,hi0,Jw]
 unfold SQ
 rw [if_pos rfl]
 omega
def Whole (ps:List dH) (W:List Int):Prop:=Inv ps false W∧kN W=0
def Et (ps:List dH) (b:Option (List Int)×Int):Prop:=b.1=none∨∃ W,b.1=some W∧Whole ps W∧b.2=uo ps W
theorem Nu (ps:List dH) (f:Nat) (dX:Bool) (sum:Int) (bU:List Int) (i:Nat) (P:Nat→(Option (List Int)×Int)→Prop)
  (h:∀ k b,i+1≤k→k<ps.length→P k b→P (k+1) (Ep ps f dX sum bU i b k)):∀ (m k:Nat) b,ps.length - k=m→i+1≤k→k≤ps.length→P k b→P ps.length (jJ ps f dX sum bU i k b)
 | 0,k,b,hm,h1,h2,hp=>by
  obtain rfl:k=ps.length:=by omega
  rw [Nl]; exact hp
 | m+1,k,b,hm,h1,h2,hp=>by
  rw [Ht _ _ _ _ _ _ _ _ (by omega)]
  exact Nu ps f dX sum bU i P h m (k+1) _ (by omega) (by omega) (by omega) (h k b h1 (by omega) hp)
theorem Zm {l:List Int} (h:∀ i,i<l.length→l.getD i 0≠-1):kN l=0:=by
 unfold kN
 rw [List.count_eq_zero]
 intro hm
 obtain ⟨i,hi,he⟩:=List.getElem_of_mem hm
 exact h i hi (by rw [List.getD_eq_getElem?_getD,List.getElem?_eq_getElem hi,he]; rfl)
theorem Nv {l:List Int} (h:kN l=0) (i:Nat) (hi:i<l.length):l.getD i 0≠-1:=by
 unfold kN at h
 rw [List.count_eq_zero] at h
 intro he
 refine h ?_
 rw [← he,List.getD_eq_getElem?_getD,List.getElem?_eq_getElem hi]
 exact List.getElem_mem hi
theorem full_of {ps:List dH} {dX:Bool} {bU:List Int} (h:Inv ps dX bU) (hx:lq (-1) bU 0<0):dX=false∧kN bU=0:=by
 have hc:=Zm (Hr (-1) bU 0 hx)
 have hp:=h.par
 rw [hc] at hp
 cases dX
 ·exact ⟨rfl,hc⟩
 ·cases hp
theorem Ah (ps:List dH) (hs:SymM ps):∀ (f:Nat) (dX:Bool) (sum:Int) (bU:List Int) (b:Option (List Int)×Int),Inv ps dX bU→sum=uo ps bU→kN bU<f→Et ps b→Et ps (jX ps f dX sum bU b)
 | 0,_,_,_,_,_,_,hc,_=>absurd hc (Nat.not_lt_zero _)
 | f+1,dX,sum,bU,b,hI,hsum,hc,hb=>by
  have hl:=hI.len
  rcases (by omega:lq (-1) bU 0<0∨0≤lq (-1) bU 0) with hx | hx
  ·obtain ⟨rfl,h0⟩:=full_of hI hx
   rw [Hw _ _ _ _ _ _ hx]
   split
   ·exact .inr ⟨bU,rfl,⟨hI,h0⟩,hsum⟩
   ·exact hb
  ·obtain ⟨i,h1,h2,h3⟩:=xA (-1) bU 0 hx
   rw [Nat.zero_add] at h1
   rw [Hz _ _ _ _ _ _ i h1]
   have hL:Et ps (jJ ps f dX sum bU i (i+1) b):=by
    refine Nu ps f dX sum bU i (fun _ b=>Et ps b) ?_ _ (i+1) b rfl (Nat.le_refl _) (by omega) hb
    intro k b' hk1 hk2 hb'
    unfold Ep
    by_cases hq:bU.getD k 0<0∧ji ps i k=0
    ·rw [if_pos hq]
     have hk0:bU.getD k 0 = -1:=by
      rcases hI.ent k hk2 with e | ⟨e,-⟩ | ⟨j,-,e,-⟩
      ·exact e
      ·omega
      ·omega
     have c1:=nG bU i (k:Int) (by omega) (by omega) h3
     have c2:=nG (bU.set i (k:Int)) k (i:Int) (by rw [List.length_set]; omega) (by omega) (by rw [jY _ _ _ _ (by omega),if_neg (by omega)]; exact hk0)
     exact Ah ps hs f dX _ _ b' (hI.pair hs i k (by omega) hk2 h3 hk0 hq.2) (by rw [QI ps bU hl i k (by omega) hk2 h3 hk0,hsum]) (by omega) hb'
    ·rw [if_neg hq]; exact hb'
   by_cases hq:dX=true∧(aZ ps i).dX=false
   ·rw [if_pos hq]
    obtain ⟨rfl,hq2⟩:=hq
    have c1:=nG bU i (ps.length:Int) (by omega) (by omega) h3
    exact Ah ps hs f false _ _ _ (hI.off i (by omega) h3 hq2) (by rw [Vh ps bU hl i (by omega) h3,hsum]) (by omega) hL
   ·rw [if_neg hq]; exact hL
theorem uq (n k:Nat) (h:k<n):(List.replicate n (-1:Int)).getD k 0 = -1:=by
 rw [List.getD_eq_getElem?_getD,List.getElem?_replicate,if_pos h]; rfl
theorem inv_start (ps:List dH):Inv ps (decide (ps.length % 2=1)) (List.replicate ps.length (-1)):=by
 refine ⟨by simp,fun i hi=>.inl (uq _ _ hi),fun i k hi hk h1 h2=>by rw [uq _ _ hi] at h1; omega,?_,fun h=>of_decide_eq_true h,?_⟩
 ·constructor
  ·rintro ⟨i,hi,h⟩
   rw [uq _ _ hi] at h; omega
  ·rintro ⟨h1,h2⟩
   rw [decide_eq_true h1] at h2; cases h2
 ·unfold kN
  rw [List.count_replicate_self]
  by_cases h:ps.length % 2=1
  ·rw [decide_eq_true h,if_pos rfl,h]
  ·rw [decide_eq_false h,if_neg (by decide)]; omega
theorem QJ (ps:List dH):uo ps (List.replicate ps.length (-1))=0:=by
 have h:∀ n,dh n (fun _=>(0:Int))=0:=by
  intro n
  induction n with
  | zero=>rfl
  | succ n ih=>unfold dh; rw [ih]; rfl
 unfold uo
 rw [sumTo_congr (fun _=>0) _ _ (fun k hk=>by show SQ ps k ((List.replicate ps.length (-1:Int)).getD k 0)=0; rw [uq _ _ hk,Jw]),h]
theorem Ai (n:Nat):kN (List.replicate n (-1))=n:=by unfold kN; rw [List.count_replicate_self]
theorem Vj (ps:List dH) (hs:SymM ps):Et ps (Bf ps):=Ah ps hs _ _ _ _ _ (inv_start ps) (QJ ps).symm (by rw [Ai]; omega) (.inl rfl)
theorem afO (ps:List dH) (h:um ps):SymM ps:=by
 intro i j hi hj
 rcases Nat.lt_or_ge j i with h1 | h1
 ·exact (h.2.2 i hi j h1).1
 ·rcases Nat.eq_or_lt_of_le h1 with e | e
  ·subst e; rfl
  ·exact (h.2.2 j hj i e).1.symm
theorem Nw {P:Program} (w:World) {o:Oper} {a:Act} {K:Act→World→Prop} {Q:Exit→Act→World→Prop} (d s:Operand) (t t':TypeId)
  (ho:o.op=.call { callee:=.builtin .copy,args:=#[d,s],argTypes:=#[t,t'] }) (v u:Value) (hd:a.eval d=v) (hs:a.eval s=u) {v':Value} {w':World}
  (hr:(Builtin.copy_ #[t,t'] o.type #[v,u]).run P w=.ok v' w') (h:K (a.put o.dst v') w'):o.wp P a w K Q:=by
 unfold Oper.wp execOp
 simp only [ho,resolve,invoke,builtin,Sem.run_bind,Sem.run_pure,Result.andThen_ok,List.map_toArray,List.map_cons,List.map_nil,hd,hs,hr]
 exact h
theorem Jy {P:Program} (w:World) {ops:Array Oper} {rest:List Oper} {o:Oper} {a:Act} {Q:Exit→Act→World→Prop} (hgd:o.guard=none) (d s:Operand) (t t':TypeId)
  (ho:o.op=.call { callee:=.builtin .copy,args:=#[d,s],argTypes:=#[t,t'] }) (v u:Value) (hd:a.eval d=v) (hs:a.eval s=u) {v':Value} {w':World}
  (hr:(Builtin.copy_ #[t,t'] o.type #[v,u]).run P w=.ok v' w') (h:wpList P ops Q rest (a.put o.dst v') w'):wpList P ops Q (o :: rest) a w:=
 wpList_plain hgd fun _ hK=>Nw w d s t t' ho v u hd hs hr (hK _ _ h)
theorem Vk (n:Nat) (h2:2≤n) (h8:n≤8) (w:World) :
  Calls Tryz.prog 115 #[.int .u64 1,.int .u64 n] w fun e w'=>e=.returned (.tuple #[.int .u64 0,.int .u64 n])∧w=w':=by
 rcases (by omega:n=2∨n=3∨n=4∨n=5∨n=6∨n=7∨n=8) with rfl | rfl | rfl | rfl | rfl | rfl | rfl
 all_goals
  go_enter Tryz.func115,Tryz.ntmps115
  go_wp2_with fail
  go_ret2
  exact ⟨rfl,rfl⟩
theorem acQ (n:Nat) (h2:2≤n) (h8:n≤8) (w:World) :
  Calls Tryz.prog 73 #[.int .u64 1,.int .u64 n] w fun e w'=>e=.returned (.tuple #[.int .u64 0,.int .u64 n])∧w=w':=by
 go_enter Tryz.func73,Tryz.ntmps73
 go_wp2_with (go_at_call 115; refine (Vk n h2 h8 _).mono ?_; rintro e w' ⟨rfl,rfl⟩)
 go_ret2
 exact ⟨rfl,rfl⟩
def lI (n k:Nat):List Int:=List.replicate k (-1)++List.replicate (n - k) 0
theorem Zn (n k:Nat) (h:k≤n):(lI n k).length=n:=by unfold lI; simp; omega
theorem Zo (w:World):(sizeOf 3).run Tryz.prog w=.ok 1 w:=by kernel_rfl
theorem Eu (l m:List Int):ints (l++m)=ints l++ints m:=by simp [ints]
theorem Vl (l:List Int) (k:Nat):(ints l).take k=ints (l.take k):=by simp [ints,List.map_take]
theorem Vm (l:List Int) (k:Nat):(ints l).drop k=ints (l.drop k):=by simp [ints,List.map_drop]
theorem H7 (n k m g:Nat) (w:World) (h:Box w g (ints (lI n k)) 3) (a:Addr) (sl sc:Nat) (hm:Nat.min sl (n - k)=m) (hk:k+m≤n) (hsrc:∀ j v,(ints (List.replicate m (-1)))[j]?=some v→w.cell? (a.add j)=some v) :
  ∃ w2,(∀ ty,(Builtin.copy_ #[22,22] ty #[.slice (some ⟨g,k,none⟩) (n - k) (n - k),.slice (some a) sl sc]).run Tryz.prog w=.ok (.int .i64 (m:Int)) w2)∧Box w2 g (ints (lI n (k+m))) 3∧(∀ B W,B≤g→Below B W w→Below B W w2)∧w.heap.size≤w2.heap.size:=by
 have hl:(ints (List.replicate m (-1))).length=m:=by simp [ints]
 have hfl:(ints (lI n k)).length=n:=by rw [nR,Zn n k (by omega)]
 have hr:=fun ty=>run_copy_row (P:=Tryz.prog) w 22 22 ty 3 g k (n - k) (n - k) a sl sc _ 3 (ints (List.replicate m (-1))) Tryz.underlying22 (by kernel_rfl) h (by rw [hl,hm]) hsrc (by rw [hl,List.size_toArray,hfl]; exact hk) (wJ _)
 rw [hl] at hr
 refine ⟨_,fun ty=>hr ty,?_,fun B W hB hb=>below_setRow hb hB _,Nat.le_of_eq (by simp [World.setRow])⟩
 have h2:=setRow_heap w g _ (((ints (lI n k)).toArray.toList.take k++ints (List.replicate m (-1))++(ints (lI n k)).toArray.toList.drop (k+m)).toArray) 3 _ h
 unfold Box
 rw [h2]
 congr 2
 have e:lI n (k+m)=(lI n k).take k++List.replicate m (-1)++(lI n k).drop (k+m):=by
  unfold lI
  rw [List.take_append_of_le_length (by simp),List.take_of_length_le (by simp),List.drop_append,List.drop_of_length_le (by simp),List.drop_replicate,List.length_replicate,List.nil_append,← List.replicate_append_replicate,show n - k - (k+m - k)=n - (k+m) by omega]
 rw [e,Eu,Eu,← Vl,← Vm]
theorem Zp (w:World) (g n k m:Nat) (h:Box w g (ints (lI n k)) 3) (hm:m≤k):∀ j v,(ints (List.replicate m (-1)))[j]?=some v→w.cell? ((⟨g,0,none⟩:Addr).add j)=some v:=by
 intro j v hj
 have hjl:j<m:=by have:=(List.getElem?_eq_some_iff.1 hj).1; simpa [ints] using this
 have hv:v=.int .i64 (-1):=by simp [ints,hjl] at hj; exact hj.symm
 rw [lT,Nat.zero_add]
 refine h.cell j ?_
 rw [hv]
 unfold lI
 rw [Eu,List.getElem?_append_left (by simp [ints]; omega)]
 simp [ints,show j<k by omega]
set_option maxRecDepth 100000 in
set_option maxHeartbeats 4000000 in
theorem QK (n g o c:Nat) (w:World) (h2:2≤n) (h8:n≤8) (hg:w.cell? ⟨g,o,none⟩=some (.int .i64 (-1))) :
  Calls Tryz.prog 30 #[.slice (some ⟨g,o,none⟩) 1 c,.int .i64 n] w fun e w'=>e=.returned (.slice (some ⟨w.heap.size,0,none⟩) n n)∧Box w' w.heap.size (ints (List.replicate n (-1))) 3∧Below w.heap.size w w':=by
 obtain ⟨i0,hi,hz0,hz1,hz2⟩:=info_parts info3
 have hlt:=World.block_lt_of_cell? w _ hg
 have HG:=hid hg
 have hd:∀ (k:Nat),k≤n→∀ w':World,(Instr.slice 22 (.slice (some ⟨w.heap.size,0,none⟩) n n) (some (.int .i64 (k:Int))) none none).run Tryz.prog w'=.ok (.slice (iT (some ⟨w.heap.size,0,none⟩) n k 1) (n - k) (n - k)) w':=fun k hk w' =>
  xJ (P:=Tryz.prog) (t:=22) (s:=1) Tryz.underlying22 (fun w=>Zo w) _ n n k hk w'
 have ht:∀ (k:Nat),k≤n→∀ w':World,(Instr.slice 22 (.slice (some ⟨w.heap.size,0,none⟩) n n) none (some (.int .i64 (k:Int))) none).run Tryz.prog w'=.ok (.slice (some ⟨w.heap.size,0,none⟩) k n) w':=fun k hk w' =>
  nU (P:=Tryz.prog) (t:=22) (s:=1) Tryz.underlying22 (fun w=>Zo w) _ n n k hk w'
 have HD:=hid hd
 have HT:=hid ht
 clear hg hd ht
 have e1:¬ (n:Int)<0:=by omega
 have e2:IntKind.u64.wrap (n:Int)=n:=by rw [IntKind.wrap_u64]; omega
 have e3:IntKind.i64.wrap (n:Int)=n:=by rw [IntKind.wrap_i64]; omega
 have e4:¬ (9223372036854775807:Int)<(n:Int):=by omega
 go_enter Tryz.func30,Tryz.ntmps30
 go_upto_region 6 with (go_at_call 73; refine (acQ n h2 h8 _).mono ?_; rintro e w' ⟨rfl,rfl⟩)
 go_upto_region 7 with (at_make; refine wpList_make_full _ rfl _ _ 22 rfl w.heap.size 3 i0 (.int .i64 0) 1 Tryz.underlying22 hi hz0 hz1 .i64 .i64 n n n rfl rfl rfl rfl (by rw [hz2]; omega) (by unfold maxLen; omega) (Nat.le_refl _) ?_; intro w2 hown hgrow)
 have hbx:Box w2 w.heap.size (ints (lI n 0)) 3:=by
  rcases hown.2 with ⟨h,_⟩ | ⟨g',c',cur,hv,_,hb,_,_,hcs,htk⟩
  ·cases h
  ·simp only [Value.slice.injEq,Option.some.injEq,Addr.mk.injEq,and_true,true_and] at hv
   obtain ⟨rfl,rfl⟩:=hv
   unfold Box
   rw [hb]
   congr 2
   rw [List.take_of_length_le (by rw [Array.length_toList]; omega),F8] at htk
   unfold lI
   rw [Nat.sub_zero,List.replicate_zero,List.nil_append,← htk]
 have hb2:Below w.heap.size w w2:=Below.grown (Below.refl _ w) hgrow (Nat.le_refl _) (fun q hq=>by simp at hq)
 have hg2:w2.cell? ⟨g,o,none⟩=some (.int .i64 (-1)):=by rw [hb2.cell (show (⟨g,o,none⟩:Addr).block<w.heap.size from hlt)]; exact HG.out
 obtain ⟨w3,hcp,hb3,hbel,-⟩:=H7 n 0 1 w.heap.size w2 hbx ⟨g,o,none⟩ 1 c (by rw [Nat.sub_zero]; exact Nat.min_eq_left (by omega)) (by omega) (fun j v hj=>by
  have hjl:j<1:=by have:=(List.getElem?_eq_some_iff.1 hj).1; simpa [ints] using this
  obtain rfl:j=0:=by omega
  have hv:v=.int .i64 (-1):=by simp [ints] at hj; exact hj.symm
  rw [hv,lT]; exact hg2)
 rw [Nat.sub_zero] at hcp
 have HB3:=hid hb3
 have PW:=hid (hbel _ _ (Nat.le_refl _) hb2)
 clear hbx hb2 hg2 hown hgrow hb3 hbel
 go_upto_region 8 with (refine Jy _ rfl _ _ 22 22 rfl _ _ rfl rfl (hcp _) ?_)
 clear hcp
 go_loopw [8] (fun v8 wr=>∃ k:Nat,1≤k∧k≤n∧v8=.int .i64 k∧Hid (Box wr w.heap.size (ints (lI n k)) 3)∧Hid (Below w.heap.size w wr)) (fun i _=>n - (intOf i).toNat)
 case atStart=>exact ⟨1,by omega,by omega,rfl,HB3,PW⟩
 case round =>
  obtain ⟨k,hk1,hk,rfl,bn,HLr⟩:=hrel
  by_cases hkn:k<n
  ·have hd:=HD.out k hk
   have ht:=HT.out k hk
   rw [show iT (some ⟨w.heap.size,0,none⟩) n k 1=some ⟨w.heap.size,k,none⟩ by unfold iT; rw [if_neg (by omega)]; simp [lT]] at hd
   obtain ⟨m,hm⟩:∃ m,Nat.min k (n - k)=m:=⟨_,rfl⟩
   have hm1:m≤k:=by rw [← hm]; exact Nat.min_le_left _ _
   have hm2:k+m≤n:=(by
    have:m≤n - k:=(by rw [← hm]; exact Nat.min_le_right _ _)
    omega)
   have hm3:1≤m:=by rw [← hm]; exact Nat.le_min.2 ⟨hk1,by omega⟩
   have hki:(k:Int)<(n:Int):=by omega
   obtain ⟨w4,hcp,hb4,hbel,avo⟩:=H7 n k m w.heap.size wr.drew bn.out.drew ⟨w.heap.size,0,none⟩ k n hm hm2 (Zp wr.drew w.heap.size n k m bn.out.drew hm1)
   have HB4:=hid hb4
   have HL4:=hid (hbel _ _ (Nat.le_refl _) (below_drewN HLr.out 1))
   have hw:IntKind.i64.wrap ((k:Int)+(m:Int))=((k+m:Nat):Int):=by rw [IntKind.wrap_i64]; omega
   clear hb4 hbel hm
   go_upto_region 9 with (fail)
   refine wp_region_noPanic ?_
   refine bI (S:=(fun _=>True)) (L:=[]) (by kernel_rfl) trivial (fun hHeld=>?_)
   refine aC 0 ?_
   refine aC 1 ?_
   refine aC 2 ?_
   refine aC 4 ?_
   refine aC 5 ?_
   refine aC 3 ?_
   refine aC 6 ?_
   refine fH 7 fun K hK=>?_
   rw [if_pos (by rfl)]
   refine Nw _ _ _ 22 22 rfl _ _ rfl rfl (hcp _) ?_
   refine hK.out _ _ trivial (fun hHeld=>?_)
   clear hK K
   refine aC 8 ?_
   refine aC 9 ?_
   refine jC ?_
   clear hHeld hcp
   go_wp2_with fail
   go_roundw
   case rel=>exact ⟨k+m,by omega,hm2,by go_num,HB4,HL4⟩
   case measure=>simp [intOf]; omega
  ·obtain rfl:k=n:=by omega
   have HE:Hid (Box wr w.heap.size (ints (List.replicate k (-1))) 3):=hid (by
    have:=bn.out
    rwa [show lI k k=List.replicate k (-1) by unfold lI; simp] at this)
   go_wp2_with fail
   go_ret
   exact ⟨rfl,HE.out,HLr.out⟩
end Go.Proofs.YteablcielclaeaaGreatDoor
