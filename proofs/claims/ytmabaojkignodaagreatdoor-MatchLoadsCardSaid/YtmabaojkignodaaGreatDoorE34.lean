/- Mlo, OpenR, OpenM, OpenP, OpenV, MaOp. -/
import Derived.Test.YtmabaojkignodaaGreatDoorE33
import Derived.Deep.Fields
import Derived.Stop.LaidErr
import Derived.LaidMore
import Derived.ChangeSame
import Derived.ChangeVars
namespace Go.Proofs.YtmabaojkignodaaGreatDoor
open Go.ChangeShapes Go.WideShapes Go.ChangeAt Go.RowKit
set_option linter.unusedVariables false
open Go.Lib (hid)
theorem aaE (p:bg):rQ p p=true:=by unfold rQ; simp
theorem abD (M:aG) (e:iY):(M.go e).1.jr.length≤M.jr.length+1:=by
 by_cases h:(M.go e).2=0
 ·rw [abC M e h]; exact Nat.le_refl _
 ·rw [SL M e h]; exact Nat.le_succ _
theorem aaH (l:List iL):abh l l=true:=by unfold abh; rw [List.take_of_length_le (Nat.le_refl _),aaj]; simp
theorem aH.ups {X S:Nat→Prop} {base b:Nat} {M:aG} {B:jv} {w:World} (h:aH X S base w b M B) (k:Nat) (hk:S k∨one1 b k):base≤k:=by
 obtain ⟨up,us,ue,vl,vm,rows,hg⟩:=h.game
 rcases hk with hk | hk
 ·exact (hg.lo k hk).1
 ·rw [show k=b from hk]; exact h.lo
set_option maxRecDepth 100000 in
set_option maxHeartbeats 16000000 in
theorem aas (HL:LdS) (R:aC) (vp vs ve:Value) (CR:nJ) (pa:Option Addr) (pc:Nat) (vl:Value) (KQ:List iY) (y:iY) (hy:wW y) (w:World) (hr:ru w R vp vs ve) (hnm:R.name.size≤maxLen) (hp:clk.dV w w.heap.size pa CR.ps.length CR.ps) (h1:CR.ps.length≤pc) (h2:pc≤maxLen) (hl:gI TQ w vl KQ) (ht:Tab w.heap.size w) (hmx:LY w.heap.size w) :
  Calls Tryz.prog 4 #[(.agg #[.string R.name,.int .i64 R.width,.int .i64 R.height,vp,vs,.bool R.falls,.bool R.keeps,ve,.int .i64 R.blocked,.int .i64 R.quiet,.int .i64 R.bF]),(.agg #[.slice pa CR.ps.length pc,.int .i64 CR.inc,.int .i64 CR.delay]),vl,.agg #[.int .i64 y.kind,.int .i64 y.au,.int .i64 y.n,.int .i64 y.now,.int .i64 y.m.src,.int .i64 y.m.dst,.int .i64 y.m.piece]] w fun e w'=>e=.returned (.bool true)∧Below w.heap.size w w':=by
 have HSo:=HL.so
 have HI:=HL.it
 have HJ:=HL.jo
 have HLd:=hid HL
 have Uz:=hid hmx
 clear HL hmx
 have HS:=hid HSo
 have HIt:=hid HI
 have HJo:=hid HJ
 have HR:=hid hr
 have OG:=hid hnm
 have HP:=hid hp
 have iH:=hid (And.intro h1 h2)
 have nT:=hid ht
 obtain ⟨ea,ec,rfl,he1,he2⟩:=hl.form
 unfold maxLen at he2
 obtain ⟨L,hL⟩:∃ L,L=min KQ.length 25:=⟨_,rfl⟩
 have m1:L≤KQ.length:=by omega
 have m2:L≤25:=by omega
 have hmin:(if (25:Int)<(KQ.length:Int) then (25:Int) else (KQ.length:Int))=(L:Int):=by split <;> omega
 have m3:L≤ec:=by omega
 have jy:=hid (hl.take L m1)
 have hgl:(KQ.take L).length=L:=by rw [List.length_take]; omega
 clear HSo HI HJ hr hnm hp h1 h2 hl ht hL
 generalize KQ.take L=evs at jy hgl
 have HY:=hid hy
 clear hy
 go_enter Tryz.func4,Tryz.ntmps4
 go_upto_region 1 with (fail)
 refine Cb fun w0 b0_ b1_ b2_ hb_ hs_=>?_
 have HX0:=hid b0_
 have dn:=hid b1_
 have jH:=hid b2_
 have HB:=hid hb_
 clear b0_ b1_ b2_ hb_ hs_
 go_wp2_with fail
 refine (aaD HS.out HIt.out HJo.out w0 (nT.out.mono HB.out.size HB.out)).mono ?_
 rintro e w1 ⟨rfl,hb1⟩
 have HB1:=hid (HB.out.trans (hb1.mono HB.out.size))
 have HY0:=hid (HX0.out.stays hb1)
 have HY1:=hid (dn.out.stays hb1)
 have HY2:=hid (jH.out.stays hb1)
 clear hb1 HX0 dn jH HB
 go_upto_region 4 with (fail)
 clear hmin
 refine wp_region_lit ?_
 refine aB (by rfl) 46 (.tmp 4) (by rfl) (w.heap.size) (by rfl) HY0.out Tryz.underlying46 (by rfl) (by kernel_rfl) ?_
 go_wp2_with fail
 refine (aar R vp vs ve w1 (HR.out.2.1.below HB1.out (Nat.le_refl _))).mono ?_
 rintro e w2 ⟨rfl,hb2⟩
 have HB2:=hid (HB1.out.trans (hb2.mono HB1.out.size))
 have HZ0:=hid (HY0.out.stays hb2)
 have HZ1:=hid (HY1.out.stays hb2)
 have HZ2:=hid (HY2.out.stays hb2)
 clear hb2 HB1 HY0 HY1 HY2
 by_cases hgr:20<(R.start.length:Int)
 ·have hd:decide (20<(R.start.length:Int))=true:=by simpa using hgr
  rw [hd]
  clear hgr hd
  go_wp2_with fail
  go_ret
  exact ⟨rfl,HB2.out⟩
 have hd:decide (20<(R.start.length:Int))=false:=by simpa using hgr
 rw [hd]
 clear hgr hd
 go_upto_region 6 with (fail)
 refine wp_region_lit ?_
 refine aB (by rfl) 46 (.tmp 4) (by rfl) (w.heap.size) (by rfl) HZ0.out Tryz.underlying46 (by rfl) (by kernel_rfl) ?_
 refine aB (by rfl) 49 (.tmp 5) (by rfl) (w.heap.size+1) (by rfl) HZ1.out Tryz.underlying49 (by rfl) (by kernel_rfl) ?_
 go_wp2_with fail
 refine (BF HS.out HIt.out R CR vp vs ve pa pc 0 w2 (HR.out.below HB2.out (Nat.le_refl _)) OG.out (HP.out.below HB2.out) iH.out.1 iH.out.2 (by decide) (by decide) (nT.out.mono HB2.out.size HB2.out)).mono ?_
 rintro e w3 (⟨c,⟨hc0,hbad⟩,rfl,hb3⟩ | ⟨adE,hcg,base,S0,b,B0,rfl,hm,hb0,hb1,hb3⟩)
 ·have HB3:=hid (HB2.out.trans (hb3.mono HB2.out.size))
  have hcb:(c != 0)=true:=by simpa using hc0
  clear hb3 hbad hc0
  go_wp2_with fail
  go_ret
  exact ⟨rfl,HB3.out⟩
 have hbw:w.heap.size≤base:=Nat.le_trans HB2.out.size hb0
 have HU0:=hid (HZ0.out.stays hb3)
 have HU2:=hid (HZ2.out.stays hb3)
 have HbU:Hid (w.heap.size+1+1<base):=hid (Nat.lt_of_lt_of_le HZ2.out.lt hb0)
 have HB3:=hid (HB2.out.trans (hb3.mono HB2.out.size))
 have HU1:=hid (HZ1.out.stays hb3)
 have nR:=hid hm
 have qg:=hid (And.intro hbw hb1)
 have qW:Hid (aW R=0∧clk.cu CR.ps.length CR.inc CR.delay CR.ps):=hid ⟨adE,WM hcg⟩
 have WG:Hid (∀ es,(∀ e∈es,wW e)→MInv (goes (dh R CR 0) es)∧(goes (dh R CR 0) es).ms.length≤400):=hid (fun es he=>xg es _ (BG R CR 0 OG.out hcg (by decide) (by decide)) (by rw [KD]; decide) he)
 clear hm hb0 hb1 hb3 hcg adE
 clear HZ0 HZ1 HZ2 HB2
 subst hgl
 have Zf:=hid (fun (W:World) (hb:Below w.heap.size w W)=>jy.out.below hb (Nat.le_refl _))
 have I7:Hid (evs.length≤25):=hid m2
 have HRn:=hid (fun (W:World) (hb:Below w.heap.size w W)=>HR.out.below hb (Nat.le_refl _))
 clear jy m1 m3 he1
 go_wp2_with fail
 go_loopw [37] (fun v37 wr=>∃ (k:Nat) (es:List iY) (S:Nat→Prop) (B:jv),k≤evs.length∧es.length≤k∧v37=.int .i64 k∧nP (dh R CR 0) es∧(∀ e∈es,wW e)∧Hid (aH Ut S base wr b (goes (dh R CR 0) es) B)∧Hid (base≤wr.heap.size)∧Hid (Below base w3 wr)) (fun v37 _=>evs.length - (intOf v37).toNat)
 case atStart=>exact ⟨0,[],S0,B0,Nat.zero_le _,Nat.le_refl _,rfl,trivial,(fun e he=>by cases he),nR,hid qg.out.2,hid (Below.refl _ _)⟩
 clear nR
 case round =>
  obtain ⟨k,es,S,B,hk,hek,rfl,hac,hok,HM,HBs,aaW⟩:=hrel
  have HBl:Hid (Below w.heap.size w wr):=hid (HB3.out.trans (aaW.out.mono hbw))
  by_cases hlt:k<evs.length
  ·have hlz:(k:Int)<(evs.length:Int):=by omega
   obtain ⟨g,o,rfl,hg,acu,a0,a1,a2,a3,a4,a5,a6⟩:=ZE (Zf.out wr HBl.out) k hlt
   have acv:=hid hac
   have acw:=hid hok
   have acy:=hid acu
   obtain ⟨hi1,hi2⟩:=WG.out es hok
   have hi3:(goes (dh R CR 0) es).jr.length<90:=by rw [yA hac]; have:=I7.out; omega
   clear hac hok acu
   generalize evs[k]=x at *
   go_upto_region 12 with (fail)
   have gW:=Box.new wr [.int .i64 x.kind,.int .i64 x.au,.int .i64 x.n,.int .i64 x.now,.int .i64 x.m.src,.int .i64 x.m.dst,.int .i64 x.m.piece] 54
   have HB1:Hid (Below wr.heap.size wr (wr.alloc (.cells #[.int .i64 x.kind,.int .i64 x.au,.int .i64 x.n,.int .i64 x.now,.int .i64 x.m.src,.int .i64 x.m.dst,.int .i64 x.m.piece] 54))):=hid ((Below.refl wr.heap.size wr).alloc (Nat.le_refl _) _)
   generalize (wr.alloc (.cells #[.int .i64 x.kind,.int .i64 x.au,.int .i64 x.n,.int .i64 x.now,.int .i64 x.m.src,.int .i64 x.m.dst,.int .i64 x.m.piece] 54))=wA at *
   have HMA:=hid (HM.out.below HB1.out)
   have hbA:base≤wA.heap.size:=Nat.le_trans HBs.out HB1.out.size
   have UC:=hid (KA HS.out HIt.out HJo.out x wA HMA.out hbA hi1 hi3 (nT.out.mono qg.out.1 (HBl.out.trans (HB1.out.mono HBl.out.size))) acy.out)
   have e0:=gW.cell 0 rfl
   have e1:=gW.cell 1 rfl
   have e2:=gW.cell 2 rfl
   have e3:=gW.cell 3 rfl
   have e4:=gW.cell 4 rfl
   have e5:=gW.cell 5 rfl
   have e6:=gW.cell 6 rfl
   clear hg a0 a1 a2 a3 a4 a5 a6 gW hi1 hi2 hi3
   go_wp2_with fail
   refine UC.out.mono ?_
   rintro e w6 ⟨rfl,S6,B6,hm6,hs6,hf6⟩
   have zD:Hid (Below base w3 w6):=hid (aaW.out.trans ((HB1.out.mono HBs.out).trans (HMA.out.base' hf6 hbA)))
   have hb6:base≤w6.heap.size:=Nat.le_trans hbA hf6.size
   have ag7:Hid (∃ (es':List iY) (S:Nat→Prop) (B:jv),es'.length≤k+1∧nP (dh R CR 0) es'∧(∀ e∈es',wW e)∧Hid (aH Ut S base w6 b (goes (dh R CR 0) es') B)):=hid (by
    by_cases hz:((goes (dh R CR 0) es).go x).2=0
    ·exact ⟨es++[x],S6,B6,by rw [List.length_append]; simp; omega,SY acv.out hz,(fun e he=>by rcases List.mem_append.1 he with h | h; exact acw.out e h; (obtain rfl:e=x:=by simpa using h); exact acy.out),hid (by rw [DW]; exact hm6)⟩
    ·exact ⟨es,S6,B6,by omega,acv.out,acw.out,hid (by rw [SL _ _ hz] at hm6; exact hm6)⟩)
   clear hm6 hs6 hf6 e0 e1 e2 e3 e4 e5 e6 UC HMA
   generalize ((goes (dh R CR 0) es).go x).2=cc at *
   go_wp2_with fail
   obtain ⟨es',S',B',q1,q2,q3,q4⟩:=ag7.out
   exact ⟨⟨k+1,es',S',B',by omega,q1,by go_num,q2,q3,q4,hid hb6,zD⟩,by simp [intOf]; omega⟩
  ·obtain rfl:k=evs.length:=by omega
   have HAc:=hid hac
   have CX:=hid hok
   obtain ⟨hi1,hi2⟩:=WG.out es hok
   have hj:=yA hac
   have HI0:=hid hi1
   have HMl:=hid hi2
   have XL:Hid ((goes (dh R CR 0) es).aS.length≤1000):=hid (by have:=hi1.pr.len; omega)
   have DV:Hid ((goes (dh R CR 0) es).jr.length≤100000):=hid (by rw [hj]; have:=I7.out; omega)
   have HJ9:Hid ((goes (dh R CR 0) es).jr.length<90):=hid (by rw [hj]; have:=I7.out; omega)
   have HLs:Hid (es.length≤60):=hid (by have:=I7.out; omega)
   clear hac hok hi1 hi2 hj
   go_upto_region 14 with (fail)
   have BU:Hid (∀ q,S q∨one1 b q→q<wr.heap.size∧base≤q):=hid (fun q hq=>⟨HM.out.afU q hq,HM.out.ups q hq⟩)
   have HLb:Hid (base≤wr.heap.size):=HBs
   have HV0:=hid (HU0.out.below aaW.out (by have:=HbU.out; omega))
   have HV1:=hid (HU1.out.below aaW.out (by have:=HbU.out; omega))
   have HV2:=hid (HU2.out.below aaW.out HbU.out)
   have hz0:wr.heap.size≤wr.drew.heap.size:=Nat.le_refl _
   have Mz:=HM.out.below (aA (Below.refl _ _))
   have Xz:=HV0.out.drew
   have Cz:=HV1.out.drew
   have Yz:=HV2.out.drew
   have Lz:Below w.heap.size w wr.drew:=aA HBl.out
   clear HV0 HV1 HV2
   refine wp_region_noPanic ?_
   refine bG (S:=(fun w'=>w'.cell? ⟨w.heap.size,0,none⟩=some (.string R.name)∧w'.cell? ⟨w.heap.size,1,none⟩=some (.int .i64 R.width)∧w'.cell? ⟨w.heap.size,2,none⟩=some (.int .i64 R.height)∧w'.cell? ⟨w.heap.size,3,none⟩=some vp∧w'.cell? ⟨w.heap.size,4,none⟩=some vs∧w'.cell? ⟨w.heap.size,5,none⟩=some (.bool R.falls)∧w'.cell? ⟨w.heap.size,6,none⟩=some (.bool R.keeps)∧w'.cell? ⟨w.heap.size,7,none⟩=some ve∧w'.cell? ⟨w.heap.size,8,none⟩=some (.int .i64 R.blocked)∧w'.cell? ⟨w.heap.size,9,none⟩=some (.int .i64 R.quiet)∧w'.cell? ⟨w.heap.size,10,none⟩=some (.int .i64 R.bF)∧w'.cell? ⟨w.heap.size+1,0,none⟩=some (.slice pa CR.ps.length pc)∧w'.cell? ⟨w.heap.size+1,1,none⟩=some (.int .i64 CR.inc)∧w'.cell? ⟨w.heap.size+1,2,none⟩=some (.int .i64 CR.delay))) (L:=[]) (by kernel_rfl) (by and_intros <;> first | exact Xz.cell _ rfl | exact Cz.cell _ rfl) (fun hHeld=>?_)
   refine dL 0 ?_
   refine dL 1 ?_
   refine aF 2 ?_
   refine dO 3 fun K hK=>?_
   go_simp
   refine (yU _ Mz DV.out).mono ?_
   rintro e w2 ⟨v2,rfl,hj2,hbb⟩
   have X2:=Xz.stays hbb
   have C2:=Cz.stays hbb
   have o9:=Yz.stays hbb
   have M2:=Mz.below hbb
   have L2:=Lz.trans (hbb.mono Lz.size)
   have H2:=Nat.le_trans hz0 hbb.size
   clear hbb
   refine hK.out _ _ (by and_intros <;> first | exact X2.cell _ rfl | exact C2.cell _ rfl) (fun hHeld=>?_)
   clear hK K
   refine dO 4 fun K hK=>?_
   go_simp
   refine (aaz (fun k=>k<w2.heap.size) HLd.out R CR vp vs ve pa pc es v2 w2 (HR.out.below L2 (Nat.le_refl _)) OG.out (HP.out.below L2) iH.out.1 iH.out.2 qW.out.1 qW.out.2 (Rd.fD hj2) HAc.out CX.out HLs.out (nT.out.mono L2.size L2) ((Uz.out.below L2).mono L2.size) (fun k hk=>hk)).mono ?_
   rintro e w3' ⟨aaX,S2,b2,B2,rfl,hn,hn0,hn1,hbb⟩
   have X3:=X2.stays hbb
   have C3:=C2.stays hbb
   have Az:=o9.stays hbb
   have L3:=L2.trans (hbb.mono L2.size)
   have M3:aH (fun k=>S2 k∨one1 b2 k) S base w3' b (goes (dh R CR 0) es) B:=M2.newX hbb (fun k hk=>⟨hn.afU k hk,.inl (Nat.le_trans hn0 (hn.ups k hk))⟩) (fun h=>h.elim)
   clear hbb
   refine hK.out _ _ (by and_intros <;> first | exact X3.cell _ rfl | exact C3.cell _ rfl) (fun hHeld=>?_)
   clear hK K
   refine aF 5 ?_
   refine aF 6 ?_
   refine aF 7 ?_
   refine aF 8 ?_
   refine aF 9 ?_
   refine iE ?_
   have qh:=hid M3
   have HN4:=hid hn
   have HY4:=hid Az
   have HB4:=hid L3
   have HH:Hid (wr.heap.size≤w2.heap.size∧w2.heap.size≤aaX):=hid ⟨H2,hn0⟩
   clear hHeld M3 hn Az L3 X3 C3 X2 C2 o9 M2 L2 H2 hj2 hn0 hn1 Xz Cz Yz Mz Lz hz0
   have abE:Hid (w.heap.size≤aaX):=hid (by have:=HH.out; have:=HBl.out.size; omega)
   have HJ1:Hid (∀ y,((goes (dh R CR 0) es).go y).1.jr.length≤100000):=hid (fun y=>by have:=abD (goes (dh R CR 0) es) y; have:=HJ9.out; omega)
   generalize hK2:w2.heap.size=K2 at *
   clear hK2
   generalize goes (dh R CR 0) es=M at *
   have Uo:=HB4
   go_wp2_with fail
   refine (yx _ qh.out XL.out).mono ?_
   rintro e w5 ⟨ma,mc,qa,qc,rfl,ho1,ho2,hbb⟩
   have zu:=hid (qh.out.below hbb)
   have HN5:=hid (HN4.out.below hbb)
   have HY5:=hid (HY4.out.stays hbb)
   have mW:=hid (HB4.out.trans (hbb.mono HB4.out.size))
   have IQ:=hid ho1
   have uw:=hid ho2
   clear hbb ho1 ho2 qh HN4 HY4 HB4 Uo
   go_wp2_with fail
   refine (yx _ HN5.out XL.out).mono ?_
   rintro e w6 ⟨na,nc,ra,rc,rfl,hp1,hp2,hbb⟩
   have OM:=hid (zu.out.below hbb)
   have HN6:=hid (HN5.out.below hbb)
   have HY6:=hid (HY5.out.stays hbb)
   have zD:=hid (mW.out.trans (hbb.mono mW.out.size))
   have ZI:=hid (aak M ma na qa ra mc nc qc rc w6 (kQ (bK IQ.out hbb)) (kQ hp1) (nI (bK uw.out hbb)) (nI hp2) (Nat.le_trans HMl.out (by decide)) XL.out)
   clear hbb hp1 hp2 IQ uw zu HN5 HY5 mW
   go_wp2_with fail
   refine ZI.out.mono ?_
   rintro e w7 ⟨rfl,hbb⟩
   have FK:=hid (OM.out.below hbb)
   have HN7:=hid (HN6.out.below hbb)
   have HY7:=hid (HY6.out.stays hbb)
   have uD:=hid (zD.out.trans (hbb.mono zD.out.size))
   clear hbb ZI OM HN6 HY6 zD
   go_wp2_with fail
   refine (IB _ FK.out).mono ?_
   rintro e w12 ⟨uc,u0,u1,rfl,hop,hbb⟩
   have HR1:=hid hop.rd
   have adL:=hid (FK.out.below hbb)
   have abI:=hid (HN7.out.below hbb)
   have adM:=hid (HY7.out.stays hbb)
   have abJ:=hid (uD.out.trans (hbb.mono uD.out.size))
   clear hbb hop FK HN7 HY7 uD
   go_wp2_with fail
   refine (IB _ abI.out).mono ?_
   rintro e mM ⟨tc,t0,t1,rfl,hop,hbb⟩
   have adN:=hid (adL.out.below hbb)
   have adR:=hid (abI.out.below hbb)
   have adT:=hid (adM.out.stays hbb)
   have abK:=hid (abJ.out.trans (hbb.mono abJ.out.size))
   have HSq:=hid (Qk (bn M.R M.ms) (bn M.R M.ms) uc u0 u1 tc t0 t1 mM (pX.below HR1.out hbb (Nat.le_refl _)) hop.rd)
   clear hbb hop HR1 adL abI adM abJ
   go_wp2_with fail
   refine HSq.out.mono ?_
   rintro e mZ ⟨rfl,hbb⟩
   rw [aaE]
   have adU:=hid (adN.out.below hbb)
   have adX:=hid (adR.out.below hbb)
   have adY:=hid (adT.out.stays hbb)
   have adZ:=hid (abK.out.trans (hbb.mono abK.out.size))
   clear hbb HSq adN adR adT abK
   go_upto_region 17 with (fail)
   generalize mZ=wq at *
   have Mz:=adU.out.below (aA (Below.refl _ _))
   have X9:=adX.out.below (aA (Below.refl _ _))
   have Yz:=adY.out.drew
   have Lz:Below w.heap.size w wq.drew:=aA adZ.out
   clear adU adX adY adZ
   refine wp_region_noPanic ?_
   refine bG (S:=(fun w'=>w'.cell? ⟨w.heap.size+1+1,0,none⟩=some (.int .i64 y.kind)∧w'.cell? ⟨w.heap.size+1+1,1,none⟩=some (.int .i64 y.au)∧w'.cell? ⟨w.heap.size+1+1,2,none⟩=some (.int .i64 y.n)∧w'.cell? ⟨w.heap.size+1+1,3,none⟩=some (.int .i64 y.now)∧w'.cell? ⟨w.heap.size+1+1,4,none⟩=some (.int .i64 y.m.src)∧w'.cell? ⟨w.heap.size+1+1,5,none⟩=some (.int .i64 y.m.dst)∧w'.cell? ⟨w.heap.size+1+1,6,none⟩=some (.int .i64 y.m.piece))) (L:=[]) (by kernel_rfl) (by and_intros <;> exact Yz.cell _ rfl) (fun hHeld=>?_)
   refine aF 0 ?_
   refine dL 1 ?_
   refine aF 3 ?_
   refine dL 4 ?_
   refine dO 2 fun K hK=>?_
   go_simp
   refine (KA HS.out HIt.out HJo.out y _ Mz (Nat.le_trans Mz.lo (Nat.le_of_lt Mz.box.lt)) HI0.out HJ9.out (nT.out.mono qg.out.1 Lz) HY.out).mono ?_
   rintro e w2' ⟨rfl,S1,B1,hm1,hs1,hf1⟩
   have o9:=Yz.held hf1 (fun hc=>by have h1:=BU.out _ hc; have h2:=HbU.out; omega)
   have N2:aH Ut S2 aaX w2' b2 M B2:=X9.Tf (hf1.mono (fun k _ hk=>Nat.lt_of_lt_of_le (BU.out k hk).1 HH.out.1)) (fun hc=>by have h1:=X9.lo; have h2:=HH.out; have h3:b2<K2:=hc; omega) (fun k hk=>hk.elim)
   have L2:=Lz.trans ((aH.base' Mz hf1 (Nat.le_trans Mz.lo (Nat.le_of_lt Mz.box.lt))).mono qg.out.1)
   have ag9:=hf1.size
   clear hs1 hf1
   refine hK.out _ _ (by and_intros <;> exact o9.cell _ rfl) (fun hHeld=>?_)
   clear hK K
   refine dO 5 fun K hK=>?_
   go_simp
   refine (KA HS.out HIt.out HJo.out y _ N2 (Nat.le_trans N2.lo (Nat.le_of_lt N2.box.lt)) HI0.out HJ9.out (nT.out.mono abE.out L2) HY.out).mono ?_
   rintro e w5 ⟨rfl,S3,B3,hn3,hs3,hf3⟩
   have Y5:=o9.held hf3 (fun hc=>by have h1:=N2.ups _ hc; have h2:=HbU.out; have h3:=abE.out; have h4:=HH.out; have h5:=qg.out; have h6:=HLb.out; omega)
   have M5:aH Ut S1 base w5 b (M.go y).1 B1:=hm1.Tf hf3 (fun hc=>by have h1:=N2.ups _ hc; have h2:=HH.out; have h3:=BU.out b (.inr rfl); omega) (fun k hk=>hk.elim)
   have L5:=L2.trans ((aH.base' N2 hf3 (Nat.le_trans N2.lo (Nat.le_of_lt N2.box.lt))).mono abE.out)
   clear hs3 hf3
   refine hK.out _ _ (by and_intros <;> exact Y5.cell _ rfl) (fun hHeld=>?_)
   clear hK K
   refine aF 6 ?_
   refine aF 7 ?_
   refine iE ?_
   have zu:=hid M5
   have HN5:=hid hn3
   have mW:=hid L5
   clear hHeld M5 hn3 L5 Y5 hm1 ag9 o9 N2 L2 Mz X9 Yz Lz
   have HI1:=hid (Wy HI0.out HMl.out HY.out)
   have aha:=hid (ab6 M y HMl.out)
   have ad1:=hid (HJ1.out y)
   generalize (M.go y).1=M1 at *
   generalize (M.go y).2=cc at *
   have abM:Hid (M1.aS.length≤1000):=hid (by have:=HI1.out.pr.len; omega)
   go_wp2_with fail
   refine (yU _ zu.out ad1.out).mono ?_
   rintro e w6 ⟨v6,rfl,hj6,hb6⟩
   obtain ⟨ja,jc,rfl⟩:=aI hj6
   have OM:=hid (zu.out.below hb6)
   have HN6:=hid (HN5.out.below hb6)
   have zD:=hid (mW.out.trans (hb6.mono mW.out.size))
   have HJ6:=hid (show zL w6 (.slice ja M1.jr.length jc) M1.jr from Rd.fD hj6)
   clear hj6 hb6 zu HN5 mW
   go_wp2_with fail
   refine (yU _ HN6.out ad1.out).mono ?_
   rintro e w7 ⟨v7,rfl,hj7,hb7⟩
   obtain ⟨ka,kc,rfl⟩:=aI hj7
   have FK:=hid (OM.out.below hb7)
   have HN7:=hid (HN6.out.below hb7)
   have uD:=hid (zD.out.trans (hb7.mono zD.out.size))
   have HJ7:=hid (HJ6.out.below hb7 (Nat.le_refl _))
   have HK7:=hid (show zL w7 (.slice ka M1.jr.length kc) M1.jr from Rd.fD hj7)
   clear hj7 hb7 OM HN6 zD HJ6
   go_wp2_with fail
   refine (yx _ FK.out abM.out).mono ?_
   rintro e w8 ⟨ma,mc,qa,qc,rfl,ho1,ho2,hbb⟩
   have HN8:=hid (HN7.out.below hbb)
   have HB8:=hid (uD.out.trans (hbb.mono uD.out.size))
   have HJ8:=hid (HJ7.out.below hbb (Nat.le_refl _))
   have HK8:=hid (HK7.out.below hbb (Nat.le_refl _))
   have IQ:=hid ho1
   have uw:=hid ho2
   clear hbb ho1 ho2 FK HN7 uD HJ7 HK7
   go_wp2_with fail
   refine (yx _ HN8.out abM.out).mono ?_
   rintro e w9 ⟨na,nc,ra,rc,rfl,hp1,hp2,hbb⟩
   have bI:=hid (HB8.out.trans (hbb.mono HB8.out.size))
   have ad2:=hid (HJ8.out.below hbb (Nat.le_refl _))
   have HK9:=hid (HK8.out.below hbb (Nat.le_refl _))
   have ZI:=hid (aak M1 ma na qa ra mc nc qc rc w9 (kQ (bK IQ.out hbb)) (kQ hp1) (nI (bK uw.out hbb)) (nI hp2) (Nat.le_trans aha.out (by decide)) abM.out)
   clear hbb hp1 hp2 IQ uw HN8 HB8 HJ8 HK8
   go_wp2_with fail
   refine ZI.out.mono ?_
   rintro e w10 ⟨rfl,hbb⟩
   have acB:=hid (bI.out.trans (hbb.mono bI.out.size))
   have HEx:=hid (aai (.slice ja M1.jr.length jc) (.slice ka M1.jr.length kc) M1.jr M1.jr w10 (ad2.out.below hbb (Nat.le_refl _)) (HK9.out.below hbb (Nat.le_refl _)))
   clear hbb ZI bI ad2 HK9
   go_wp2_with fail
   refine HEx.out.mono ?_
   rintro e ku ⟨rfl,hbb⟩
   rw [aaH]
   have afN:=hid (acB.out.trans (hbb.mono acB.out.size))
   clear hbb HEx acB
   go_wp2_with fail
   go_ret
   exact ⟨rfl,afN.out⟩
end Go.Proofs.YtmabaojkignodaaGreatDoor
namespace Go.Proofs.YtmabaojkignodaaGreatDoor
open Go.ChangeShapes Go.WideShapes Go.ChangeAt Go.RowKit Go.Deep
set_option linter.unusedVariables false
set_option maxRecDepth 100000
section
variable {H:Type} {enc:TypeId×Value→H} {P:Program} {w:World}
theorem block_lt' {w:World} {p:Addr} {v:Value} (h:w.cell? p=some v):p.block<w.heap.size:=by
 rcases Nat.lt_or_ge p.block w.heap.size with hlt | hge
 ·exact hlt
 ·simp [World.cell?,Array.getElem?_eq_none hge] at h
theorem DY (b off n:Nat):(⟨b,off,none⟩:Addr).add n=⟨b,off+n,none⟩:=by
 unfold Addr.add; split
 ·rename_i h; subst h; rfl
 ·rfl
theorem open_list {α:Type} (el:El α) {t e:TypeId} (hu:P.underlying t=some (.slice e)) (hC:P.cellsOf e=el.k) (hk:0<el.k)
  (hel:∀ fuel cs y,DataW.trod enc P w 0 (fun _=>true) true fuel e cs=some y→∃ x,el.E w x cs)
  {fuel:Nat} {cs:List Value} {y:DataW H×List MemPlace} (h:DataW.trod enc P w 0 (fun _=>true) true fuel t cs=some y):∃ v xs,cs=[v]∧gI el w v xs:=by
 rcases open_slice hu h with ⟨rfl,_⟩ | ⟨a,len,cap,m,n,D,Pl,rfl,hb,hl,hm,hmm,hx,hi⟩
 ·exact ⟨_,[],rfl,gI.nil el w⟩
 ·simp only [if_true] at hmm
  obtain rfl:cap=m:=hmm.symm
  by_cases h0:len=0
  ·subst h0
   exact ⟨_,[],rfl,.inl ⟨_,_,rfl,hm,rfl⟩⟩
  ·have hall:∀ i:Fin len,∃ x:α,∃ cs',w.cells? 0 (a.add (i.1 * el.k)) el.k=some cs'∧el.E w x cs':=fun i=>by
    obtain ⟨cs',h1,h2⟩:=hi i.1 (by omega)
    rw [hC] at h1
    obtain ⟨x,hx⟩:=hel _ _ _ h2
    exact ⟨x,cs',h1,hx⟩
   have hspot:a.spot=none∧a.block<w.heap.size:=by
    obtain ⟨x,cs',h1,h2⟩:=hall ⟨0,by omega⟩
    have h3:=(World.cells?_some h1).2.2 0 hk
    have hl':=el.len h2
    rw [List.getElem?_eq_getElem (by omega)] at h3
    have h4:w.cell? a=some cs'[0]:=by simpa [Addr.add] using h3
    exact ⟨World.cell?_spot h4,block_lt' h4⟩
   obtain ⟨g,o,s⟩:=a
   obtain ⟨rfl,hg⟩:=hspot
   simp only at hg
   refine ⟨_,List.ofFn fun i=>Classical.choose (hall i),rfl,.inr ⟨g,o,cap,by simp,by simpa using hl,hm,hg,fun i hi'=>?_⟩⟩
   have hi2:i<len:=by simpa using hi'
   obtain ⟨cs',h1,h2⟩:=Classical.choose_spec (hall ⟨i,hi2⟩)
   refine ⟨cs',by simpa using h2,fun j hj=>?_⟩
   have:=(World.cells?_some h1).2.2 j hj
   rw [DY,DY] at this
   exact this
theorem DZ {base:Nat} {spare:Nat→Bool} {held:Bool} {t:TypeId} {fs:Array Field} {fuel:Nat} {cs:List Value} {x:DataW H×List MemPlace} (ht:P.underlying t=some (.struct fs)) (h1:oneCellFields P fs=true)
  (h:DataW.trod enc P w base spare held fuel t cs=some x):∃ (xs:List (DataW H×List MemPlace)) (n:Nat),cs.length=P.cellsOf t∧xs.length=fs.size∧∀ (i:Nat) (f:Field),fs[i]?=some f→DataW.trod enc P w base spare held n f.type ((cs.drop i).take 1)=xs[i]?:=by
 obtain ⟨xs,n,_,_,hl,hx,hf⟩:=DataW.trod_struct ht h
 refine ⟨xs,n,hl,hx,fun i f hi=>?_⟩
 obtain ⟨o,q⟩:=hone_of h1 i f hi
 have:=hf i f hi
 rw [o,q] at this
 exact this
theorem aac {cs:List Value} (h:cs.length=4):∃ a b c d,cs=[a,b,c,d]:=by
 match cs,h with
 | [a,b,c,d],_=>exact ⟨a,b,c,d,rfl⟩
theorem IE {cs:List Value} (h:cs.length=3):∃ a b c,cs=[a,b,c]:=by
 match cs,h with
 | [a,b,c],_=>exact ⟨a,b,c,rfl⟩
theorem aaZ (fuel:Nat) (cs:List Value) (y:DataW H×List MemPlace) (h:DataW.trod enc Tryz.prog w 0 (fun _=>true) true fuel 194 cs=some y):∃ x,jW.E w x cs:=by
 obtain ⟨xs,n,hlen,hxl,hf⟩:=DZ Tryz.underlying194 (by kernel_rfl) h
 obtain ⟨a,b,c,d,rfl⟩:=aac (hlen.trans (by kernel_rfl))
 have hx:xs.length=4:=hxl
 obtain ⟨y0,y1,y2,y3,rfl⟩:∃ a b c d,xs=[a,b,c,d]:=by
  match xs,hx with
  | [a,b,c,d],_=>exact ⟨a,b,c,d,rfl⟩
 have f0:=hf 0 _ rfl
 have f1:=hf 1 _ rfl
 have f2:=hf 2 _ rfl
 have f3:=hf 3 _ rfl
 obtain ⟨n0,e0,-,-⟩:=DataW.trod_int Tryz.underlying3 f0
 obtain ⟨n1,e1,-,-⟩:=DataW.trod_int Tryz.underlying3 f1
 obtain ⟨n2,e2,-,-⟩:=DataW.trod_int Tryz.underlying3 f2
 obtain ⟨n3,e3,-,-⟩:=DataW.trod_int Tryz.underlying3 f3
 simp at e0 e1 e2 e3
 subst e0 e1 e2 e3
 exact ⟨⟨n0,n1,n2,n3⟩,rfl⟩
theorem aat (fuel:Nat) (cs:List Value) (y:DataW H×List MemPlace) (h:DataW.trod enc Tryz.prog w 0 (fun _=>true) true fuel 145 cs=some y):∃ x,fK.E w x cs:=by
 obtain ⟨xs,n,hlen,hxl,hf⟩:=DZ Tryz.underlying145 (by kernel_rfl) h
 obtain ⟨a,b,c,d,rfl⟩:=aac (hlen.trans (by kernel_rfl))
 have hx:xs.length=4:=hxl
 obtain ⟨y0,y1,y2,y3,rfl⟩:∃ a b c d,xs=[a,b,c,d]:=by
  match xs,hx with
  | [a,b,c,d],_=>exact ⟨a,b,c,d,rfl⟩
 have f0:=hf 0 _ rfl
 have f1:=hf 1 _ rfl
 have f2:=hf 2 _ rfl
 have f3:=hf 3 _ rfl
 obtain ⟨n0,e0,-,-⟩:=DataW.trod_int Tryz.underlying5 f0
 obtain ⟨n1,e1,-,-⟩:=DataW.trod_int Tryz.underlying3 f1
 obtain ⟨n2,e2,-,-⟩:=DataW.trod_int Tryz.underlying3 f2
 obtain ⟨v,ws,e3,hr⟩:=open_list jW Tryz.underlying143 (by kernel_rfl) (by decide) (aaZ (enc:=enc) (w:=w)) f3
 simp at e0 e1 e2 e3
 subst e0 e1 e2 e3
 exact ⟨⟨n0,n1,n2,ws⟩,d,rfl,hr⟩
theorem aa0 (fuel:Nat) (cs:List Value) (y:DataW H×List MemPlace) (h:DataW.trod enc Tryz.prog w 0 (fun _=>true) true fuel 147 cs=some y):∃ x,kX.E w x cs:=by
 obtain ⟨xs,n,hlen,hxl,hf⟩:=DZ Tryz.underlying147 (by kernel_rfl) h
 obtain ⟨a,b,c,d,rfl⟩:=aac (hlen.trans (by kernel_rfl))
 have hx:xs.length=4:=hxl
 obtain ⟨y0,y1,y2,y3,rfl⟩:∃ a b c d,xs=[a,b,c,d]:=by
  match xs,hx with
  | [a,b,c,d],_=>exact ⟨a,b,c,d,rfl⟩
 have f0:=hf 0 _ rfl
 have f1:=hf 1 _ rfl
 have f2:=hf 2 _ rfl
 have f3:=hf 3 _ rfl
 obtain ⟨n0,e0,-,-⟩:=DataW.trod_int Tryz.underlying3 f0
 obtain ⟨n1,e1,-,-⟩:=DataW.trod_int Tryz.underlying3 f1
 obtain ⟨n2,e2,-,-⟩:=DataW.trod_int Tryz.underlying3 f2
 obtain ⟨n3,e3,-⟩:=DataW.trod_bool Tryz.underlying4 f3
 simp at e0 e1 e2 e3
 subst e0 e1 e2 e3
 exact ⟨⟨n0,n1,n2,n3⟩,rfl⟩
theorem aam {r:Reach} {base:Nat} {t e:TypeId} {v:Value} (hu:P.underlying t=some (.slice e)) (hv:Cell.okWide P w r base t v):(∃ len cap,v=.slice none len cap)∨∃ g o len cap,v=.slice (some ⟨g,o,none⟩) len cap:=by
 obtain ⟨a,len,cap,rfl⟩:=aaq hu hv
 cases a with
 | none=>exact .inl ⟨_,_,rfl⟩
 | some a =>
  obtain ⟨g,o,s⟩:=a
  simp [Cell.okWide,Cell.ok,hu] at hv
  have:=hv.2.2.2.1
  subst this
  exact .inr ⟨g,o,_,_,rfl⟩
theorem aae {r:Reach} {base:Nat} {t e:TypeId} {v:Value} {fuel:Nat} {y:DataW H×List MemPlace} (hu:P.underlying t=some (.slice e)) (he:P.underlying e=some (.int .i64)) (hc:P.cellsOf e=1)
  (hv:Cell.okWide P w r base t v) (h:DataW.trod enc P w 0 (fun _=>true) true fuel t [v]=some y):∃ zs,kM w v zs:=by
 rcases aam hu hv with ⟨len,cap,rfl⟩ | ⟨g,o,len,cap,rfl⟩
 ·rcases open_ints hu he hc h with ⟨hcs,_⟩ | ⟨a,len',cap',zs,hcs,_⟩
  ·simp at hcs
   obtain ⟨rfl,rfl⟩:=hcs
   exact ⟨[],Rd.nil _ _⟩
  ·simp at hcs
 ·rcases open_ints hu he hc h with ⟨hcs,_⟩ | ⟨a,len',cap',zs,hcs,_,hl,hm,hz,_,hcell,hwz⟩
  ·simp at hcs
  ·simp at hcs
   obtain ⟨rfl,rfl,rfl⟩:=hcs
   simp only [if_true] at hz
   refine ⟨zs.take len,by simp [ints],.inr ⟨g,o,cap,by simp [hz,hl],by simp [hz,hl],hm,fun i hi=>?_⟩⟩
   have hi':i<len:=by simp at hi; omega
   have:=hcell i (by omega)
   rw [DY] at this
   rw [this,vH _ i (by simp; omega)]
   congr 2
   simp [List.getD,hi']
theorem abN {r:Reach} {base:Nat} {v:Value} {d:DataW H} {p:List MemPlace} (hv:Value.okWide Tryz.prog w r base 46 v) (h:DataW.Trod enc Tryz.prog w 0 (fun _=>true) true 46 v d p) :
  ∃ (R:aC) (vp vs ve:Value),v=I8 R vp vs ve∧ru w R vp vs ve∧R.name.size≤maxLen:=by
 obtain ⟨cs,rfl,hl,hcell⟩:=EX (ts:=[9,3,3,43,22,4,4,44,3,3,3]) Tryz.underlying46 (by kernel_rfl) (by kernel_rfl) hv
 obtain ⟨fuel,hf⟩:=h
 simp only [Value.cells] at hf
 obtain ⟨xs,n,_,hxl,hf⟩:=DZ Tryz.underlying46 (by kernel_rfl) hf
 obtain ⟨k0,k1,k2,k3,k4,k5,k6,k7,k8,k9,k10,rfl⟩:∃ k0 k1 k2 k3 k4 k5 k6 k7 k8 k9 k10,cs=[k0,k1,k2,k3,k4,k5,k6,k7,k8,k9,k10]:=by
  match cs,hl with
  | [k0,k1,k2,k3,k4,k5,k6,k7,k8,k9,k10],_=>exact ⟨k0,k1,k2,k3,k4,k5,k6,k7,k8,k9,k10,rfl⟩
 have hx:xs.length=11:=hxl
 obtain ⟨y0,y1,y2,y3,y4,y5,y6,y7,y8,y9,y10,rfl⟩:∃ k0 k1 k2 k3 k4 k5 k6 k7 k8 k9 k10,xs=[k0,k1,k2,k3,k4,k5,k6,k7,k8,k9,k10]:=by
  match xs,hx with
  | [k0,k1,k2,k3,k4,k5,k6,k7,k8,k9,k10],_=>exact ⟨k0,k1,k2,k3,k4,k5,k6,k7,k8,k9,k10,rfl⟩
 have ci:Tryz.prog.cellsOf 3=1:=by kernel_rfl
 have f0:=hf 0 _ rfl
 have f1:=hf 1 _ rfl
 have f2:=hf 2 _ rfl
 have f3:=hf 3 _ rfl
 have f4:=hf 4 _ rfl
 have f5:=hf 5 _ rfl
 have f6:=hf 6 _ rfl
 have f7:=hf 7 _ rfl
 have f8:=hf 8 _ rfl
 have f9:=hf 9 _ rfl
 have f10:=hf 10 _ rfl
 obtain ⟨s,e0,-,hs⟩:=DataW.trod_string Tryz.underlying9 f0
 obtain ⟨n1,e1,-,-⟩:=DataW.trod_int Tryz.underlying3 f1
 obtain ⟨n2,e2,-,-⟩:=DataW.trod_int Tryz.underlying3 f2
 obtain ⟨v3,ps,e3,hp⟩:=open_list fK Tryz.underlying43 (by kernel_rfl) (by decide) (aat (enc:=enc) (w:=w)) f3
 obtain ⟨b5,e5,-⟩:=DataW.trod_bool Tryz.underlying4 f5
 obtain ⟨b6,e6,-⟩:=DataW.trod_bool Tryz.underlying4 f6
 obtain ⟨v7,es,e7,he⟩:=open_list kX Tryz.underlying44 (by kernel_rfl) (by decide) (aa0 (enc:=enc) (w:=w)) f7
 obtain ⟨n8,e8,-,-⟩:=DataW.trod_int Tryz.underlying3 f8
 obtain ⟨n9,e9,-,-⟩:=DataW.trod_int Tryz.underlying3 f9
 obtain ⟨n10,e10,-,-⟩:=DataW.trod_int Tryz.underlying3 f10
 simp at e0 e1 e2 e3 e5 e6 e7 e8 e9 e10
 subst e0 e1 e2 e3 e5 e6 e7 e8 e9 e10
 obtain ⟨u,hu,hc4⟩:=hcell 4 k4 rfl
 simp at hu
 subst hu
 obtain ⟨zs,hz⟩:=aae Tryz.underlying22 Tryz.underlying3 ci hc4 (by simpa using f4)
 exact ⟨⟨s,n1,n2,ps,zs,b5,b6,es,n8,n9,n10⟩,k3,k4,k7,rfl,⟨hp,hz,he⟩,hs⟩
end
end Go.Proofs.YtmabaojkignodaaGreatDoor
namespace Go.Proofs.YtmabaojkignodaaGreatDoor
open Go.ChangeShapes Go.WideShapes Go.ChangeAt Go.RowKit Go.Deep
set_option linter.unusedVariables false
section
variable {H:Type} {enc:TypeId×Value→H} {w:World}
end
end Go.Proofs.YtmabaojkignodaaGreatDoor
namespace Go.Proofs.YtmabaojkignodaaGreatDoor
open Go.ChangeShapes Go.WideShapes Go.ChangeAt Go.RowKit Go.Deep
set_option linter.unusedVariables false
section
variable {H:Type} {enc:TypeId×Value→H} {w:World}
theorem XK {P:Program} {base:Nat} {spare:Nat→Bool} {held:Bool} {fs:Array Field} {n:Nat} {cs:List Value} {xs:List (DataW H×List MemPlace)}
  (hf:∀ (i:Nat) (f:Field),fs[i]?=some f→DataW.trod enc P w base spare held n f.type ((cs.drop f.offset).take (P.cellsOf f.type))=xs[i]?) (i o k:Nat) (ti:TypeId)
  (h:(fs[i]?.map fun f=>(f.offset,f.type))=some (o,ti)) (hk:P.cellsOf ti=k):DataW.trod enc P w base spare held n ti ((cs.drop o).take k)=xs[i]?:=by
 simp only [Option.map_eq_some_iff,Prod.mk.injEq] at h
 obtain ⟨f,hi,rfl,rfl⟩:=h
 have:=hf i f hi
 rw [hk] at this
 exact this
end
end Go.Proofs.YtmabaojkignodaaGreatDoor
namespace Go.Proofs.YtmabaojkignodaaGreatDoor
open Go.ChangeShapes Go.WideShapes Go.ChangeAt Go.RowKit Go.Deep
set_option linter.unusedVariables false
section
variable {H:Type} {enc:TypeId×Value→H} {w:World}
theorem Fj {P:Program} {r:Reach} {base:Nat} {t e:TypeId} {v:Value} (hu:P.underlying t=some (.slice e)) (hv:Value.okWide P w r base t v):(∃ c,v=.slice none 0 0∧c=0)∨∃ g o len cap,v=.slice (some ⟨g,o,none⟩) len cap:=by
 simp only [Value.okWide,hu,Cell.okWide,Cell.ok] at hv
 split at hv <;> simp_all
 rename_i a len cap _
 obtain ⟨g,o,s⟩:=a
 have:=hv.2.2.2.1
 simp at this
 subst this
 exact ⟨g,o,rfl⟩
theorem KR {α:Type} (el:El α) {P:Program} {r:Reach} {base:Nat} {t e:TypeId} {v:Value} {d:DataW H} {p:List MemPlace} (hu:P.underlying t=some (.slice e)) (hC:P.cellsOf e=el.k) (hk:0<el.k)
  (hel:∀ fuel cs y,DataW.trod enc P w 0 (fun _=>true) true fuel e cs=some y→∃ x,el.E w x cs) (hv:Value.okWide P w r base t v) (h:DataW.Trod enc P w 0 (fun _=>true) true t v d p):∃ xs,gI el w v xs:=by
 obtain ⟨fuel,hf⟩:=h
 rcases Fj hu hv with ⟨_,rfl,_⟩ | ⟨g,o,len,cap,rfl⟩
 ·exact ⟨[],gI.nil _ _⟩
 ·obtain ⟨v',xs,hc,hr⟩:=open_list el hu hC hk hel hf
  simp [Value.cells] at hc
  subst hc
  exact ⟨xs,hr⟩
end
end Go.Proofs.YtmabaojkignodaaGreatDoor
namespace Go.Proofs.YtmabaojkignodaaGreatDoor
open Go.ChangeShapes Go.WideShapes Go.ChangeAt Go.RowKit Go.Deep
set_option linter.unusedVariables false
set_option maxRecDepth 100000
section
variable {H:Type} {enc:TypeId×Value→H} {w:World}
theorem TR (fuel:Nat) (cs:List Value) (y:DataW H×List MemPlace) (h:DataW.trod enc Tryz.prog w 0 (fun _=>true) true fuel 154 cs=some y):∃ x,Bv.E w x cs:=by
 obtain ⟨xs,n,hlen,hxl,hf⟩:=DZ Tryz.underlying154 (by kernel_rfl) h
 obtain ⟨a,b,rfl⟩:∃ a b,cs=[a,b]:=by
  have hl:cs.length=2:=hlen.trans (by kernel_rfl)
  match cs,hl with
  | [a,b],_=>exact ⟨a,b,rfl⟩
 have hx:xs.length=2:=hxl
 obtain ⟨y0,y1,rfl⟩:∃ a b,xs=[a,b]:=by
  match xs,hx with
  | [a,b],_=>exact ⟨a,b,rfl⟩
 have f0:=hf 0 _ rfl
 have f1:=hf 1 _ rfl
 obtain ⟨n0,e0,-,-⟩:=DataW.trod_int Tryz.underlying3 f0
 obtain ⟨n1,e1,-,-⟩:=DataW.trod_int Tryz.underlying3 f1
 simp at e0 e1
 subst e0 e1
 exact ⟨(n0,n1),rfl⟩
theorem WO {r:Reach} {base:Nat} {v:Value} {d:DataW H} {p:List MemPlace} (hv:Value.okWide Tryz.prog w r base 49 v) (h:DataW.Trod enc Tryz.prog w 0 (fun _=>true) true 49 v d p) :
  ∃ (CR:nJ) (pa:Option Addr) (pc:Nat),v=.agg #[.slice pa CR.ps.length pc,.int .i64 CR.inc,.int .i64 CR.delay]∧clk.dV w w.heap.size pa CR.ps.length CR.ps∧CR.ps.length≤pc∧pc≤maxLen:=by
 obtain ⟨cs,rfl,hl,hcell⟩:=EX (ts:=[47,3,3]) Tryz.underlying49 (by kernel_rfl) (by kernel_rfl) hv
 obtain ⟨fuel,hf⟩:=h
 simp only [Value.cells] at hf
 obtain ⟨xs,n,_,_,_,hxl,hf⟩:=DataW.trod_struct Tryz.underlying49 hf
 obtain ⟨a,b,c,rfl⟩:=IE hl
 have hx:xs.length=3:=hxl
 obtain ⟨y0,y1,y2,rfl⟩:∃ a b c,xs=[a,b,c]:=by
  match xs,hx with
  | [a,b,c],_=>exact ⟨a,b,c,rfl⟩
 have f0:=XK hf 0 0 1 47 (by kernel_rfl) (by kernel_rfl)
 have f1:=XK hf 1 1 1 3 (by kernel_rfl) (by kernel_rfl)
 have f2:=XK hf 2 2 1 3 (by kernel_rfl) (by kernel_rfl)
 obtain ⟨n0,e0,-,-⟩:=DataW.trod_int Tryz.underlying3 f1
 obtain ⟨n1,e1,-,-⟩:=DataW.trod_int Tryz.underlying3 f2
 simp at e0 e1
 subst e0 e1
 obtain ⟨v',ps,hc,hr⟩:=open_list Bv Tryz.underlying47 (by kernel_rfl) (by decide) (TR (enc:=enc) (w:=w)) (by simpa using f0)
 simp at hc
 subst hc
 obtain ⟨pa,pc,rfl,h1,h2⟩:=hr.form
 exact ⟨⟨ps,n0,n1⟩,pa,pc,rfl,LQ hr,h1,h2⟩
theorem WQ (fuel:Nat) (cs:List Value) (y:DataW H×List MemPlace) (h:DataW.trod enc Tryz.prog w 0 (fun _=>true) true fuel 54 cs=some y):∃ x,TQ.E w x cs:=by
 obtain ⟨xs,n,_,_,hlen,hxl,hf⟩:=DataW.trod_struct Tryz.underlying54 h
 obtain ⟨a,b,c,d,e,f,g,rfl⟩:∃ a b c d e f g,cs=[a,b,c,d,e,f,g]:=by
  have hl:cs.length=7:=hlen.trans (by kernel_rfl)
  match cs,hl with
  | [a,b,c,d,e,f,g],_=>exact ⟨a,b,c,d,e,f,g,rfl⟩
 have hx:xs.length=5:=hxl
 obtain ⟨y0,y1,y2,y3,y4,rfl⟩:∃ a b c d e,xs=[a,b,c,d,e]:=by
  match xs,hx with
  | [a,b,c,d,e],_=>exact ⟨a,b,c,d,e,rfl⟩
 have f0:=XK hf 0 0 1 3 (by kernel_rfl) (by kernel_rfl)
 have f1:=XK hf 1 1 1 3 (by kernel_rfl) (by kernel_rfl)
 have f2:=XK hf 2 2 1 3 (by kernel_rfl) (by kernel_rfl)
 have f3:=XK hf 3 3 1 3 (by kernel_rfl) (by kernel_rfl)
 have f4:=XK hf 4 4 3 52 (by kernel_rfl) (by kernel_rfl)
 obtain ⟨ms,m,hml,hmx,hm⟩:=DZ Tryz.underlying52 (by kernel_rfl) f4
 have afX:ms.length=3:=hmx
 obtain ⟨z0,z1,z2,rfl⟩:∃ a b c,ms=[a,b,c]:=by
  match ms,afX with
  | [a,b,c],_=>exact ⟨a,b,c,rfl⟩
 have g0:=hm 0 _ rfl
 have g1:=hm 1 _ rfl
 have g2:=hm 2 _ rfl
 obtain ⟨n0,e0,-,w0⟩:=DataW.trod_int Tryz.underlying3 f0
 obtain ⟨n1,e1,-,w1⟩:=DataW.trod_int Tryz.underlying3 f1
 obtain ⟨n2,e2,-,w2⟩:=DataW.trod_int Tryz.underlying3 f2
 obtain ⟨n3,e3,-,w3⟩:=DataW.trod_int Tryz.underlying3 f3
 obtain ⟨n4,e4,-,w4⟩:=DataW.trod_int Tryz.underlying3 g0
 obtain ⟨n5,e5,-,w5⟩:=DataW.trod_int Tryz.underlying3 g1
 obtain ⟨n6,e6,-,w6⟩:=DataW.trod_int Tryz.underlying3 g2
 simp at e0 e1 e2 e3 e4 e5 e6
 subst e0 e1 e2 e3 e4 e5 e6
 refine ⟨⟨n0,n1,n2,n3,⟨n4,n5,n6⟩⟩,rfl,?_⟩
 have q1:IntKind.i64.min = -9223372036854775808:=rfl
 have q2:IntKind.i64.max=9223372036854775807:=rfl
 simp [Lit.wf,q1,q2] at w0 w1 w2 w3 w4 w5 w6
 intro x hx
 simp only [mP,List.mem_cons,List.not_mem_nil,or_false] at hx
 rcases hx with rfl | rfl | rfl | rfl | rfl | rfl | rfl <;> omega
theorem TS {r:Reach} {base:Nat} {v:Value} {d:DataW H} {p:List MemPlace} (hv:Value.okWide Tryz.prog w r base 50 v) (h:DataW.Trod enc Tryz.prog w 0 (fun _=>true) true 50 v d p):∃ xs,gI TQ w v xs:=
 KR TQ Tryz.underlying50 (by kernel_rfl) (by decide) (WQ (enc:=enc) (w:=w)) hv h
theorem aa1 {r:Reach} {base:Nat} {v:Value} {d:DataW H} {p:List MemPlace} (hv:Value.okWide Tryz.prog w r base 54 v) (h:DataW.Trod enc Tryz.prog w 0 (fun _=>true) true 54 v d p):∃ x:iY,v=.agg #[.int .i64 x.kind,.int .i64 x.au,.int .i64 x.n,.int .i64 x.now,.int .i64 x.m.src,.int .i64 x.m.dst,.int .i64 x.m.piece]∧wW x:=by
 obtain ⟨cs,rfl,hl,hcell⟩:=EX (ts:=[3,3,3,3,3,3,3]) Tryz.underlying54 (by kernel_rfl) (by kernel_rfl) hv
 obtain ⟨fuel,hf⟩:=h
 simp only [Value.cells] at hf
 obtain ⟨x,hx,hok⟩:=WQ (enc:=enc) (w:=w) _ _ _ hf
 exact ⟨x,by rw [← hx],hok⟩
end
end Go.Proofs.YtmabaojkignodaaGreatDoor
