/- RfB, RfC, MaX, MaY, ReL. -/
import Derived.Test.YtmabaojkignodaaGreatDoorD32
namespace Go.Proofs.YtmabaojkignodaaGreatDoor
open Go.ChangeShapes Go.WideShapes Go.ChangeAt Go.RowKit
set_option linter.unusedVariables false
open Go.Lib (hid)
def BK (M0:aG) (es:List iY) (w:World) (e:Ending) (w':World):Prop:=
 ∃ v l,e=.returned (.tuple #[v,.int .i64 0])∧Below w.heap.size w w'∧w'.ownsRow w.heap.size 209 26 v (es.length+1) (kR l)∧(∀ x∈l,lu w.heap.size w' x.M.pos x.vc x.v0 x.v1)∧(∀ x∈l,nV x.M.R x.M.pos)∧Ti M0 es es.length l
def Fg:Value:=.agg #[.slice none 0 0,.int .i64 0,.int .i64 0,.int .i64 0,.int .i64 0,.int .i64 0,.int .i64 0,.int .i64 0,.int .i64 0,.int .i64 0,.int .i64 0,.bool false,.int .i64 0,.int .i64 0,.int .i64 0,.int .i64 0,.int .i64 0,.int .i64 0,.int .i64 0,.slice none 0 0,.slice none 0 0,.slice none 0 0,.slice none 0 0,.int .i64 0,.int .i64 0,.int .i64 0]
theorem Tj:∃ i,Tryz.prog.info? 209=some i∧i.zero=some Fg∧i.size=26∧i.bytes=288:=by
 have h:(Tryz.prog.info? 209).map (fun i=>(i.zero,i.size,i.bytes))=some (some Fg,26,288):=by kernel_rfl
 cases hh:Tryz.prog.info? 209 with
 | none=>rw [hh] at h; cases h
 | some i =>
  rw [hh] at h
  simp only [Option.map_some,Option.some.injEq,Prod.mk.injEq] at h
  exact ⟨i,rfl,h.1,h.2.1,h.2.2⟩
theorem Me (x:qX) (h0:x.vc.oneCell'=true) (h1:x.v0.oneCell'=true) (h2:x.v1.oneCell'=true):∀ u∈fC x,u.oneCell'=true:=by
 intro u hu
 simp only [fC,List.mem_cons,List.not_mem_nil,or_false] at hu
 rcases hu with rfl | rfl | rfl | rfl | rfl | rfl | rfl | rfl | rfl | rfl | rfl | rfl | rfl | rfl | rfl | rfl | rfl | rfl | rfl | rfl | rfl | rfl | rfl | rfl | rfl | rfl
 all_goals first | rfl | assumption
theorem WH {W:World} {b:Nat} {cs:List Value} {t:TypeId} (h:Box W b cs t):∀ j u,cs[j]?=some u→W.cell? ((⟨b,0,none⟩:Addr).add j)=some u:=by
 intro j u hj
 have:=h.cell j hj
 have e2:(⟨b,0,none⟩:Addr).add j=⟨b,j,none⟩:=by unfold Addr.add; split <;> simp_all
 rw [e2]
 exact this
theorem BL {base:Nat} {w w':World} {p:bg} {vc v0 v1:Value} (h:lu base w p vc v0 v1) (hb:Below w.heap.size w w'):lu base w' p vc v0 v1:=⟨bK h.1 hb,bK h.2.1 hb,bK h.2.2.1 hb,h.2.2.2⟩
theorem afH (w:World) (a0 a1 a2 a3 a4 a5 a6 a7 a8 a9 b0 b1 b2 b3 b4 b5 b6 b7 b8 b9:Value):(Instr.field 73 (.agg #[a0,a1,a2,a3,a4,a5,a6,a7,a8,a9,b0,b1,b2,b3,b4,b5,b6,b7,b8,b9]) 3).run Tryz.prog w=.ok (.agg #[a3,a4,a5,a6,a7,a8,a9,b0,b1,b2]) w:=by kernel_rfl
theorem afI (w:World) (a0 a1 a2 a3 a4 a5 a6 a7 a8 a9:Value):(Instr.field 67 (.agg #[a0,a1,a2,a3,a4,a5,a6,a7,a8,a9]) 4).run Tryz.prog w=.ok a7 w:=by kernel_rfl
set_option maxRecDepth 100000 in
set_option maxHeartbeats 16000000 in
theorem KF (HL:LdS) (R:aC) (CR:nJ) (vp vs ve:Value) (pa:Option Addr) (pc:Nat) (es:List iY) (vj:Value) (w:World) (hr:ru w R vp vs ve) (hnm:R.name.size≤maxLen) (hp:clk.dV w w.heap.size pa CR.ps.length CR.ps) (h1:CR.ps.length≤pc) (h2:pc≤maxLen)
  (hre:aW R=0) (hro:clk.cu CR.ps.length CR.inc CR.delay CR.ps) (hj:zL w vj (goes (dh R CR 0) es).jr) (hacc:nP (dh R CR 0) es) (hok:∀ e∈es,wW e) (hle:es.length≤60) (ht:Tab w.heap.size w) (hm:LY w.heap.size w) :
  Calls Tryz.prog 63 #[.agg #[.string R.name,.int .i64 R.width,.int .i64 R.height,vp,vs,.bool R.falls,.bool R.keeps,ve,.int .i64 R.blocked,.int .i64 R.quiet,.int .i64 R.bF],.agg #[.slice pa CR.ps.length pc,.int .i64 CR.inc,.int .i64 CR.delay],vj] w (BK (dh R CR 0) es w):=by
 have HLd:Hid (∀ w1,Below w.heap.size w w1→Calls Tryz.prog 15 #[.agg #[.string R.name,.int .i64 R.width,.int .i64 R.height,vp,vs,.bool R.falls,.bool R.keeps,ve,.int .i64 R.blocked,.int .i64 R.quiet,.int .i64 R.bF],.agg #[.slice pa CR.ps.length pc,.int .i64 CR.inc,.int .i64 CR.delay],vj] w1 (BJ (goes (dh R CR 0) es) w1)):=hid (fun w1 hb=>Iz HL R CR vp vs ve pa pc es vj w1 (hr.below hb (Nat.le_refl _)) hnm (hp.below hb) h1 h2 hre hro (hj.below hb (Nat.le_refl _)) hacc hok hle (ht.mono hb.size hb) ((hm.below hb).mono hb.size))
 have HS:=hid HL
 have nT:=hid ht
 have Uz:=hid hm
 have CX:=hid hok
 have I7:=hid hle
 have DV:=hid (yA hacc)
 obtain ⟨ja,jc,rfl,hj1,hj2,-⟩:=hj.form
 have HJt:Hid (∀ k (hk:k<es.length) (hk2:k+1<(goes (dh R CR 0) es).jr.length),(goes (dh R CR 0) es).jr[k+1].txt=bV es[k]):=hid (XA hacc)
 have hcg:=xU.of hro
 have WG:Hid (∀ k,MInv (goes (dh R CR 0) (es.take k))∧(goes (dh R CR 0) (es.take k)).ms.length≤400∧(goes (dh R CR 0) (es.take k)).jr.length<90):=hid (fun k=>by
  obtain ⟨i1,i2⟩:=xg (es.take k) (dh R CR 0) (BG R CR 0 hnm hcg (by decide) (by decide)) (by rw [KD]; decide) (fun e he=>hok e (List.mem_of_mem_take he))
  refine ⟨i1,i2,?_⟩
  rw [yA (BH hacc k),List.length_take]
  omega)
 have MF:Hid (∀ k (hk:k<es.length),((goes (dh R CR 0) (es.take k)).go es[k]).1=goes (dh R CR 0) (es.take (k+1))):=hid (fun k hk=>(DX k hk).symm)
 have Zg:=zL.take hj 1 (by rw [DV.out]; omega)
 rw [← WB hacc 0] at Zg
 have aci:Hid (∀ w1,Below w.heap.size w w1→Calls Tryz.prog 15 #[.agg #[.string R.name,.int .i64 R.width,.int .i64 R.height,vp,vs,.bool R.falls,.bool R.keeps,ve,.int .i64 R.blocked,.int .i64 R.quiet,.int .i64 R.bF],.agg #[.slice pa CR.ps.length pc,.int .i64 CR.inc,.int .i64 CR.delay],.slice ja 1 jc] w1 (BJ (dh R CR 0) w1)):=hid (fun w1 hb=>Iz HL R CR vp vs ve pa pc [] _ w1 (hr.below hb (Nat.le_refl _)) hnm (hp.below hb) h1 h2 hre hro (Zg.below hb (Nat.le_refl _)) trivial (fun e he=>by cases he) (by simp) (ht.mono hb.size hb) ((hm.below hb).mono hb.size))
 obtain ⟨J,hJ⟩:∃ J,(goes (dh R CR 0) es).jr=J:=⟨_,rfl⟩
 rw [hJ] at hj hj1 DV HJt HLd
 rw [hJ]
 obtain ⟨g,o,rfl,hg,Zc,Zd,hjr⟩:=LZ (es:=es) hj (by rw [DV.out]; omega)
 obtain ⟨d,rfl⟩:∃ d,jc=J.length+d:=⟨jc - J.length,by omega⟩
 have HJr:Hid (∀ w1,Below w.heap.size w w1→∀ k (hk:k<J.length),w1.cell? ⟨g,o+k * 2,none⟩=some (.string J[k].txt)∧w1.cell? ⟨g,o+k * 2+1,none⟩=some (.int .u64 J[k].sum)):=hid (fun w1 hb k hk=>⟨(hb.cell (p:=⟨g,o+k * 2,none⟩) hg).trans (hjr k hk).1,(hb.cell (p:=⟨g,o+k * 2+1,none⟩) hg).trans (hjr k hk).2⟩)
 obtain ⟨i0,hi0,hz0,hz1,hz2⟩:=Tj
 have afK:1≤J.length:=by have:=DV.out; omega
 clear HL hr hnm hp h1 h2 hre hro ht hm hok hacc hle hj Zg hcg hJ hjr hj1 hj2
 go_enter Tryz.func63,Tryz.ntmps63
 go_upto_region 1 with (fail)
 refine sV fun w0 jU DJ dM hs_=>?_
 have HX0:=hid jU
 have dn:=hid DJ
 have HB:=hid dM
 clear hs_ jU DJ dM
 refine wp_region_lit ?_
 refine aB (by rfl) 46 (.tmp 3) (by rfl) (w.heap.size) (by rfl) HX0.out Tryz.underlying46 (by rfl) (by kernel_rfl) ?_
 refine aB (by rfl) 49 (.tmp 4) (by rfl) (w.heap.size+1) (by rfl) dn.out Tryz.underlying49 (by rfl) (by kernel_rfl) ?_
 go_wp2_with fail
 refine (HLd.out w0 HB.out).mono ?_
 rintro e w1 ⟨ahR,S1,b1,B1,rfl,-,-,-,hb1⟩
 have HB1:=hid (HB.out.trans (hb1.mono HB.out.size))
 have oC:=hid (HX0.out.stays hb1)
 have dZ:=hid (dn.out.stays hb1)
 clear hb1 HX0 dn HB HLd
 go_upto_region 4 with (fail)
 have hj3:1≤J.length+d:=by omega
 have hj4:¬ ((J.length:Int)+(d:Int)<1):=by omega
 generalize w1=wq at *
 have OO:=oC.out.drew
 have Zh:=dZ.out.drew
 have Lz:Below w.heap.size w wq.drew:=aA HB1.out
 clear oC dZ HB1
 refine wp_region_noPanic ?_
 refine bG (S:=(fun w'=>w'.cell? ⟨w.heap.size,0,none⟩=some (.string R.name)∧w'.cell? ⟨w.heap.size,1,none⟩=some (.int .i64 R.width)∧w'.cell? ⟨w.heap.size,2,none⟩=some (.int .i64 R.height)∧w'.cell? ⟨w.heap.size,3,none⟩=some vp∧w'.cell? ⟨w.heap.size,4,none⟩=some vs∧w'.cell? ⟨w.heap.size,5,none⟩=some (.bool R.falls)∧w'.cell? ⟨w.heap.size,6,none⟩=some (.bool R.keeps)∧w'.cell? ⟨w.heap.size,7,none⟩=some ve∧w'.cell? ⟨w.heap.size,8,none⟩=some (.int .i64 R.blocked)∧w'.cell? ⟨w.heap.size,9,none⟩=some (.int .i64 R.quiet)∧w'.cell? ⟨w.heap.size,10,none⟩=some (.int .i64 R.bF)∧w'.cell? ⟨w.heap.size+1,0,none⟩=some (.slice pa CR.ps.length pc)∧w'.cell? ⟨w.heap.size+1,1,none⟩=some (.int .i64 CR.inc)∧w'.cell? ⟨w.heap.size+1,2,none⟩=some (.int .i64 CR.delay))) (L:=[]) (by kernel_rfl) (by and_intros <;> first | exact OO.cell _ rfl | exact Zh.cell _ rfl) (fun hHeld=>?_)
 refine dL 0 ?_
 refine dL 1 ?_
 refine aF 2 ?_
 try simp only [Act.put,qw,qx,qy]
 refine OZ (i:=3) (v:=.slice (some ⟨g,o,none⟩) 1 (J.length+d)) rfl (by kernel_rfl) (by kernel_rfl) (by kernel_rfl) rfl (fun _ _ _ h=>h) (Or.inl ⟨by rfl,?ya4⟩) (fun _=>by assumption) ?ra4
 case ya4=>(intro w _; go_simp; first | done | (with_reducible rfl) | (rw [if_neg (by omega)]))
 refine dO 4 fun K hK=>?_
 go_simp
 refine (aci.out wq.drew Lz).mono ?_
 rintro e w4 ⟨base,S,b,B,rfl,hm4,acj,acn,hb4⟩
 have X04:=OO.stays hb4
 have LM:=Zh.stays hb4
 have L4:=Lz.trans (hb4.mono Lz.size)
 refine hK.out _ _ (by and_intros <;> first | exact X04.cell _ rfl | exact LM.cell _ rfl) (fun hHeld=>?_)
 clear hK K
 refine aF 5 ?_
 refine aF 6 ?_
 refine aF 7 ?_
 refine aF 8 ?_
 refine aF 9 ?_
 refine iE ?_
 have qh:=hid hm4
 have HB4:=hid L4
 have Zi:=hid (And.intro (Nat.le_trans Lz.size acj) acn)
 clear hm4 acj acn hb4 L4 X04 LM OO Zh Lz hHeld aci
 go_upto_region 5 with (fail)
 have hpl:=(WG.out 0).1.pr.len
 rw [show goes (dh R CR 0) (es.take 0)=dh R CR 0 from rfl] at hpl
 have yS:Hid ((dh R CR 0).aS.length≤1000):=hid (by omega)
 obtain ⟨M0,hM0⟩:∃ M0,dh R CR 0=M0:=⟨_,rfl⟩
 rw [hM0] at qh WG MF yS ⊢
 have HMe:=hid hM0
 clear hM0 hpl
 go_wp2_with fail
 refine (yx w4 qh.out yS.out).mono ?_
 rintro e w5 ⟨ma,mc,qa,qc,rfl,-,-,hb5⟩
 have mW:=hid hb5
 clear hb5
 go_wp2_with fail
 refine (IB w5 (qh.out.below mW.out)).mono ?_
 rintro e w6 ⟨vc,v0,v1,rfl,uV,hb6⟩
 have zD:=hid hb6
 have Dp:=hid uV
 clear hb6 uV
 go_wp2_with fail
 refine (yx w6 ((qh.out.below mW.out).below zD.out) yS.out).mono ?_
 rintro e w7 ⟨ma2,mc2,qa2,qc2,rfl,-,-,hb7⟩
 have uD:=hid hb7
 clear hb7
 have hf3:=afH w7 (.slice ma2 M0.ms.length mc2) (.int .i64 M0.res) (.int .i64 M0.reason) (.int .i64 M0.clk.l0) (.int .i64 M0.clk.l1) (.int .i64 M0.clk.m0) (.int .i64 M0.clk.m1) (.int .i64 M0.clk.p0) (.int .i64 M0.clk.p1) (.int .i64 M0.clk.turn) (.int .i64 M0.clk.since) (.bool M0.clk.st) (.int .i64 M0.clk.ak) (.int .i64 M0.off.b0) (.int .i64 M0.off.b1) (.int .i64 M0.off.aY) (.int .i64 M0.off.aZ) (.int .i64 M0.off.l10) (.int .i64 M0.off.aX) (.slice qa2 M0.aS.length qc2)
 have hf4:=afI w7 (.int .i64 M0.clk.l0) (.int .i64 M0.clk.l1) (.int .i64 M0.clk.m0) (.int .i64 M0.clk.m1) (.int .i64 M0.clk.p0) (.int .i64 M0.clk.p1) (.int .i64 M0.clk.turn) (.int .i64 M0.clk.since) (.bool M0.clk.st) (.int .i64 M0.clk.ak)
 obtain ⟨Ud,Ue,rfl⟩:=aI Dp.out.1
 obtain ⟨pa2,pn2,rfl⟩:=aI Dp.out.2.1
 obtain ⟨pa3,pn3,rfl⟩:=aI Dp.out.2.2.1
 go_upto_region 6 with (fail)
 refine wU ?_
 intro w8 e8
 have HR8:Hid (qY M0 es 0 0 S base b B w7.heap.size (.slice (some ⟨w7.heap.size,0,none⟩) 1 1) [⟨M0,M0.clk.since,ma,mc,qa,qc,.slice Ud (bn M0.R M0.ms).cells.length Ue,.slice pa2 (bn M0.R M0.ms).h0.length pn2,.slice pa3 (bn M0.R M0.ms).h1.length pn3⟩] w8):=hid (by rw [e8]; exact qY.start (qh.out.below mW.out) (zD.out.trans (uD.out.mono zD.out.size)) ⟨M0,M0.clk.since,ma,mc,qa,qc,.slice Ud (bn M0.R M0.ms).cells.length Ue,.slice pa2 (bn M0.R M0.ms).h0.length pn2,.slice pa3 (bn M0.R M0.ms).h1.length pn3⟩ rfl rfl (BL Dp.out uD.out))
 have h47:w4.heap.size≤w7.heap.size:=Nat.le_trans mW.out.size (Nat.le_trans zD.out.size uD.out.size)
 have HB8:Hid (Below w.heap.size w w8):=hid (by rw [e8]; exact ((((HB4.out.trans (mW.out.mono HB4.out.size)).trans (zD.out.mono (Nat.le_trans HB4.out.size mW.out.size))).trans (uD.out.mono (Nat.le_trans HB4.out.size (Nat.le_trans mW.out.size zD.out.size)))).alloc (Nat.le_trans HB4.out.size h47) _))
 have HBw:Hid (w.heap.size≤w7.heap.size∧base≤w7.heap.size):=hid ⟨Nat.le_trans HB4.out.size h47,Nat.le_trans Zi.out.2 h47⟩
 have qg:=hid Zi.out.1
 clear qh HB4 Zi yS mW zD uD Dp h47 e8 hf3 hf4
 generalize w7.heap.size=bw at *
 go_cut [2,46,47,48] (fun v2 v46 v47 v48 wx=>∃ A c2,v46=.slice A es.length c2∧(0<es.length→A=some ⟨g,o+2,none⟩)∧es.length≤c2∧v47=.int .i64 (es.length:Int)∧v48=.int .i64 0∧w8=wx)
 case first =>
  have hj1:1≤J.length:=afK
  have hl2:=DV.out
  go_wp2_with fail
  all_goals (go_meet; first | exact ⟨_,_,rfl,fun hh=>absurd hh (by omega),by omega,rfl,rfl,rfl⟩ | exact ⟨_,_,rfl,fun _=>rfl,by omega,rfl,rfl,rfl⟩)
 obtain ⟨A,c2,rfl,hA,hc2,rfl,rfl,rfl⟩:=hcut
 clear Zc Zd hj3 hj4
 go_wp2_with fail
 go_loopw [48,12,14,15,16] (fun v48 v12 v14 v15 v16 wr=>∃ (k:Nat) (S:Nat→Prop) (B:jv) (lo:List qX) (vo o14 o15 o16:Value),vo=v12∧o14=v14∧o15=v15∧o16=v16∧k≤es.length∧v48=.int .i64 k∧Hid (qY M0 es k k S base b B bw vo lo wr)∧Hid (Below w.heap.size w wr)) (fun v _ _ _ _ _=>es.length - (intOf v).toNat)
 case atStart=>exact ⟨0,S,B,_,_,_,_,_,rfl,rfl,rfl,rfl,Nat.zero_le _,rfl,HR8,HB8⟩
 clear HR8 HB8
 case round =>
  obtain ⟨k,S,B,lo,vo,o14,o15,o16,rfl,rfl,rfl,rfl,hk,rfl,XG,bC⟩:=hrel
  by_cases hlt:k<es.length
  ·have Uy:(k:Int)<(es.length:Int):=by omega
   obtain rfl:=hA (by omega)
   have hk2:k+1<J.length:=by have:=DV.out; omega
   obtain ⟨a0,a1⟩:=HJr.out wr bC.out (k+1) hk2
   rw [HJt.out k hlt hk2,show o+(k+1) * 2=o+2+k * 2 by omega] at a0
   rw [show o+(k+1) * 2=o+2+k * 2 by omega] at a1
   have CV:=hid (MF.out k hlt)
   obtain ⟨hi1,hi2,hi3⟩:=WG.out k
   have hev:=CX.out es[k] (List.getElem_mem hlt)
   have HNw:Hid (es[k].now=Md M0 es (k+1)):=hid (by show es[k].now=(es.getD k default).now; rw [List.getD_eq_getElem?_getD,List.getElem?_eq_getElem hlt]; rfl)
   have XB:=hid (nT.out.mono bC.out.size bC.out)
   have HMr:=hid ((Uz.out.below bC.out).mono bC.out.size)
   generalize es[k]=x at *
   generalize J[k+1].sum=sm at *
   go_upto_region 9 with (fail)
   have gW:=hid (Box.new wr [.string (bV x),.int .u64 sm] 131)
   have HB1:=hid ((Below.refl wr.heap.size wr).alloc (Nat.le_refl _) (.cells #[.string (bV x),.int .u64 sm] 131))
   generalize (wr.alloc (.cells #[.string (bV x),.int .u64 sm] 131))=wA at *
   have e0:=gW.out.cell 0 rfl
   have HRd:=hid (uj HS.out.it HS.out.ai HS.out.sp x wA hev (XB.out.mono HB1.out.size HB1.out) ((HMr.out.below HB1.out).mono HB1.out.size))
   have Zf:=hid hev
   clear a0 a1 hev XB HMr
   generalize bV x=tx at *
   go_wp2_with fail
   refine HRd.out.mono ?_
   rintro e w5 ⟨rfl,hb5⟩
   have mW:=hid (HB1.out.trans (hb5.mono HB1.out.size))
   clear hb5 HB1 HRd e0 gW
   go_upto_region 10 with (fail)
   have CW:=hid (Box.new w5 [.int .i64 x.kind,.int .i64 x.au,.int .i64 x.n,.int .i64 x.now,.int .i64 x.m.src,.int .i64 x.m.dst,.int .i64 x.m.piece] 54)
   have zD:=hid (mW.out.trans (((Below.refl w5.heap.size w5).alloc (Nat.le_refl _) (.cells #[.int .i64 x.kind,.int .i64 x.au,.int .i64 x.n,.int .i64 x.now,.int .i64 x.m.src,.int .i64 x.m.dst,.int .i64 x.m.piece] 54)).mono mW.out.size))
   have hEl:=mW.out.size
   generalize (w5.alloc (.cells #[.int .i64 x.kind,.int .i64 x.au,.int .i64 x.n,.int .i64 x.now,.int .i64 x.m.src,.int .i64 x.m.dst,.int .i64 x.m.piece] 54))=w6 at *
   have CU:=hid (XG.out.below zD.out)
   have HVo:Hid (∀ q,vo.ownBlock=some q→q<wr.heap.size):=hid (fun q hq=>(XG.out.row.lt q hq).2)
   generalize hE:w5.heap.size=E at *
   have HEl:Hid (wr.heap.size≤E):=hid hEl
   have e0:=CW.out.cell 0 rfl
   have e1:=CW.out.cell 1 rfl
   have e2:=CW.out.cell 2 rfl
   have e3:=CW.out.cell 3 rfl
   have e4:=CW.out.cell 4 rfl
   have e5:=CW.out.cell 5 rfl
   have e6:=CW.out.cell 6 rfl
   have hb6:base≤w6.heap.size:=Nat.le_trans CU.out.m.lo (Nat.le_of_lt CU.out.m.box.lt)
   have BU:Hid (∀ q,(S q∨out1 (yC vo) b q)→q<wr.heap.size):=hid XG.out.m.wL
   have KE:=hid (bC.out.trans (zD.out.mono bC.out.size))
   have OH:=hid (nT.out.mono qg.out (KE.out))
   have UC:=hid (KA HS.out.so HS.out.it HS.out.jo x w6 CU.out.m hb6 hi1 hi3 OH.out Zf.out)
   rw [CV.out] at UC
   clear mW XG hi1 hi2 hi3 OH Zf hE hEl
   go_wp2_with fail
   refine UC.out.mono ?_
   rintro e w7 ⟨rfl,S7,B7,XF,hs7,Mc⟩
   have uD:=hid (KE.out.trans ((aH.base' CU.out.m Mc hb6).mono qg.out))
   have AZ:=hid (CU.out.go XF hs7 Mc)
   have Xo:=hid (CW.out.held Mc (fun hc=>by
    have h1:=HEl.out
    rcases hc with hc | hc
    ·have:=BU.out E (.inl hc); omega
    ·have:=BU.out E (.inr (.inl hc)); omega))
   have yS:Hid ((goes M0 (es.take (k+1))).aS.length≤1000):=hid (by have:=(WG.out (k+1)).1.pr.len; omega)
   have LP:k+1≤100000000:=by have:=I7.out; omega
   have akJ:k≤60:=by have:=I7.out; omega
   clear XF hs7 Mc UC e0 e1 e2 e3 e4 e5 e6 CU KE zD CW BU
   go_upto_region 11 with (fail)
   generalize w7=wq at *
   have Rz:=AZ.out.below (aA (Below.refl _ _))
   have Ez:=Xo.out.drew
   have Lz:Below w.heap.size w wq.drew:=aA uD.out
   clear AZ Xo uD
   refine wp_region_noPanic ?_
   refine bG (S:=(fun w'=>w'.cell? ⟨E,3,none⟩=some (.int .i64 x.now))) (L:=[]) (by kernel_rfl) (Ez.cell 3 rfl) (fun hHeld=>?_)
   refine aF 0 ?_
   refine aF 1 ?_
   refine aF 3 ?_
   refine aF 5 ?_
   refine dL 6 ?_
   refine dO 2 fun K hK=>?_
   go_simp
   refine (yx wq.drew Rz.m yS.out).mono ?_
   rintro e w8 ⟨ma,mc,qa,qc,rfl,hs1,hs2,hb8⟩
   have R8:=Rz.below hb8
   have E8:=Ez.stays hb8
   have L8:=Lz.trans (hb8.mono Lz.size)
   clear hs1 hs2
   refine hK.out _ _ (E8.cell 3 rfl) (fun hHeld=>?_)
   clear hK K
   refine dO 4 fun K hK=>?_
   go_simp
   refine (IB w8 R8.m).mono ?_
   rintro e w9 ⟨vc,v0,v1,rfl,ER,Eu⟩
   obtain ⟨Ud,Ue,rfl⟩:=aI ER.1
   obtain ⟨pa2,pn2,rfl⟩:=aI ER.2.1
   obtain ⟨pa3,pn3,rfl⟩:=aI ER.2.2.1
   have E9:=E8.stays Eu
   have L9:=L8.trans (Eu.mono L8.size)
   refine hK.out _ _ (E9.cell 3 rfl) (fun hHeld=>?_)
   clear hK K
   refine aF 7 ?_
   refine dO 8 fun K hK=>?_
   go_simp
   refine aK ?_
   intro w10 e10
   have wJ:Box w10 E [.int .i64 x.kind,.int .i64 x.au,.int .i64 x.n,.int .i64 x.now,.int .i64 x.m.src,.int .i64 x.m.dst,.int .i64 x.m.piece] 54:=by rw [e10]; exact E9.alloc _
   have N10:Box w10 w9.heap.size (fC ⟨goes M0 (es.take (k+1)),x.now,ma,mc,qa,qc,.slice Ud (bn (goes M0 (es.take (k+1))).R (goes M0 (es.take (k+1))).ms).cells.length Ue,.slice pa2 (bn (goes M0 (es.take (k+1))).R (goes M0 (es.take (k+1))).ms).h0.length pn2,.slice pa3 (bn (goes M0 (es.take (k+1))).R (goes M0 (es.take (k+1))).ms).h1.length pn3⟩) 209:=by rw [e10]; exact Box.new w9 _ _
   have wG:Below w9.heap.size w9 w10:=by rw [e10]; exact (Below.refl _ _).alloc (Nat.le_refl _) _
   have z10:w10.heap.size=w9.heap.size+1:=by rw [e10]; simp
   clear e10
   refine hK.out _ _ (wJ.cell 3 rfl) (fun hHeld=>?_)
   clear hK K
   refine dO 9 fun K hK=>?_
   rw [if_pos (by rfl)]
   have R10:=(R8.below Eu).below wG
   refine wp_append_lies _ _ _ 148 rfl bw 209 i0 Fg 26 288 Tryz.underlying148 hi0 hz0 hz1 hz2 (by rfl) (by decide) vo (k+1) (kR lo) rfl R10.row ⟨w9.heap.size,0,none⟩ 1 1 (fC ⟨goes M0 (es.take (k+1)),x.now,ma,mc,qa,qc,.slice Ud (bn (goes M0 (es.take (k+1))).R (goes M0 (es.take (k+1))).ms).cells.length Ue,.slice pa2 (bn (goes M0 (es.take (k+1))).R (goes M0 (es.take (k+1))).ms).h0.length pn2,.slice pa3 (bn (goes M0 (es.take (k+1))).R (goes M0 (es.take (k+1))).ms).h1.length pn3⟩) rfl rfl (WH N10) (Me _ rfl rfl rfl) (by decide) (by unfold maxLen; omega) (by omega) R10.bsz w10.heap.size rfl ?_
   intro g11 c11 ku Tn WI XH XI
   have R11:=R8.app (Eu.trans (wG.mono Eu.size)) ⟨goes M0 (es.take (k+1)),x.now,ma,mc,qa,qc,.slice Ud (bn (goes M0 (es.take (k+1))).R (goes M0 (es.take (k+1))).ms).cells.length Ue,.slice pa2 (bn (goes M0 (es.take (k+1))).R (goes M0 (es.take (k+1))).ms).h0.length pn2,.slice pa3 (bn (goes M0 (es.take (k+1))).R (goes M0 (es.take (k+1))).ms).h1.length pn3⟩ rfl HNw.out (BL ER wG) Tn WI XH XI
   have nS:=wJ.grown WI (fun hc=>by have:=HVo.out _ hc.symm; have:=HEl.out; omega)
   have jR:Below w.heap.size w ku:=Below.grown (L9.trans (wG.mono L9.size)) WI (by have:=Lz.size; have:=hb8.size; have:=Eu.size; omega) (fun q hq=>by have:=(R10.row.lt q hq).1; have:=HBw.out; omega)
   refine hK.out _ _ (nS.cell 3 rfl) (fun hHeld=>?_)
   clear hK K
   refine aF 10 ?_
   refine iE ?_
   have afM:=hid R11
   have afN:=hid jR
   clear R11 jR nS Tn WI XH XI R10 N10 wG wJ z10 E9 L9 ER Eu E8 L8 R8 hb8 Rz Ez Lz hHeld
   go_wp2_with fail
   refine ⟨⟨k+1,_,_,_,_,_,_,_,rfl,rfl,rfl,rfl,by omega,by go_num,afM,afN⟩,?_⟩
   simp [intOf]; omega
  obtain rfl:k=es.length:=by omega
  have Uy:¬ (es.length:Int)<(es.length:Int):=by omega
  go_wp2_with fail
  go_ret2
  refine ⟨vo,lo,rfl,bC.out,own_base XG.out.row HBw.out.1,fun x hx=>(XG.out.pos x hx).now.base qg.out,XG.out.ok,?_⟩
  rw [HMe.out]
  exact XG.out.ms
def kS (M:aG) (pl:Int) (m:aN):Bool:=M.res == 0 && (M.pos.turn == pl && decide (m∈iF M.R M.pos))
theorem gu {w w':World} {g o:Nat} {cs:List Value} (h:w.rangeAt g o cs) (hb:Below w.heap.size w w') (hg:g<w.heap.size):w'.rangeAt g o cs:=fun k v hk=>(hb.cell (p:=⟨g,o+k,none⟩) hg).trans (h k v hk)
theorem lI {S:Nat→Prop} {w w':World} {g o:Nat} {cs:List Value} (h:w.rangeAt g o cs) (hf:Fr S w w') (hg:g<w.heap.size) (hs:¬ S g):w'.rangeAt g o cs:=fun k v hk=>(World.cell?_of_block (a:=⟨g,o+k,none⟩) (hf.block g hg hs)).trans (h k v hk)
def yV:List Value:=[.slice none 0 0,.int .i64 0,.int .i64 0,.int .i64 0,.int .i64 0,.int .i64 0,.int .i64 0,.int .i64 0,.int .i64 0,.int .i64 0,.int .i64 0,.bool false,.int .i64 0,.int .i64 0,.int .i64 0,.int .i64 0,.int .i64 0,.int .i64 0,.int .i64 0,.slice none 0 0,.slice none 0 0,.slice none 0 0,.slice none 0 0,.int .i64 0,.int .i64 0,.int .i64 0]
def Zj (x:qX):Prop:=x.vc.oneCell'=true∧x.v0.oneCell'=true∧x.v1.oneCell'=true
theorem zN (x:qX) (h:Zj x):(fC x).toArray.all (·.oneCell')=true:=all_oneCell_toArray (Me x h.1 h.2.1 h.2.2)
theorem Zk {P F:World→Nat→Nat→Prop} {G:Prop} (main:(∀ w b c,F w b c→P w b c)→G) (rest:∀ w b c,F w b c→P w b c):G:=main rest
theorem TP:¬ Fa fJ nO:=by
 intro h
 apply h
 refine ⟨by decide +kernel,?_⟩
 refine ⟨by decide,by decide,by decide,fun k hk=>?_⟩
 obtain rfl:k=0:=by have:k<1:=hk; omega
 decide
theorem acs (n:Int) (w:World):Calls Tryz.prog 40 #[.int .i64 n] w fun e w'=>e=.returned (.agg #[.int .i64 (-1),.int .i64 n,.int .i64 0])∧Below w.heap.size w w':=by
 go_enter Tryz.func40,Tryz.ntmps40
 go_wp2
 exact bodyPost_ret (v:=.agg #[.int .i64 (-1),.int .i64 n,.int .i64 0]) (by simp [results,Tryz.results40,go_sem]) rfl ⟨rfl,by go_grown⟩
theorem ZC:clk.cu nO.ps.length nO.inc nO.delay nO.ps:=by
 refine ⟨by decide,by decide,by decide,fun k hk=>?_⟩
 obtain rfl:k=0:=by have:k<1:=hk; omega
 decide
end Go.Proofs.YtmabaojkignodaaGreatDoor
namespace Go.Proofs.YtmabaojkignodaaGreatDoor
open Go.ChangeShapes Go.WideShapes Go.ChangeAt Go.RowKit
set_option linter.unusedVariables false
variable {X S:Nat→Prop} {base b:Nat} {M:aG} {B:jv}
def TQ:El iY where
 k:=7
 E:=fun _ x cs=>cs=[.int .i64 x.kind,.int .i64 x.au,.int .i64 x.n,.int .i64 x.now,.int .i64 x.m.src,.int .i64 x.m.dst,.int .i64 x.m.piece]∧wW x
 mono:=fun h _ _=>h
 len:=fun h=>by rw [h.1]; rfl
theorem ZE {w:World} {a:Option Addr} {n c:Nat} {xs:List iY} (h:gI TQ w (.slice a n c) xs) (i:Nat) (hi:i<xs.length):∃ g o,a=some ⟨g,o,none⟩∧g<w.heap.size∧wW xs[i]∧w.cell? ⟨g,o+i * 7,none⟩=some (.int .i64 xs[i].kind)∧w.cell? ⟨g,o+i * 7+1,none⟩=some (.int .i64 xs[i].au) ∧
  w.cell? ⟨g,o+i * 7+2,none⟩=some (.int .i64 xs[i].n)∧w.cell? ⟨g,o+i * 7+3,none⟩=some (.int .i64 xs[i].now)∧w.cell? ⟨g,o+i * 7+4,none⟩=some (.int .i64 xs[i].m.src)∧w.cell? ⟨g,o+i * 7+5,none⟩=some (.int .i64 xs[i].m.dst)∧w.cell? ⟨g,o+i * 7+6,none⟩=some (.int .i64 xs[i].m.piece):=by
 obtain ⟨g,o,ha,hg,hc⟩:=h.some (by omega)
 obtain ⟨cs,⟨rfl,hok⟩,hx⟩:=hc i hi
 exact ⟨g,o,ha,hg,hok,hx 0 (by show 0<7; omega),hx 1 (by show 1<7; omega),hx 2 (by show 2<7; omega),hx 3 (by show 3<7; omega),hx 4 (by show 4<7; omega),hx 5 (by show 5<7; omega),hx 6 (by show 6<7; omega)⟩
theorem aH.afU {w:World} (h:aH X S base w b M B) (k:Nat) (hk:S k∨one1 b k):k<w.heap.size:=by
 obtain ⟨up,us,ue,vl,vm,rows,hg⟩:=h.game
 rcases hk with hk | hk
 ·exact (hg.lo k hk).2
 ·rw [show k=b from hk]; exact h.box.lt
end Go.Proofs.YtmabaojkignodaaGreatDoor
namespace Go.Proofs.YtmabaojkignodaaGreatDoor
open Go.ChangeShapes Go.WideShapes Go.ChangeAt Go.RowKit
set_option linter.unusedVariables false
open Go.Lib (hid)
def aan (CR:nJ) (y:oD) (pl now:Int):Int:=if y.ak<0∧pl=y.turn then (if pl=0 then y.l0 else y.l1) - kK CR y now else (if pl=0 then y.l0 else y.l1)
def aaL (CR:nJ) (c:oD) (pl now:Int):Int:=aan CR (aV CR c now) pl now
set_option maxRecDepth 100000 in
set_option maxHeartbeats 8000000 in
theorem aaT (CR:nJ) (c:oD) (q:Nat) (now:Int) (pa:Option Addr) (pc:Nat) (w:World) (hr:xU CR) (hk:qV CR c) (h0:c.since≤now) (h1:now≤100000000) (hq:q<2) (hp:clk.dV w w.heap.size pa CR.ps.length CR.ps) :
  Calls Tryz.prog 111 #[.agg #[.slice pa CR.ps.length pc,.int .i64 CR.inc,.int .i64 CR.delay],.agg #[.int .i64 c.l0,.int .i64 c.l1,.int .i64 c.m0,.int .i64 c.m1,.int .i64 c.p0,.int .i64 c.p1,.int .i64 c.turn,.int .i64 c.since,.bool c.st,.int .i64 c.ak],.int .i64 (q:Int),.int .i64 now] w fun e w'=>e=.returned (.tuple #[.int .i64 (aaL CR c (q:Int) now),.int .i64 0])∧Below w.heap.size w w':=by
 have HP:=hid hp
 have HCr:=hid hr
 have Wh:=hid (fun (w1:World) (hb:Below w.heap.size w w1)=>sK CR c now pa pc w1 hr hk h0 h1 (hp.below hb))
 have hg:=JM hk now
 have hrs:=DC CR c now
 have HDl:Hid (aaL CR c (q:Int) now=aan CR (aV CR c now) (q:Int) now):=hid rfl
 have HNw:Hid (0≤now∧now≤100000000):=hid ⟨by have:=hk.s; omega,h1⟩
 have HW:=hid (clk.dU (n:=(q:Int)) (lo:=0) (hi:=1) ⟨by omega,by omega⟩)
 unfold Bc at Wh
 have hus:0≤kK CR (aV CR c now) now∧kK CR (aV CR c now) now≤100000000:=by
  have hd:=hr.del
  have hs:=hg.s
  unfold kK
  split <;> omega
 generalize aV CR c now=y at *
 obtain ⟨lv,hlv⟩:∃ lv,(if (q:Int)=0 then y.l0 else y.l1)=lv:=⟨_,rfl⟩
 have HLv:Hid (([.int .i64 y.l0,.int .i64 y.l1,.int .i64 y.m0,.int .i64 y.m1,.int .i64 y.p0,.int .i64 y.p1,.int .i64 y.turn,.int .i64 y.since,.bool y.st,.int .i64 y.ak]:List Value)[q]?=some (.int .i64 lv)):=hid (by
  have:q=0∨q=1:=by omega
  rcases this with rfl | rfl <;> (rw [← hlv]; rfl))
 have hlb:0≤lv∧lv≤100000000000:=by
  have:=hg.l0; have:=hg.l1
  rw [← hlv]; split <;> omega
 have HD:Hid (aan CR y (q:Int) now=if y.ak<0∧(q:Int)=y.turn then lv - kK CR y now else lv):=hid (by unfold aan; rw [hlv])
 rw [HDl.out]
 have HG:=hid hg
 have hq2:(q:Int)<2:=by omega
 clear hr hk h0 h1 hp hg hrs HDl hlv
 go_enter Tryz.func111,Tryz.ntmps111
 go_upto_region 1 with (fail)
 refine sV fun w0 jU DJ dM hs_=>?_
 have HX:=hid jU
 have HY:=hid DJ
 have HB:=hid dM
 clear hs_ jU DJ dM
 go_wp2_with fail
 refine (clk.ay _ _ _ _).mono ?_
 rintro e w' ⟨rfl,rfl⟩
 rw [HW.out]
 go_upto_region 3 with (fail)
 refine wp_region_lit ?_
 refine aB (by rfl) 49 (.tmp 4) (by rfl) (w.heap.size) (by rfl) HX.out Tryz.underlying49 (by rfl) (by kernel_rfl) ?_
 refine aB (by rfl) 67 (.tmp 5) (by rfl) (w.heap.size+1) (by rfl) HY.out Tryz.underlying67 (by rfl) (by kernel_rfl) ?_
 go_wp2_with fail
 refine (Wh.out w0 HB.out).mono ?_
 rintro e w1 ⟨rfl,hb1⟩
 have HB1:=hid (HB.out.trans (hb1.mono HB.out.size))
 have dn:=hid (HX.out.stays hb1)
 have HY1:=hid (HY.out.stays hb1)
 clear hb1 HX HY HB Wh
 rename_i K1 q1 K2 q2
 refine q2 _ _ ?_
 clear q2 K2
 iterate 3 (refine wpList_plain (by rfl) (fun K hK=>?_); go_simp; refine hK _ _ ?_; clear hK K; try simp only [Act.put,qw,qx,qy])
 refine aT (vs:=[.int .i64 y.l0,.int .i64 y.l1,.int .i64 y.m0,.int .i64 y.m1,.int .i64 y.p0,.int .i64 y.p1,.int .i64 y.turn,.int .i64 y.since,.bool y.st,.int .i64 y.ak]) (by rfl) 67 (.tmp 5) (.tmp 19) (by rfl) (w.heap.size+1) (by rfl) (by rfl) HY1.out rfl (by kernel_rfl) (by rfl) ?_
 have HY2:=hid (HY1.out.store (vs:=[.int .i64 y.l0,.int .i64 y.l1,.int .i64 y.m0,.int .i64 y.m1,.int .i64 y.p0,.int .i64 y.p1,.int .i64 y.turn,.int .i64 y.since,.bool y.st,.int .i64 y.ak]) rfl)
 have jH:=hid (dn.out.held ((Fr.refl (fun k=>k=w.heap.size+1) w1).setCells (b:=w.heap.size+1) rfl 0 [.int .i64 y.l0,.int .i64 y.l1,.int .i64 y.m0,.int .i64 y.m1,.int .i64 y.p0,.int .i64 y.p1,.int .i64 y.turn,.int .i64 y.since,.bool y.st,.int .i64 y.ak]) (by omega))
 have HB2:=hid (below_setCells HB1.out (show w.heap.size≤w.heap.size+1 by omega) 0 [.int .i64 y.l0,.int .i64 y.l1,.int .i64 y.m0,.int .i64 y.m1,.int .i64 y.p0,.int .i64 y.p1,.int .i64 y.turn,.int .i64 y.since,.bool y.st,.int .i64 y.ak])
 refine pW ?_
 intro w2 e2
 rw [← e2] at HY2 jH HB2
 clear e2 HY1 dn HB1
 have y6:=HY2.out.cell 6 rfl
 have y9:=HY2.out.cell 9 rfl
 have yq:=HY2.out.cell q HLv.out
 by_cases hf:y.ak<0
 ·by_cases ht:(q:Int)=y.turn
  ·have HV:Hid (aan CR y (q:Int) now=lv - kK CR y now):=hid (by rw [HD.out,if_pos ⟨hf,ht⟩])
   have htb:((q:Int) == y.turn)=true:=by simpa using ht
   have hwr:IntKind.i64.wrap (lv - clk.dI y.st CR.delay y.since now)=lv - kK CR y now:=by
    show IntKind.i64.wrap (lv - kK CR y now)=_
    rw [IntKind.wrap_i64] <;> omega
   clear ht
   go_upto_region 7 with (fail)
   clear y6 y9 yq
   generalize w2=wq at *
   have Xz:=jH.out.drew
   have Yz:=HY2.out.drew
   have Lz:Below w.heap.size w wq.drew:=aA HB2.out
   clear jH HY2 HB2
   refine wp_region_noPanic ?_
   refine bG (S:=(fun w'=>w'.cell? ⟨w.heap.size,0,none⟩=some (.slice pa CR.ps.length pc)∧w'.cell? ⟨w.heap.size,1,none⟩=some (.int .i64 CR.inc)∧w'.cell? ⟨w.heap.size,2,none⟩=some (.int .i64 CR.delay)∧w'.cell? ⟨w.heap.size+1,0,none⟩=some (.int .i64 y.l0)∧w'.cell? ⟨w.heap.size+1,1,none⟩=some (.int .i64 y.l1)∧w'.cell? ⟨w.heap.size+1,2,none⟩=some (.int .i64 y.m0)∧w'.cell? ⟨w.heap.size+1,3,none⟩=some (.int .i64 y.m1)∧w'.cell? ⟨w.heap.size+1,4,none⟩=some (.int .i64 y.p0)∧w'.cell? ⟨w.heap.size+1,5,none⟩=some (.int .i64 y.p1)∧w'.cell? ⟨w.heap.size+1,6,none⟩=some (.int .i64 y.turn)∧w'.cell? ⟨w.heap.size+1,7,none⟩=some (.int .i64 y.since)∧w'.cell? ⟨w.heap.size+1,8,none⟩=some (.bool y.st)∧w'.cell? ⟨w.heap.size+1,9,none⟩=some (.int .i64 y.ak)∧w'.cell? ⟨w.heap.size+1,q,none⟩=some (.int .i64 lv))) (L:=[]) (by kernel_rfl) ⟨Xz.cell 0 rfl,Xz.cell 1 rfl,Xz.cell 2 rfl,Yz.cell 0 rfl,Yz.cell 1 rfl,Yz.cell 2 rfl,Yz.cell 3 rfl,Yz.cell 4 rfl,Yz.cell 5 rfl,Yz.cell 6 rfl,Yz.cell 7 rfl,Yz.cell 8 rfl,Yz.cell 9 rfl,Yz.cell q HLv.out⟩ (fun hHeld=>?_)
   refine aF 0 ?_
   refine aF 1 ?_
   refine dL 4 ?_
   refine dL 5 ?_
   refine aF 6 ?_
   refine aF 2 ?_
   refine dL 3 ?_
   refine dO 7 fun K hK=>?_
   go_simp
   refine (clk.pV pa CR.ps.length pc CR.inc CR.delay y.l0 y.l1 y.m0 y.m1 y.p0 y.p1 y.turn y.since y.ak y.st now _ HG.out.s.1 HG.out.s.2 HCr.out.del.1 HCr.out.del.2 HNw.out.1 HNw.out.2).mono ?_
   rintro e w9 ⟨rfl,hw9⟩
   have Eu:Below wq.drew.heap.size wq.drew w9:=by rw [← hw9]; exact ((Below.refl _ _).alloc (Nat.le_refl _) _).alloc (by simp) _
   clear hw9
   have X9:=Xz.stays Eu
   have o9:=Yz.stays Eu
   have L9:=Lz.trans (Eu.mono Lz.size)
   refine hK.out _ _ ⟨X9.cell 0 rfl,X9.cell 1 rfl,X9.cell 2 rfl,o9.cell 0 rfl,o9.cell 1 rfl,o9.cell 2 rfl,o9.cell 3 rfl,o9.cell 4 rfl,o9.cell 5 rfl,o9.cell 6 rfl,o9.cell 7 rfl,o9.cell 8 rfl,o9.cell 9 rfl,o9.cell q HLv.out⟩ (fun hHeld=>?_)
   clear hK K
   refine aF 8 ?_
   refine aF 9 ?_
   refine aF 10 ?_
   refine iE ?_
   have bI:=hid L9
   clear hHeld X9 o9 L9 Xz Yz Lz Eu
   go_wp2_with fail
   go_ret2
   exact ⟨by rw [HV.out]; rfl,bI.out⟩
  ·have HV:Hid (aan CR y (q:Int) now=lv):=hid (by rw [HD.out,if_neg (fun h=>ht h.2)])
   have htb:((q:Int) == y.turn)=false:=by simpa using ht
   clear ht
   go_wp2_with fail
   go_ret2
   exact ⟨by rw [HV.out]; rfl,HB2.out⟩
 ·have HV:Hid (aan CR y (q:Int) now=lv):=hid (by rw [HD.out,if_neg (fun h=>hf h.1)])
  go_wp2_with fail
  go_ret2
  exact ⟨by rw [HV.out]; rfl,HB2.out⟩
end Go.Proofs.YtmabaojkignodaaGreatDoor
