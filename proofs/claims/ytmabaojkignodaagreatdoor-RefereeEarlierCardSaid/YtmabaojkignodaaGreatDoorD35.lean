/- ReF, ReJ, ReE, OpenR, OpenM, OpenP, OpenV. -/
import Derived.Test.YtmabaojkignodaaGreatDoorD34
import Derived.Deep.LoopGhost
import Derived.Deep.Fields
namespace Go.Proofs.YtmabaojkignodaaGreatDoor
open Go.ChangeShapes Go.WideShapes Go.ChangeAt Go.RowKit
set_option linter.unusedVariables false
open Go.Lib (hid)
def aar (ce:Int) (D:Nat→Bool) (n:Nat) (e:Ending):Prop:=
 (ce≠0∧e=.returned (.tuple #[.int .i64 0,.int .i64 ce]))∨(ce=0∧((∃ i:Nat,i<n∧D i=true∧(∀ j,j<i→D j=false)∧e=.returned (.tuple #[.int .i64 (i:Int),.int .i64 0]))∨((∀ j,j<n→D j=false)∧e=.returned (.tuple #[.int .i64 0,.int .i64 8]))))
set_option maxRecDepth 100000 in
set_option maxHeartbeats 16000000 in
theorem aaN (HL:LdS) (R:aC) (CR:nJ) (vp vs ve:Value) (pa:Option Addr) (pc:Nat) (es:List iY) (vj:Value) (kd ev pl nn:Int) (m:aN) (w:World) (hr:ru w R vp vs ve) (hnm:R.name.size≤maxLen) (hp:clk.dV w w.heap.size pa CR.ps.length CR.ps) (h1:CR.ps.length≤pc) (h2:pc≤maxLen)
  (hre:aW R=0) (hro:clk.cu CR.ps.length CR.inc CR.delay CR.ps) (hj:zL w vj (goes (dh R CR 0) es).jr) (hacc:nP (dh R CR 0) es) (hok:∀ e∈es,wW e) (hle:es.length≤60) (ht:Tab w.heap.size w) (hm:LY w.heap.size w) :
  Calls Tryz.prog 25 #[.agg #[.string R.name,.int .i64 R.width,.int .i64 R.height,vp,vs,.bool R.falls,.bool R.keeps,ve,.int .i64 R.blocked,.int .i64 R.quiet,.int .i64 R.bF],.agg #[.slice pa CR.ps.length pc,.int .i64 CR.inc,.int .i64 CR.delay],vj,.agg #[.int .i64 kd,.int .i64 ev,.int .i64 pl,.int .i64 nn,.int .i64 m.src,.int .i64 m.dst,.int .i64 m.piece]] w fun e w'=>aar (aad kd 0 pl nn (es.length+1)) (aah CR (dh R CR 0) es kd pl nn m) (es.length+1) e∧Below w.heap.size w w':=by
 have HRp:Hid (∀ w1,Below w.heap.size w w1→Calls Tryz.prog 63 #[.agg #[.string R.name,.int .i64 R.width,.int .i64 R.height,vp,vs,.bool R.falls,.bool R.keeps,ve,.int .i64 R.blocked,.int .i64 R.quiet,.int .i64 R.bF],.agg #[.slice pa CR.ps.length pc,.int .i64 CR.inc,.int .i64 CR.delay],vj] w1 (BK (dh R CR 0) es w1)):=hid (fun w1 hb=>KF HL R CR vp vs ve pa pc es vj w1 (hr.below hb (Nat.le_refl _)) hnm (hp.below hb) h1 h2 hre hro (hj.below hb (Nat.le_refl _)) hacc hok hle (ht.mono hb.size hb) ((hm.below hb).mono hb.size))
 have HDk:Hid (∀ (v:Value) (bb:Nat) (l:List qX) (i:Nat) (w1:World),aak CR (dh R CR 0) es bb v l w1→Below w.heap.size w w1→i<es.length+1→(0≤kd∧kd≤4)→(kd=4→nn=0∨nn=1)→(pl=0∨pl=1)→Calls Tryz.prog 65 #[.agg #[.string R.name,.int .i64 R.width,.int .i64 R.height,vp,vs,.bool R.falls,.bool R.keeps,ve,.int .i64 R.blocked,.int .i64 R.quiet,.int .i64 R.bF],.agg #[.slice pa CR.ps.length pc,.int .i64 CR.inc,.int .i64 CR.delay],v,.agg #[.int .i64 kd,.int .i64 (i:Int),.int .i64 pl,.int .i64 nn,.int .i64 m.src,.int .i64 m.dst,.int .i64 m.piece]] w1 fun e w'=>e=.returned (.bool (aah CR (dh R CR 0) es kd pl nn m i))∧Below w1.heap.size w1 w'):=
  hid (fun v bb l i w1 hmz hb hi hk hn hq=>aaj HL.so R CR vp vs ve pa pc es v bb l i kd pl nn m w1 (hr.below hb (Nat.le_refl _)) hmz (aaq hnm hro hok) hacc hle hi hk hn hq (xU.of hro) (hp.below hb))
 obtain ⟨D,hD⟩:∃ D,aah CR (dh R CR 0) es kd pl nn m=D:=⟨_,rfl⟩
 rw [hD] at HDk ⊢
 obtain ⟨ce,hce⟩:∃ ce,aad kd 0 pl nn (es.length+1)=ce:=⟨_,rfl⟩
 rw [hce]
 have HCe:=hid hce
 have I7:=hid hle
 clear HL hr hnm hp h1 h2 hre hro hj hacc hok hle ht hm hD hce
 generalize dh R CR 0=M0 at *
 go_enter Tryz.func25,Tryz.ntmps25
 go_upto_region 1 with (fail)
 have HX0:=hid (((Box.new' w w.heap.size [.string R.name,.int .i64 R.width,.int .i64 R.height,vp,vs,.bool R.falls,.bool R.keeps,ve,.int .i64 R.blocked,.int .i64 R.quiet,.int .i64 R.bF] 46 rfl).alloc (.cells #[.slice pa CR.ps.length pc,.int .i64 CR.inc,.int .i64 CR.delay] 49)).alloc (.cells #[.int .i64 kd,.int .i64 ev,.int .i64 pl,.int .i64 nn,.int .i64 m.src,.int .i64 m.dst,.int .i64 m.piece] 86))
 have dn:=hid ((Box.new' (w.alloc (.cells #[.string R.name,.int .i64 R.width,.int .i64 R.height,vp,vs,.bool R.falls,.bool R.keeps,ve,.int .i64 R.blocked,.int .i64 R.quiet,.int .i64 R.bF] 46)) (w.heap.size+1) [.slice pa CR.ps.length pc,.int .i64 CR.inc,.int .i64 CR.delay] 49 (by simp)).alloc (.cells #[.int .i64 kd,.int .i64 ev,.int .i64 pl,.int .i64 nn,.int .i64 m.src,.int .i64 m.dst,.int .i64 m.piece] 86))
 have jH:=hid (Box.new' ((w.alloc (.cells #[.string R.name,.int .i64 R.width,.int .i64 R.height,vp,vs,.bool R.falls,.bool R.keeps,ve,.int .i64 R.blocked,.int .i64 R.quiet,.int .i64 R.bF] 46)).alloc (.cells #[.slice pa CR.ps.length pc,.int .i64 CR.inc,.int .i64 CR.delay] 49)) (w.heap.size+2) [.int .i64 kd,.int .i64 ev,.int .i64 pl,.int .i64 nn,.int .i64 m.src,.int .i64 m.dst,.int .i64 m.piece] 86 (by simp))
 have HB:Hid (Below w.heap.size w (((w.alloc (.cells #[.string R.name,.int .i64 R.width,.int .i64 R.height,vp,vs,.bool R.falls,.bool R.keeps,ve,.int .i64 R.blocked,.int .i64 R.quiet,.int .i64 R.bF] 46)).alloc (.cells #[.slice pa CR.ps.length pc,.int .i64 CR.inc,.int .i64 CR.delay] 49)).alloc (.cells #[.int .i64 kd,.int .i64 ev,.int .i64 pl,.int .i64 nn,.int .i64 m.src,.int .i64 m.dst,.int .i64 m.piece] 86))):=hid ((((Below.refl w.heap.size w).alloc (Nat.le_refl _) _).alloc (by simp) _).alloc (by simp; omega) _)
 have HZ:Hid (w.heap.size+3≤(((w.alloc (.cells #[.string R.name,.int .i64 R.width,.int .i64 R.height,vp,vs,.bool R.falls,.bool R.keeps,ve,.int .i64 R.blocked,.int .i64 R.quiet,.int .i64 R.bF] 46)).alloc (.cells #[.slice pa CR.ps.length pc,.int .i64 CR.inc,.int .i64 CR.delay] 49)).alloc (.cells #[.int .i64 kd,.int .i64 ev,.int .i64 pl,.int .i64 nn,.int .i64 m.src,.int .i64 m.dst,.int .i64 m.piece] 86)).heap.size):=hid (by simp)
 generalize (((w.alloc (.cells #[.string R.name,.int .i64 R.width,.int .i64 R.height,vp,vs,.bool R.falls,.bool R.keeps,ve,.int .i64 R.blocked,.int .i64 R.quiet,.int .i64 R.bF] 46)).alloc (.cells #[.slice pa CR.ps.length pc,.int .i64 CR.inc,.int .i64 CR.delay] 49)).alloc (.cells #[.int .i64 kd,.int .i64 ev,.int .i64 pl,.int .i64 nn,.int .i64 m.src,.int .i64 m.dst,.int .i64 m.piece] 86))=w0 at *
 refine wp_region_lit ?_
 refine aB (by rfl) 46 (.tmp 4) (by rfl) (w.heap.size) (by rfl) HX0.out Tryz.underlying46 (by rfl) (by kernel_rfl) ?_
 refine aB (by rfl) 49 (.tmp 5) (by rfl) (w.heap.size+1) (by rfl) dn.out Tryz.underlying49 (by rfl) (by kernel_rfl) ?_
 go_wp2_with fail
 refine (HRp.out w0 HB.out).mono ?_
 rintro e w1 ⟨v,l,rfl,hb1,ho1,hp1,hk1,hms⟩
 obtain ⟨va,vc,rfl⟩:=aI ho1
 have HB1:=hid (HB.out.trans (hb1.mono HB.out.size))
 have oC:=hid (HX0.out.stays hb1)
 have dZ:=hid (dn.out.stays hb1)
 have Hq:=hid (jH.out.stays hb1)
 have HMm:Hid (aak CR M0 es w0.heap.size (.slice va (es.length+1) vc) l w1):=hid ⟨ho1,hp1,hk1,hms⟩
 have HBs:Hid (w.heap.size+3≤w0.heap.size):=HZ
 clear hb1 ho1 hp1 hk1 hms HX0 dn jH HRp HB HZ
 have d1:=Hq.out.cell 1 rfl
 have Jl:=Hq.out.frozen 1
 go_upto_region 5 with (fail)
 refine wU ?_
 intro w2 e2
 have hf2:Fr (fun k=>k=w.heap.size+2) w1 w2:=by rw [e2]; exact (Fr.refl (fun k=>k=w.heap.size+2) _).setCell (p:=⟨w.heap.size+2,1,none⟩) rfl _
 have Vr:Hid (Box w2 (w.heap.size+2) [.int .i64 kd,.int .i64 0,.int .i64 pl,.int .i64 nn,.int .i64 m.src,.int .i64 m.dst,.int .i64 m.piece] 86):=hid (by rw [e2]; exact Hq.out.set 1 _)
 have HB2:Hid (Below w.heap.size w w2):=hid (by rw [e2]; exact HB1.out.setCell (p:=⟨w.heap.size+2,1,none⟩) (by show w.heap.size≤w.heap.size+2; omega) _)
 have Ol:=hid (oC.out.held hf2 (by omega))
 have Om:=hid (dZ.out.held hf2 (by omega))
 have aaX:=hid (HMm.out.far hf2 (fun q hq=>by have:=HBs.out; omega))
 clear e2 hf2 d1 Jl oC dZ Hq HB1 HMm
 refine wp_region_lit ?_
 refine aB (by rfl) 86 (.tmp 7) (by rfl) (w.heap.size+2) (by rfl) Vr.out Tryz.underlying86 (by rfl) (by kernel_rfl) ?_
 go_wp2_with fail
 refine (check_any kd 0 pl nn m (es.length+1) w2).mono ?_
 rintro e w3 ⟨rfl,hb3⟩
 rw [HCe.out]
 have HB3:=hid (HB2.out.trans (hb3.mono HB2.out.size))
 have ab9:=hid (Ol.out.stays hb3)
 have acd:=hid (Om.out.stays hb3)
 have ad2:=hid (Vr.out.stays hb3)
 have ad3:=hid (aaX.out.below hb3)
 clear hb3 Ol Om Vr HB2 aaX
 by_cases hz:ce=0
 rotate_left
 ·have hzb:(ce != 0)=true:=by simpa using hz
  have HZ:=hid hz
  clear hz
  go_wp2_with fail
  go_ret2
  exact ⟨.inl ⟨HZ.out,rfl⟩,HB3.out⟩
 subst hz
 have CX:=hid (aae HCe.out)
 go_wp2_with fail
 go_loopg [31] (es.length+2) (fun gk s31 wr=>∃ (i:Nat),i≤es.length+1∧gk=es.length+2 - i∧(∀ j,j<i→D j=false)∧Hid (Box wr (w.heap.size+2) [.int .i64 kd,.int .i64 (i:Int),.int .i64 pl,.int .i64 nn,.int .i64 m.src,.int .i64 m.dst,.int .i64 m.piece] 86)∧Hid (Box wr w.heap.size [.string R.name,.int .i64 R.width,.int .i64 R.height,vp,vs,.bool R.falls,.bool R.keeps,ve,.int .i64 R.blocked,.int .i64 R.quiet,.int .i64 R.bF] 46)∧Hid (Box wr (w.heap.size+1) [.slice pa CR.ps.length pc,.int .i64 CR.inc,.int .i64 CR.delay] 49)∧Hid (Below w.heap.size w wr)∧Hid (aak CR M0 es w0.heap.size (.slice va (es.length+1) vc) l wr))
 case atStart=>exact ⟨0,Nat.zero_le _,rfl,fun j hj=>by omega,ad2,ab9,acd,HB3,ad3⟩
 clear ad2 ab9 acd HB3 ad3
 case round =>
  obtain ⟨i,hi,hgk,hDj,jH,HX0,dn,HB,HMm⟩:=hrel
  have d1:=jH.out.cell 1 rfl
  by_cases hlt:i<es.length+1
  ·have Uy:(i:Int)<((es.length+1:Nat):Int):=by omega
   have al7:(i:Int)<(es.length:Int)+1:=by omega
   have HDc:=hid (HDk.out _ _ l i wr HMm.out HB.out hlt CX.out.1 CX.out.2.2.2 CX.out.2.1)
   have HDj:=hid hDj
   clear hDj
   have ahd:=jH.out.frozen 1
   go_upto_region 10 with (fail)
   refine wp_region_lit ?_
   refine aB (by rfl) 46 (.tmp 4) (by rfl) (w.heap.size) (by rfl) HX0.out Tryz.underlying46 (by rfl) (by kernel_rfl) ?_
   refine aB (by rfl) 49 (.tmp 5) (by rfl) (w.heap.size+1) (by rfl) dn.out Tryz.underlying49 (by rfl) (by kernel_rfl) ?_
   try simp only [Act.put,List.setIfInBounds_toArray,List.set_cons_zero,List.set_cons_succ]
   refine wpList_plain (by rfl) (fun K hK=>?_)
   go_simp
   refine hK _ _ ?_
   clear hK K
   try simp only [Act.put,List.setIfInBounds_toArray,List.set_cons_zero,List.set_cons_succ]
   refine aB (by rfl) 86 (.tmp 7) (by rfl) (w.heap.size+2) (by rfl) jH.out Tryz.underlying86 (by rfl) (by kernel_rfl) ?_
   go_wp2_with fail
   refine HDc.out.mono ?_
   rintro e w4 ⟨rfl,hb4⟩
   have HB4:=hid (HB.out.trans (hb4.mono HB.out.size))
   have abQ:=hid (jH.out.stays hb4)
   have afu:=hid (HX0.out.stays hb4)
   have afv:=hid (dn.out.stays hb4)
   have ahe:=hid (HMm.out.below hb4)
   clear hb4 HB jH HX0 dn HMm d1 ahd HDc
   have d1:=abQ.out.cell 1 rfl
   have Jl:=abQ.out.frozen 1
   by_cases hd:D i=true
   ·rw [hd]
    have HDi:=hid hd
    clear hd
    go_wp2_with fail
    go_ret2
    exact ⟨.inr ⟨rfl,.inl ⟨i,hlt,HDi.out,HDj.out,rfl⟩⟩,HB4.out⟩
   ·have hdf:D i=false:=by simpa using hd
    rw [hdf]
    have HDi:=hid hdf
    have ad5:i+1≤100000000:=by have:=I7.out; omega
    clear hd hdf
    go_wp2_with fail
    have hf5:Fr (fun k=>k=w.heap.size+2) w4 (w4.setCell ⟨w.heap.size+2,1,none⟩ (.int .i64 ((i:Int)+1))):=(Fr.refl (fun k=>k=w.heap.size+2) _).setCell (p:=⟨w.heap.size+2,1,none⟩) rfl _
    have abE:Hid (Box (w4.setCell ⟨w.heap.size+2,1,none⟩ (.int .i64 ((i:Int)+1))) (w.heap.size+2) [.int .i64 kd,.int .i64 ((i+1:Nat):Int),.int .i64 pl,.int .i64 nn,.int .i64 m.src,.int .i64 m.dst,.int .i64 m.piece] 86):=hid (abQ.out.set 1 (.int .i64 ((i:Int)+1)))
    go_roundg (es.length+2 - (i+1))
    case measure=>omega
    case rel=>exact ⟨i+1,by omega,rfl,fun j hj=>by
     rcases Nat.lt_or_ge j i with h | h
     ·exact HDj.out j h
     ·obtain rfl:j=i:=by omega
      exact HDi.out,abE,hid (afu.out.held hf5 (by omega)),hid (afv.out.held hf5 (by omega)),hid (HB4.out.setCell (p:=⟨w.heap.size+2,1,none⟩) (by show w.heap.size≤w.heap.size+2; omega) _),hid (ahe.out.far hf5 (fun q hq=>by have:=HBs.out; omega))⟩
  obtain rfl:i=es.length+1:=by omega
  have Uy:¬ (((es.length+1:Nat):Int)<((es.length+1:Nat):Int)):=by omega
  have HDj:=hid hDj
  clear hDj
  go_wp2_with fail
  go_ret2
  exact ⟨.inr ⟨rfl,.inr ⟨HDj.out,rfl⟩⟩,HB.out⟩
theorem ZF:aW fJ=0:=by decide +kernel
theorem ZG:kS (dh fJ nO 0) 0 ⟨-1,0,0⟩=true:=by
 rw [Wv]
 have h3:(⟨-1,0,0⟩:aN)∈iF fJ (bn fJ []):=vW.2 (by decide +kernel)
 show (((0:Int) == 0) && (((bn fJ []).turn == 0) && decide ((⟨-1,0,0⟩:aN)∈iF fJ (bn fJ []))))=true
 rw [show ((bn fJ []).turn == 0)=true from rfl]
 simp [h3]
theorem WM {CR:nJ} (h:xU CR):clk.cu CR.ps.length CR.inc CR.delay CR.ps:=by
 refine ⟨h.n,h.inc,h.del,fun k hk=>?_⟩
 have hz:=h.pz k hk
 unfold clk.jT
 rw [clk.dU (h.pm k hk),clk.dU (h.pt k hk),Bool.true_and,Bool.true_and,beq_iff_eq]
 by_cases h0:(CR.ps.getD k (0,0)).1=0
 ·have:=hz.1 h0
  rw [show ((CR.ps.getD k (0,0)).1 == 0)=true by simpa using h0,show ((k:Int) == (CR.ps.length:Int) - 1)=true by simp; omega]
 ·have:¬ (k+1=CR.ps.length):=fun hc=>h0 (hz.2 hc)
  rw [show ((CR.ps.getD k (0,0)).1 == 0)=false by simpa using h0,show ((k:Int) == (CR.ps.length:Int) - 1)=false by simp; omega]
set_option maxRecDepth 100000 in
set_option maxHeartbeats 8000000 in
theorem abn (HL:LdS) (w:World) (ht:Tab w.heap.size w) (hm:LY w.heap.size w):Calls Tryz.prog 22 #[] w fun e w'=>e=.returned (.bool true)∧Below w.heap.size w w':=by
 have HS:=hid HL
 have nT:=hid ht
 have Uz:=hid hm
 clear HL ht hm
 go_enter Tryz.func22,Tryz.ntmps22
 go_upto_region 1 with (fail)
 go_wp2_with fail
 refine (zJ _).mono ?_
 rintro e w1 ⟨vp,vs,ve,rfl,hr,hb1⟩
 have HR:=hid hr
 have HB1:=hid hb1
 clear hr hb1
 go_wp2_with fail
 refine (BA _).mono ?_
 rintro e w2 ⟨rfl,hp,hb2⟩
 have HR2:=hid (HR.out.below hb2 (Nat.le_refl _))
 have HB2:=hid (HB1.out.trans (hb2.mono HB1.out.size))
 have HP:=hid hp
 have HT2:=hid (nT.out.mono HB2.out.size HB2.out)
 have hpm:w1.heap.size+1<w2.heap.size:=by
  obtain ⟨g,o,hg,hlt,_⟩:=hp.2 (by decide)
  cases hg
  exact hlt
 clear hb2 hp HR
 go_wp2_with fail
 refine (BF HS.out.so HS.out.it fJ nO vp vs ve (some ⟨w1.heap.size+1,0,none⟩) 1 0 w2 HR2.out (by decide +kernel) HP.out (by decide) (by decide) (by decide) (by decide) HT2.out).mono ?_
 rintro e w3 (⟨c,⟨_,hbad⟩,rfl,_⟩ | ⟨_,hcg,base,S,b,B,rfl,hm,hb0,hb1,hb3⟩)
 ·exact absurd hbad TP
 have HM:=hid hm
 have HB3:=hid (HB2.out.trans (hb3.mono HB2.out.size))
 clear hm hb0 hb1 hb3 HR2 HP HT2 HB2 hpm
 go_upto_region 4 with (fail)
 go_wp2_with fail
 refine (zJ _).mono ?_
 rintro e w4 ⟨vp2,vs2,ve2,rfl,hr4,hb4⟩
 have HR4:=hid hr4
 have HB4:=hid (HB3.out.trans (hb4.mono HB3.out.size))
 have qh:=hid (HM.out.below hb4)
 clear hr4 hb4 HM HB3
 go_wp2_with fail
 refine (BA _).mono ?_
 rintro e w5 ⟨rfl,hp5,hb5⟩
 have Us:=hid (HR4.out.below hb5 (Nat.le_refl _))
 have mW:=hid (HB4.out.trans (hb5.mono HB4.out.size))
 have zu:=hid (qh.out.below hb5)
 have HP5:=hid hp5
 clear hp5 hb5 qh HR4 HB4
 go_wp2_with fail
 refine (yU w5 zu.out (by rw [Y8]; decide)).mono ?_
 rintro e w6 ⟨v6,rfl,hj6,hb6⟩
 have CU:=hid (Us.out.below hb6 (Nat.le_refl _))
 have zD:=hid (mW.out.trans (hb6.mono mW.out.size))
 have HJ6:=hid (show zL w6 v6 (dh fJ nO 0).jr from Rd.fD hj6)
 have HP6:=hid (HP5.out.below hb6)
 clear hj6 hb6 zu Us mW HP5
 go_wp2_with fail
 refine (acs 0 _).mono ?_
 rintro e w7 ⟨rfl,hb7⟩
 have AZ:=hid (CU.out.below hb7 (Nat.le_refl _))
 have uD:=hid (zD.out.trans (hb7.mono zD.out.size))
 have HJ7:=hid (HJ6.out.below hb7 (Nat.le_refl _))
 have HP7:=hid (HP6.out.below hb7)
 have HD:=hid (aaf HS.out fJ nO vp2 vs2 ve2 (some ⟨w4.heap.size+1,0,none⟩) 1 [] v6 0 0 0 0 ⟨-1,0,0⟩ w7 AZ.out (by decide +kernel) HP7.out (by decide) (by decide) ZF ZC HJ7.out trivial (fun e he=>by cases he) (by simp) (nT.out.mono uD.out.size uD.out) ((Uz.out.below uD.out).mono uD.out.size))
 rw [show aad 0 0 0 0 (([]:List iY).length+1)=0 by decide,show aah nO (dh fJ nO 0) [] 0 0 0 ⟨-1,0,0⟩ (0:Int).toNat=true from ZG] at HD
 clear hb7 CU zD HJ6 HP6 AZ HJ7 HP7
 go_wp2_with fail
 refine HD.out.mono ?_
 rintro e w8 ⟨rfl,hb8⟩
 have HB8:=hid (uD.out.trans (hb8.mono uD.out.size))
 clear hb8
 go_wp2_with fail
 go_ret
 exact ⟨rfl,HB8.out⟩
theorem aay (M0:aG) (es:List iY):∀ i,Md M0 (es.take i) i=Md M0 es i
 | 0=>rfl
 | i+1=>by
  show ((es.take (i+1)).getD i default).now=(es.getD i default).now
  rw [List.getD_eq_getElem?_getD,List.getD_eq_getElem?_getD,List.getElem?_take,if_pos (by omega)]
theorem aaP (CR:nJ) (M0:aG) (es:List iY) (kd pl nn:Int) (m:aN) (i:Nat):aah CR M0 (es.take i) kd pl nn m i=aah CR M0 es kd pl nn m i:=by
 unfold aah
 rw [aay,List.take_take,List.take_take,Nat.min_self,Nat.min_eq_left (by omega)]
theorem abt {w w':World} {S:Nat→Prop} {g o k c:Nat} {J:List iL} (h:zL w (.slice (some ⟨g,o,none⟩) k c) J) (hf:Fr S w w') (hS:¬ S g):zL w' (.slice (some ⟨g,o,none⟩) k c) J:=by
 refine ⟨h.1,?_⟩
 rcases h.2 with h0 | ⟨g2,o2,c2,hv,h1,h2,hc⟩
 ·exact .inl h0
 ·have hg:g=g2:=by
   injection hv with e1
   injection e1 with e1
   injection e1 with e1
  subst hg
  refine .inr ⟨g,o2,c2,hv,h1,h2,fun i hi=>?_⟩
  have hx:=hc i hi
  rw [List.getElem?_eq_getElem (by rw [h.1]; exact hi)] at hx
  have hlt:=World.block_lt_of_cell? w _ hx
  rw [World.cell?_of_block (a:=⟨g,o2+i,none⟩) (hf.block g hlt hS)]
  exact hc i hi
def aaw (ce:Int) (D:Nat→Bool) (n:Nat) (at' g':Int):Prop:=
 (ce≠0∧at'=0∧g'=ce)∨(ce=0∧((∃ i:Nat,i<n∧D i=true∧(∀ j,j<i→D j=false)∧at'=(i:Int)∧g'=0)∨((∀ j,j<n→D j=false)∧at'=0∧g'=8)))
theorem aaR {ce:Int} {D:Nat→Bool} {n:Nat} {e:Ending} (h:aar ce D n e):∃ at' g',e=.returned (.tuple #[.int .i64 at',.int .i64 g'])∧aaw ce D n at' g':=by
 rcases h with ⟨h1,h2⟩ | ⟨h1,⟨i,h2,h3,h4,h5⟩ | ⟨h2,h3⟩⟩
 ·exact ⟨0,ce,h2,.inl ⟨h1,rfl,rfl⟩⟩
 ·exact ⟨i,0,h5,.inr ⟨h1,.inl ⟨i,h2,h3,h4,rfl,rfl⟩⟩⟩
 ·exact ⟨0,8,h3,.inr ⟨h1,.inr ⟨h2,rfl,rfl⟩⟩⟩
set_option maxRecDepth 100000 in
set_option maxHeartbeats 32000000 in
theorem aat (HL:LdS) (CR:nJ) (pa:Option Addr) (pc:Nat) (vl:Value) (KQ:List iY) (kd ev pl nn:Int) (m:aN) (w:World) (hp:clk.dV w w.heap.size pa CR.ps.length CR.ps) (h1:CR.ps.length≤pc) (h2:pc≤maxLen) (hl:gI TQ w vl KQ) (ht:Tab w.heap.size w) (hm:LY w.heap.size w) :
  Calls Tryz.prog 6 #[.agg #[.slice pa CR.ps.length pc,.int .i64 CR.inc,.int .i64 CR.delay],vl,.agg #[.int .i64 kd,.int .i64 ev,.int .i64 pl,.int .i64 nn,.int .i64 m.src,.int .i64 m.dst,.int .i64 m.piece]] w fun e w'=>e=.returned (.bool true)∧Below w.heap.size w w':=by
 have HS:=hid HL
 have HP:=hid hp
 have iH:=hid (And.intro h1 h2)
 have nT:=hid ht
 have Uz:=hid hm
 obtain ⟨ea,ec,rfl,he1,he2⟩:=hl.form
 unfold maxLen at he2
 obtain ⟨L,hL⟩:∃ L,L=min KQ.length 12:=⟨_,rfl⟩
 have m1:L≤KQ.length:=by omega
 have m2:L≤12:=by omega
 have hmin:(if (12:Int)<(KQ.length:Int) then (12:Int) else (KQ.length:Int))=(L:Int):=by split <;> omega
 have m3:L≤ec:=by omega
 have jy:=hid (hl.take L m1)
 have hgl:(KQ.take L).length=L:=by rw [List.length_take]; omega
 clear HL hp h1 h2 hl ht hL hm
 generalize KQ.take L=evs at jy hgl
 go_enter Tryz.func6,Tryz.ntmps6
 go_upto_region 1 with (fail)
 refine sV fun w0 jU DJ dM hs_=>?_
 have HX:=hid jU
 have HQ:=hid DJ
 have HB:=hid dM
 clear hs_ jU DJ dM
 go_wp2_with fail
 refine (abn HS.out w0 (nT.out.mono HB.out.size HB.out) ((Uz.out.below HB.out).mono HB.out.size)).mono ?_
 rintro e w1 ⟨rfl,hb1⟩
 have HB1:=hid (HB.out.trans (hb1.mono HB.out.size))
 have dn:=hid (HX.out.stays hb1)
 have HQ1:=hid (HQ.out.stays hb1)
 clear hb1 HX HQ HB
 go_upto_region 4 with (fail)
 clear hmin
 generalize w1=wq at *
 have Xz:=dn.out.drew
 have aac:=HQ1.out.drew
 have Lz:Below w.heap.size w wq.drew:=aA HB1.out
 clear dn HQ1 HB1
 refine wp_region_noPanic ?_
 refine bG (S:=(fun w'=>w'.cell? ⟨w.heap.size,0,none⟩=some (.slice pa CR.ps.length pc)∧w'.cell? ⟨w.heap.size,1,none⟩=some (.int .i64 CR.inc)∧w'.cell? ⟨w.heap.size,2,none⟩=some (.int .i64 CR.delay))) (L:=[]) (by kernel_rfl) (by and_intros <;> exact Xz.cell _ rfl) (fun hHeld=>?_)
 refine dL 1 ?_
 refine dO 0 fun K hK=>?_
 go_simp
 refine (zJ _).mono ?_
 rintro e w2 ⟨vp,vs,ve,rfl,hr2,hb2⟩
 have X2:=Xz.stays hb2
 have Q2:=aac.stays hb2
 have L2:=Lz.trans (hb2.mono Lz.size)
 clear hb2
 refine hK.out _ _ (by and_intros <;> exact X2.cell _ rfl) (fun hHeld=>?_)
 clear hK K
 refine dO 2 fun K hK=>?_
 go_simp
 refine (BF HS.out.so HS.out.it fJ CR vp vs ve pa pc 0 w2 hr2 (by decide +kernel) (HP.out.below L2) iH.out.1 iH.out.2 (by decide) (by decide) (nT.out.mono L2.size L2)).mono ?_
 rintro e w3 (⟨c,⟨hc0,hbad⟩,rfl,hb3⟩ | ⟨hre,hcg,base,S0,b,B0,rfl,hm,hb0,hb1,hb3⟩)
 ·have X3:=X2.stays hb3
  have L3:=L2.trans (hb3.mono L2.size)
  refine hK.out _ _ (by and_intros <;> exact X3.cell _ rfl) (fun hHeld=>?_)
  clear hK K
  refine aF 3 ?_
  refine aF 4 ?_
  refine aF 5 ?_
  refine aF 6 ?_
  refine aF 7 ?_
  refine iE ?_
  have hcb:(c != 0)=true:=by simpa using hc0
  have HB3:=hid L3
  clear hb3 hbad hc0 X3 L3 X2 L2 Xz Lz hr2 hHeld
  go_wp2_with fail
  go_ret
  exact ⟨rfl,HB3.out⟩
 have X3:=X2.stays hb3
 have Q3:=Q2.stays hb3
 have L3:=L2.trans (hb3.mono L2.size)
 refine hK.out _ _ (by and_intros <;> exact X3.cell _ rfl) (fun hHeld=>?_)
 clear hK K
 refine aF 3 ?_
 refine aF 4 ?_
 refine aF 5 ?_
 refine aF 6 ?_
 refine aF 7 ?_
 refine iE ?_
 have HXl:Hid (w.heap.size+1<base):=hid (Nat.lt_of_lt_of_le Q2.lt hb0)
 have CS:=hid X3
 have HQ3:=hid Q3
 have HB3:=hid L3
 have nR:=hid hm
 have qg:=hid (And.intro (Nat.le_trans L2.size hb0) hb1)
 clear hm hb0 hb1 hb3 X3 Q3 L3 X2 Q2 L2 Xz aac Lz hr2 hHeld
 have qW:Hid (aW fJ=0∧clk.cu CR.ps.length CR.inc CR.delay CR.ps):=hid ⟨hre,WM hcg⟩
 have WG:Hid (∀ es,(∀ e∈es,wW e)→MInv (goes (dh fJ CR 0) es)∧(goes (dh fJ CR 0) es).ms.length≤400):=hid (fun es he=>xg es _ (BG fJ CR 0 (by decide +kernel) hcg (by decide) (by decide)) (by rw [KD]; decide) he)
 clear hre hcg
 subst hgl
 have Zf:=hid (fun (W:World) (hb:Below w.heap.size w W)=>jy.out.below hb (Nat.le_refl _))
 have I7:Hid (evs.length≤12):=hid m2
 clear jy m1 m3 he1
 go_wp2_with fail
 go_loopw [37,10] (fun v37 v10 wr=>∃ (k:Nat) (es:List iY) (S:Nat→Prop) (B:jv) (o10:Value),o10=v10∧k≤evs.length∧es.length≤k∧v37=.int .i64 k∧nP (dh fJ CR 0) es∧(∀ e∈es,wW e)∧Hid (aH Ut S base wr b (goes (dh fJ CR 0) es) B)∧Hid (base≤wr.heap.size)∧Hid (Below w.heap.size w wr)∧Hid (Box wr w.heap.size [.slice pa CR.ps.length pc,.int .i64 CR.inc,.int .i64 CR.delay] 49)∧Hid (Box wr (w.heap.size+1) [.int .i64 kd,.int .i64 ev,.int .i64 pl,.int .i64 nn,.int .i64 m.src,.int .i64 m.dst,.int .i64 m.piece] 86)) (fun v _ _=>evs.length - (intOf v).toNat)
 case atStart=>exact ⟨0,[],S0,B0,_,rfl,Nat.zero_le _,Nat.le_refl _,rfl,trivial,(fun e he=>by cases he),nR,hid qg.out.2,HB3,CS,HQ3⟩
 clear nR HB3 CS HQ3
 case round =>
  obtain ⟨k,es,S,B,o10,rfl,hk,hek,rfl,hac,hok,HM,HBs,HBl,HX,HQ⟩:=hrel
  by_cases hlt:k<evs.length
  ·have hlz:(k:Int)<(evs.length:Int):=by omega
   obtain ⟨g,o,rfl,hg,acu,a0,a1,a2,a3,a4,a5,a6⟩:=ZE (Zf.out wr HBl.out) k hlt
   have acv:=hid hac
   have acw:=hid hok
   have acy:=hid acu
   obtain ⟨hi1,hi2⟩:=WG.out es hok
   have hi3:(goes (dh fJ CR 0) es).jr.length<90:=by rw [yA hac]; have:=I7.out; omega
   have LP:k+1≤100000000:=by have:=I7.out; omega
   clear hac hok acu
   generalize evs[k]=x at *
   go_upto_region 10 with (fail)
   have gW:=hid (Box.new wr [.int .i64 x.kind,.int .i64 x.au,.int .i64 x.n,.int .i64 x.now,.int .i64 x.m.src,.int .i64 x.m.dst,.int .i64 x.m.piece] 54)
   have HB1:Hid (Below wr.heap.size wr (wr.alloc (.cells #[.int .i64 x.kind,.int .i64 x.au,.int .i64 x.n,.int .i64 x.now,.int .i64 x.m.src,.int .i64 x.m.dst,.int .i64 x.m.piece] 54))):=hid ((Below.refl wr.heap.size wr).alloc (Nat.le_refl _) _)
   generalize (wr.alloc (.cells #[.int .i64 x.kind,.int .i64 x.au,.int .i64 x.n,.int .i64 x.now,.int .i64 x.m.src,.int .i64 x.m.dst,.int .i64 x.m.piece] 54))=w6 at *
   have OM:=hid (HM.out.below HB1.out)
   have oG:=hid (HX.out.stays HB1.out)
   have HQ6:=hid (HQ.out.stays HB1.out)
   have yJ:=hid (HBl.out.trans (HB1.out.mono HBl.out.size))
   have hb6:base≤w6.heap.size:=Nat.le_trans HBs.out HB1.out.size
   have OH:=hid (nT.out.mono qg.out.1 yJ.out)
   have UC:=hid (KA HS.out.so HS.out.it HS.out.jo x w6 OM.out hb6 hi1 hi3 OH.out acy.out)
   have BU:Hid (∀ q,S q∨one1 b q→q<wr.heap.size∧base≤q):=hid (fun q hq=>⟨HM.out.afU q hq,by rcases hq with hq | hq; (obtain ⟨up,us,ue,vl,vm,rows,hgm⟩:=HM.out.game; exact (hgm.lo q hq).1); (rw [show q=b from hq]; exact HM.out.lo)⟩)
   have e0:=gW.out.cell 0 rfl
   have e1:=gW.out.cell 1 rfl
   have e2:=gW.out.cell 2 rfl
   have e3:=gW.out.cell 3 rfl
   have e4:=gW.out.cell 4 rfl
   have e5:=gW.out.cell 5 rfl
   have e6:=gW.out.cell 6 rfl
   clear hg a0 a1 a2 a3 a4 a5 a6 OH hi1 hi2 hi3
   go_wp2_with fail
   refine UC.out.mono ?_
   rintro e w7 ⟨rfl,S7,B7,XF,hs7,Mc⟩
   have uD:=hid (yJ.out.trans ((aH.base' OM.out Mc hb6).mono qg.out.1))
   have FK:=hid XF
   have hb7:base≤w7.heap.size:=Nat.le_trans hb6 Mc.size
   have VR:=hid (oG.out.held Mc (fun hc=>by
    have h1:=BU.out _ hc
    have h3:=HXl.out
    omega))
   have HQ7:=hid (HQ6.out.held Mc (fun hc=>by
    have h1:=BU.out _ hc
    have h3:=HXl.out
    omega))
   clear XF hs7 Mc UC e0 e1 e2 e3 e4 e5 e6 OM oG HQ6 gW
   by_cases hz:((goes (dh fJ CR 0) es).go x).2=0
   ·have HAc:=hid (SY acv.out hz)
    have ZH:Hid (∀ e∈es++[x],wW e):=hid (fun e he=>by rcases List.mem_append.1 he with h | h; exact acw.out e h; (obtain rfl:e=x:=by simpa using h); exact acy.out)
    rw [← DW] at FK
    clear hz
    generalize ((goes (dh fJ CR 0) es).go x).2=code at *
    go_wp2_with fail
    exact ⟨⟨k+1,es++[x],S7,B7,_,rfl,by omega,by rw [List.length_append]; simp; omega,by go_num,HAc.out,ZH.out,FK,hid hb7,uD,VR,HQ7⟩,by simp [intOf]; omega⟩
   ·rw [SL _ _ hz] at FK
    clear hz
    generalize ((goes (dh fJ CR 0) es).go x).2=code at *
    go_wp2_with fail
    exact ⟨⟨k+1,es,S7,B7,_,rfl,by omega,by omega,by go_num,acv.out,acw.out,FK,hid hb7,uD,VR,HQ7⟩,by simp [intOf]; omega⟩
  obtain rfl:k=evs.length:=by omega
  have hlz:¬ (evs.length:Int)<(evs.length:Int):=by omega
  have HAc:=hid hac
  have CX:=hid hok
  have acz:Hid (es.length≤60):=hid (by have:=I7.out; omega)
  have DV:=hid (yA hac)
  clear hac hok
  go_upto_region 12 with (fail)
  go_wp2_with fail
  refine (yU wr HM.out (by rw [DV.out]; have:=acz.out; omega)).mono ?_
  rintro e w2 ⟨vj,rfl,hj2,hb2⟩
  have HJ2:Hid (zL w2 vj (goes (dh fJ CR 0) es).jr):=hid (Rd.fD hj2)
  have jH:=hid (HX.out.stays hb2)
  have HQ2:=hid (HQ.out.stays hb2)
  have HB2:=hid (HBl.out.trans (hb2.mono HBl.out.size))
  obtain ⟨ja,jc,rfl,ahf,hjm,-⟩:=HJ2.out.form
  unfold maxLen at hjm
  obtain ⟨g,o,rfl,hgw,hjc,-,-⟩:=LZ (es:=es) HJ2.out (by rw [DV.out]; omega)
  rw [DV.out] at hjc
  have hgb:w.heap.size+1<g:=by
   have hq:w.heap.size+1<wr.heap.size:=HQ.out.lt
   rcases hj2.2 with ⟨h0,_⟩ | ⟨g',c',cur,hv,hb',_⟩
   ·cases h0
   ·injection hv with e1
    injection e1 with e1
    injection e1 with e1
    omega
  clear hj2 hb2 HX HQ HM HBl HBs hlz ahf
  obtain ⟨b0,hb0⟩:∃ b0,(decide (aad kd ev pl nn (es.length+1)=0) && aah CR (dh fJ CR 0) es kd pl nn m ev.toNat)=b0:=⟨_,rfl⟩
  have HB0:=hid hb0
  obtain ⟨c0,hc0⟩:∃ c0,aad kd ev pl nn (es.length+1)=c0:=⟨_,rfl⟩
  have HC0:=hid hc0
  obtain ⟨J,hJ⟩:∃ J,(goes (dh fJ CR 0) es).jr=J:=⟨_,rfl⟩
  have HJe:=hid hJ
  rw [hJ] at HJ2 DV ⊢
  clear hb0 hc0 hJ
  rw [DV.out] at HJ2 ⊢
  have hes:es.length≤60:=acz.out
  go_upto_region 13 with (fail)
  generalize w2=wq at *
  have Xz:=jH.out.drew
  have aac:=HQ2.out.drew
  have Lz:Below w.heap.size w wq.drew:=aA HB2.out
  have HJz:=hid (HJ2.out.below (aA (Below.refl _ _)) (Nat.le_refl _))
  clear jH HQ2 HB2 HJ2
  refine wp_region_noPanic ?_
  refine bG (S:=(fun w'=>w'.cell? ⟨w.heap.size,0,none⟩=some (.slice pa CR.ps.length pc)∧w'.cell? ⟨w.heap.size,1,none⟩=some (.int .i64 CR.inc)∧w'.cell? ⟨w.heap.size,2,none⟩=some (.int .i64 CR.delay)∧w'.cell? ⟨w.heap.size+1,0,none⟩=some (.int .i64 kd)∧w'.cell? ⟨w.heap.size+1,1,none⟩=some (.int .i64 ev)∧w'.cell? ⟨w.heap.size+1,2,none⟩=some (.int .i64 pl)∧w'.cell? ⟨w.heap.size+1,3,none⟩=some (.int .i64 nn)∧w'.cell? ⟨w.heap.size+1,4,none⟩=some (.int .i64 m.src)∧w'.cell? ⟨w.heap.size+1,5,none⟩=some (.int .i64 m.dst)∧w'.cell? ⟨w.heap.size+1,6,none⟩=some (.int .i64 m.piece))) (L:=[]) (by kernel_rfl) (by and_intros <;> first | exact Xz.cell _ rfl | exact aac.cell _ rfl) (fun hHeld=>?_)
  refine dL 1 ?_
  refine aF 2 ?_
  refine dL 3 ?_
  refine dO 0 fun K hK=>?_
  go_simp
  refine (zJ _).mono ?_
  rintro e w81 ⟨vp,vs,ve,rfl,aao,hbb⟩
  have X81:=Xz.stays hbb
  have Q81:=aac.stays hbb
  have L81:=Lz.trans (hbb.mono Lz.size)
  have aap:=hbb
  clear hbb
  refine hK.out _ _ (by and_intros <;> first | exact X81.cell _ rfl | exact Q81.cell _ rfl) (fun hHeld=>?_)
  clear hK K
  refine dO 4 fun K hK=>?_
  go_simp
  have b81:Below wq.drew.heap.size wq.drew w81:=aap
  have aai:=HJz.out.below b81 (Nat.le_refl _)
  refine (aaf HS.out fJ CR vp vs ve pa pc es (.slice (some ⟨g,o,none⟩) (es.length+1) jc) kd ev pl nn m w81 aao (by decide +kernel) (HP.out.below L81) iH.out.1 iH.out.2 qW.out.1 qW.out.2 (by rw [HJe.out]; exact aai) HAc.out CX.out acz.out (nT.out.mono L81.size L81) ((Uz.out.below L81).mono L81.size)).mono ?_
  rintro e w82 ⟨rfl,hbb⟩
  rw [HB0.out,HC0.out]
  have X82:=X81.stays hbb
  have Q82:=Q81.stays hbb
  have L82:=L81.trans (hbb.mono L81.size)
  have J82:=aai.below hbb (Nat.le_refl _)
  clear hbb aai b81 aap
  refine hK.out _ _ (by and_intros <;> first | exact X82.cell _ rfl | exact Q82.cell _ rfl) (fun hHeld=>?_)
  clear hK K
  refine aF 5 ?_
  refine aF 6 ?_
  refine aF 7 ?_
  refine aF 8 ?_
  refine aF 9 ?_
  refine iE ?_
  have jH:=hid X82
  have HQ2:=hid Q82
  have HB2:=hid L82
  have HJ2:=hid J82
  clear X82 Q82 L82 J82 X81 Q81 L81 Xz aac Lz HJz aao hHeld
  go_upto_if 56 with (fail)
  go_cut [14,15] (fun v14 v15 wx=>Hid (Box wx w.heap.size [.slice pa CR.ps.length pc,.int .i64 CR.inc,.int .i64 CR.delay] 49)∧Hid (Box wx (w.heap.size+1) [.int .i64 kd,.int .i64 ev,.int .i64 pl,.int .i64 nn,.int .i64 m.src,.int .i64 m.dst,.int .i64 m.piece] 86)∧Hid (Below w.heap.size w wx)∧Hid (zL wx (.slice (some ⟨g,o,none⟩) (es.length+1) jc) J))
  case first =>
   by_cases hz:c0=0
   rotate_left
   ·have hzb:(c0 == 0)=false:=by simpa using hz
    clear hz
    go_wp2_with fail
    go_meet
    exact ⟨jH,HQ2,HB2,HJ2⟩
   subst hz
   have hok2:=aae HC0.out
   obtain ⟨i,rfl⟩:∃ i:Nat,ev=(i:Int):=⟨ev.toNat,by omega⟩
   have hi:i<es.length+1:=by omega
   have ad5:i+1≤100000000:=by omega
   have hic:i+1≤jc:=by omega
   have hwi:IntKind.i64.wrap ((i:Int)+1)=(i:Int)+1:=by rw [IntKind.wrap_i64] <;> omega
   have htn:((i:Int)+1).toNat=i+1:=by omega
   have hlc:(i:Int)+1≤(jc:Int):=by omega
   have hln:¬ ((i:Int)+1<0):=by omega
   have htl:(es.take i).length=i:=by rw [List.length_take]; omega
   have HT1:Hid (aad kd (i:Int) pl nn ((es.take i).length+1)=0):=hid (aax hok2.1 hok2.2.1 ⟨by omega,by rw [htl]; omega⟩ hok2.2.2.2)
   have HT2:Hid ((decide (aad kd (i:Int) pl nn ((es.take i).length+1)=0) && aah CR (dh fJ CR 0) (es.take i) kd pl nn m ((i:Int)).toNat)=b0):=hid (by
    rw [← HB0.out,HC0.out,HT1.out,show ((i:Int)).toNat=i from rfl,aaP])
   have HJt:Hid (∀ W,zL W (.slice (some ⟨g,o,none⟩) (es.length+1) jc) J→zL W (.slice (some ⟨g,o,none⟩) (i+1) jc) (goes (dh fJ CR 0) (es.take i)).jr):=hid (fun W h=>by
    rw [WB HAc.out i,HJe.out]
    rw [← DV.out] at h
    exact h.take (i+1) (by rw [DV.out]; omega))
   clear hok2 htl
   go_upto_region 15 with (fail)
   generalize w82=wq at *
   have Xz:=jH.out.drew
   have aac:=HQ2.out.drew
   have Lz:Below w.heap.size w wq.drew:=aA HB2.out
   have HJz:=hid (HJ2.out.below (aA (Below.refl _ _)) (Nat.le_refl _))
   clear jH HQ2 HB2 HJ2
   refine wp_region_noPanic ?_
   refine bG (S:=(fun w'=>w'.cell? ⟨w.heap.size,0,none⟩=some (.slice pa CR.ps.length pc)∧w'.cell? ⟨w.heap.size,1,none⟩=some (.int .i64 CR.inc)∧w'.cell? ⟨w.heap.size,2,none⟩=some (.int .i64 CR.delay)∧w'.cell? ⟨w.heap.size+1,0,none⟩=some (.int .i64 kd)∧w'.cell? ⟨w.heap.size+1,1,none⟩=some (.int .i64 (i:Int))∧w'.cell? ⟨w.heap.size+1,2,none⟩=some (.int .i64 pl)∧w'.cell? ⟨w.heap.size+1,3,none⟩=some (.int .i64 nn)∧w'.cell? ⟨w.heap.size+1,4,none⟩=some (.int .i64 m.src)∧w'.cell? ⟨w.heap.size+1,5,none⟩=some (.int .i64 m.dst)∧w'.cell? ⟨w.heap.size+1,6,none⟩=some (.int .i64 m.piece))) (L:=[]) (by kernel_rfl) (by and_intros <;> first | exact Xz.cell _ rfl | exact aac.cell _ rfl) (fun hHeld=>?_)
   refine dL 1 ?_
   refine aF 2 ?_
   refine aF 3 ?_
   refine dL 7 ?_
   refine dL 4 ?_
   refine aF 5 ?_
   try simp only [Act.put,qw,qx,qy]
   refine OZ (i:=6) (v:=.slice (some ⟨g,o,none⟩) (i+1) jc) rfl (by kernel_rfl) (by kernel_rfl) (by kernel_rfl) rfl (fun _ _ _ h=>h) (Or.inl ⟨by rfl,?ad7⟩) (fun _=>by assumption) ?ajN
   case ad7=>(intro w _; go_simp; first | done | (with_reducible rfl) | (rw [if_neg (by omega)]))
   refine dO 0 fun K hK=>?_
   go_simp
   refine (zJ _).mono ?_
   rintro e w81 ⟨vp,vs,ve,rfl,aao,hbb⟩
   have X81:=Xz.stays hbb
   have Q81:=aac.stays hbb
   have L81:=Lz.trans (hbb.mono Lz.size)
   have aap:=hbb
   clear hbb
   refine hK.out _ _ (by and_intros <;> first | exact X81.cell _ rfl | exact Q81.cell _ rfl) (fun hHeld=>?_)
   clear hK K
   refine dO 8 fun K hK=>?_
   go_simp
   have b81:Below wq.drew.heap.size wq.drew w81:=aap
   have aai:=HJz.out.below b81 (Nat.le_refl _)
   refine (aaf HS.out fJ CR vp vs ve pa pc (es.take i) (.slice (some ⟨g,o,none⟩) (i+1) jc) kd (i:Int) pl nn m w81 aao (by decide +kernel) (HP.out.below L81) iH.out.1 iH.out.2 qW.out.1 qW.out.2 (HJt.out _ aai) (BH HAc.out i) (fun e he=>CX.out e (List.mem_of_mem_take he)) (by rw [List.length_take]; omega) (nT.out.mono L81.size L81) ((Uz.out.below L81).mono L81.size)).mono ?_
   rintro e w82 ⟨rfl,hbb⟩
   rw [HT2.out,HT1.out]
   have X82:=X81.stays hbb
   have Q82:=Q81.stays hbb
   have L82:=L81.trans (hbb.mono L81.size)
   have J82:=aai.below hbb (Nat.le_refl _)
   clear hbb aai b81 aap
   refine hK.out _ _ (by and_intros <;> first | exact X82.cell _ rfl | exact Q82.cell _ rfl) (fun hHeld=>?_)
   clear hK K
   refine aF 9 ?_
   refine aF 10 ?_
   refine aF 11 ?_
   refine aF 12 ?_
   refine aF 13 ?_
   refine iE ?_
   have jH:=hid X82
   have HQ2:=hid Q82
   have HB2:=hid L82
   have HJ2:=hid J82
   clear X82 Q82 L82 J82 X81 Q81 L81 Xz aac Lz HJz aao hHeld
   cases b0
   ·go_wp2_with fail
    go_meet
    exact ⟨jH,HQ2,HB2,HJ2⟩
   ·go_wp2_with fail
    go_meet
    exact ⟨jH,HQ2,HB2,HJ2⟩
  obtain ⟨jH,HQ2,HB2,HJ2⟩:=hcut
  go_upto_region 18 with (fail)
  go_cut [16,17] (fun v16 v17 wx=>∃ (at' g':Int),v16=.int .i64 at'∧v17=.int .i64 g'∧aaw (aad kd 0 pl nn (es.length+1)) (aah CR (dh fJ CR 0) es kd pl nn m) (es.length+1) at' g'∧Hid (Box wx w.heap.size [.slice pa CR.ps.length pc,.int .i64 CR.inc,.int .i64 CR.delay] 49)∧Hid (Box wx (w.heap.size+1) [.int .i64 kd,.int .i64 ev,.int .i64 pl,.int .i64 nn,.int .i64 m.src,.int .i64 m.dst,.int .i64 m.piece] 86)∧Hid (Below w.heap.size w wx)∧Hid (zL wx (.slice (some ⟨g,o,none⟩) (es.length+1) jc) J))
  case first =>
   generalize wc=wq at *
   have Xz:=jH.out.drew
   have aac:=HQ2.out.drew
   have Lz:Below w.heap.size w wq.drew:=aA HB2.out
   have HJz:=hid (HJ2.out.below (aA (Below.refl _ _)) (Nat.le_refl _))
   clear jH HQ2 HB2 HJ2
   refine wp_region_noPanic ?_
   refine bG (S:=(fun w'=>w'.cell? ⟨w.heap.size,0,none⟩=some (.slice pa CR.ps.length pc)∧w'.cell? ⟨w.heap.size,1,none⟩=some (.int .i64 CR.inc)∧w'.cell? ⟨w.heap.size,2,none⟩=some (.int .i64 CR.delay)∧w'.cell? ⟨w.heap.size+1,0,none⟩=some (.int .i64 kd)∧w'.cell? ⟨w.heap.size+1,1,none⟩=some (.int .i64 ev)∧w'.cell? ⟨w.heap.size+1,2,none⟩=some (.int .i64 pl)∧w'.cell? ⟨w.heap.size+1,3,none⟩=some (.int .i64 nn)∧w'.cell? ⟨w.heap.size+1,4,none⟩=some (.int .i64 m.src)∧w'.cell? ⟨w.heap.size+1,5,none⟩=some (.int .i64 m.dst)∧w'.cell? ⟨w.heap.size+1,6,none⟩=some (.int .i64 m.piece))) (L:=[]) (by kernel_rfl) (by and_intros <;> first | exact Xz.cell _ rfl | exact aac.cell _ rfl) (fun hHeld=>?_)
   refine dL 1 ?_
   refine aF 2 ?_
   refine dL 3 ?_
   refine dO 0 fun K hK=>?_
   go_simp
   refine (zJ _).mono ?_
   rintro e w81 ⟨vp,vs,ve,rfl,aao,hbb⟩
   have X81:=Xz.stays hbb
   have Q81:=aac.stays hbb
   have L81:=Lz.trans (hbb.mono Lz.size)
   have aap:=hbb
   clear hbb
   refine hK.out _ _ (by and_intros <;> first | exact X81.cell _ rfl | exact Q81.cell _ rfl) (fun hHeld=>?_)
   clear hK K
   refine dO 4 fun K hK=>?_
   go_simp
   have b81:Below wq.drew.heap.size wq.drew w81:=aap
   have aai:=HJz.out.below b81 (Nat.le_refl _)
   refine (aaN HS.out fJ CR vp vs ve pa pc es (.slice (some ⟨g,o,none⟩) (es.length+1) jc) kd ev pl nn m w81 aao (by decide +kernel) (HP.out.below L81) iH.out.1 iH.out.2 qW.out.1 qW.out.2 (by rw [HJe.out]; exact aai) HAc.out CX.out acz.out (nT.out.mono L81.size L81) ((Uz.out.below L81).mono L81.size)).mono ?_
   rintro e w82 ⟨hpost,hbb⟩
   obtain ⟨at',g',rfl,hrel⟩:=aaR hpost
   have X82:=X81.stays hbb
   have Q82:=Q81.stays hbb
   have L82:=L81.trans (hbb.mono L81.size)
   have J82:=aai.below hbb (Nat.le_refl _)
   clear hbb aai b81 aap hpost
   refine hK.out _ _ (by and_intros <;> first | exact X82.cell _ rfl | exact Q82.cell _ rfl) (fun hHeld=>?_)
   clear hK K
   refine aF 5 ?_
   refine aF 6 ?_
   refine aF 7 ?_
   refine aF 8 ?_
   refine aF 9 ?_
   refine iE ?_
   have jH:=hid X82
   have HQ2:=hid Q82
   have HB2:=hid L82
   have HJ2:=hid J82
   clear X82 Q82 L82 J82 X81 Q81 L81 Xz aac Lz HJz aao hHeld
   go_wp2_with fail
   go_meet
   exact ⟨at',g',rfl,rfl,hrel,jH,HQ2,HB2,HJ2⟩
  obtain ⟨at',g',rfl,rfl,hrel,jH,HQ2,HB2,HJ2⟩:=hcut
  rcases hrel with ⟨hce,rfl,rfl⟩ | ⟨hce,⟨i,hi,hDi,hDj,rfl,rfl⟩ | ⟨hDn,rfl,rfl⟩⟩
  ·have hcb:(c0 != 0)=true:=by
    rw [← HC0.out]
    simp only [bne_iff_ne,ne_eq]
    intro hz
    have h:=aae hz
    exact hce (aax h.1 h.2.1 ⟨by omega,by omega⟩ h.2.2.2)
   have hgb:(aad kd 0 pl nn (es.length+1) != 0)=true:=by simpa using hce
   clear hce
   generalize aad kd 0 pl nn (es.length+1)=ce at *
   go_wp2_with fail
   go_ret
   exact ⟨rfl,HB2.out⟩
  rotate_left
  ·by_cases hz:c0=0
   ·have hok2:=aae (HC0.out.trans hz)
    obtain rfl:b0=false:=by rw [← HB0.out,hDn ev.toNat (by omega)]; simp
    subst hz
    clear hok2 hce hDn
    go_wp2_with fail
    go_ret
    exact ⟨rfl,HB2.out⟩
   ·have hcb:(c0 != 0)=true:=by simpa using hz
    clear hz hce hDn
    go_wp2_with fail
    go_ret
    exact ⟨rfl,HB2.out⟩
  have HDi:=hid hDi
  have HDj:=hid hDj
  have HCe:=hid hce
  clear hDi hDj hce
  go_upto_region 21 with (fail)
  have q1:=HQ2.out.cell 1 rfl
  go_cut [106] (fun ahg wx=>ahg=.bool false∧wc=wx)
  case first =>
   by_cases hz:c0=0
   ·have hok2:=aae (HC0.out.trans hz)
    subst hz
    cases hb:b0 with
    | false =>
     subst hb
     clear hok2
     go_wp2_with fail
     go_meet
     exact ⟨rfl,rfl⟩
    | true =>
     subst hb
     have hle:¬ (ev<(i:Int)):=fun hlt=>by
      have h1:=HDj.out ev.toNat (by omega)
      have h2:=HB0.out
      rw [h1] at h2
      simp at h2
     clear hok2
     go_wp2_with fail
     go_meet
     exact ⟨rfl,rfl⟩
   ·have hcb:(c0 == 0)=false:=by simpa using hz
    clear hz
    go_wp2_with fail
    go_meet
    exact ⟨rfl,rfl⟩
  obtain ⟨rfl,rfl⟩:=hcut
  have q1f:=HQ2.out.frozen 1
  go_upto_region 24 with (fail)
  refine wU ?_
  intro w6 e6
  have hf6:Fr (fun k=>k=w.heap.size+1) wc w6:=by rw [e6]; exact (Fr.refl (fun k=>k=w.heap.size+1) _).setCell (p:=⟨w.heap.size+1,1,none⟩) rfl _
  have HQ6:Hid (Box w6 (w.heap.size+1) [.int .i64 kd,.int .i64 (i:Int),.int .i64 pl,.int .i64 nn,.int .i64 m.src,.int .i64 m.dst,.int .i64 m.piece] 86):=hid (by rw [e6]; exact HQ2.out.set 1 _)
  have oG:=hid (jH.out.held hf6 (by omega))
  have zD:Hid (Below w.heap.size w w6):=hid (by rw [e6]; exact HB2.out.setCell (p:=⟨w.heap.size+1,1,none⟩) (by show w.heap.size≤w.heap.size+1; omega) _)
  have HJ6:Hid (zL w6 (.slice (some ⟨g,o,none⟩) (es.length+1) jc) J):=hid (abt HJ2.out hf6 (by omega))
  have abu:=aae HCe.out
  have HT1:Hid (aad kd (i:Int) pl nn (es.length+1)=0):=hid (aax abu.1 abu.2.1 ⟨by omega,by omega⟩ abu.2.2.2)
  have HT2:Hid ((decide (aad kd (i:Int) pl nn (es.length+1)=0) && aah CR (dh fJ CR 0) es kd pl nn m ((i:Int)).toNat)=true):=hid (by rw [HT1.out,show ((i:Int)).toNat=i from rfl,HDi.out]; rfl)
  clear e6 hf6 q1 q1f jH HQ2 HB2 HJ2 abu
  generalize w6=wq at *
  have Xz:=oG.out.drew
  have aac:=HQ6.out.drew
  have Lz:Below w.heap.size w wq.drew:=aA zD.out
  have HJz:=hid (HJ6.out.below (aA (Below.refl _ _)) (Nat.le_refl _))
  clear oG HQ6 zD HJ6
  refine wp_region_noPanic ?_
  refine bG (S:=(fun w'=>w'.cell? ⟨w.heap.size,0,none⟩=some (.slice pa CR.ps.length pc)∧w'.cell? ⟨w.heap.size,1,none⟩=some (.int .i64 CR.inc)∧w'.cell? ⟨w.heap.size,2,none⟩=some (.int .i64 CR.delay)∧w'.cell? ⟨w.heap.size+1,0,none⟩=some (.int .i64 kd)∧w'.cell? ⟨w.heap.size+1,1,none⟩=some (.int .i64 (i:Int))∧w'.cell? ⟨w.heap.size+1,2,none⟩=some (.int .i64 pl)∧w'.cell? ⟨w.heap.size+1,3,none⟩=some (.int .i64 nn)∧w'.cell? ⟨w.heap.size+1,4,none⟩=some (.int .i64 m.src)∧w'.cell? ⟨w.heap.size+1,5,none⟩=some (.int .i64 m.dst)∧w'.cell? ⟨w.heap.size+1,6,none⟩=some (.int .i64 m.piece))) (L:=[]) (by kernel_rfl) (by and_intros <;> first | exact Xz.cell _ rfl | exact aac.cell _ rfl) (fun hHeld=>?_)
  refine dL 1 ?_
  refine aF 2 ?_
  refine dL 3 ?_
  refine dO 0 fun K hK=>?_
  go_simp
  refine (zJ _).mono ?_
  rintro e w81 ⟨vp,vs,ve,rfl,aao,hbb⟩
  have X81:=Xz.stays hbb
  have Q81:=aac.stays hbb
  have L81:=Lz.trans (hbb.mono Lz.size)
  have aap:=hbb
  clear hbb
  refine hK.out _ _ (by and_intros <;> first | exact X81.cell _ rfl | exact Q81.cell _ rfl) (fun hHeld=>?_)
  clear hK K
  refine dO 4 fun K hK=>?_
  go_simp
  have b81:Below wq.drew.heap.size wq.drew w81:=aap
  have aai:=HJz.out.below b81 (Nat.le_refl _)
  refine (aaf HS.out fJ CR vp vs ve pa pc es (.slice (some ⟨g,o,none⟩) (es.length+1) jc) kd (i:Int) pl nn m w81 aao (by decide +kernel) (HP.out.below L81) iH.out.1 iH.out.2 qW.out.1 qW.out.2 (by rw [HJe.out]; exact aai) HAc.out CX.out acz.out (nT.out.mono L81.size L81) ((Uz.out.below L81).mono L81.size)).mono ?_
  rintro e w82 ⟨rfl,hbb⟩
  rw [HT2.out,HT1.out]
  have X82:=X81.stays hbb
  have Q82:=Q81.stays hbb
  have L82:=L81.trans (hbb.mono L81.size)
  have J82:=aai.below hbb (Nat.le_refl _)
  clear hbb aai b81 aap
  refine hK.out _ _ (by and_intros <;> first | exact X82.cell _ rfl | exact Q82.cell _ rfl) (fun hHeld=>?_)
  clear hK K
  refine aF 5 ?_
  refine aF 6 ?_
  refine aF 7 ?_
  refine aF 8 ?_
  refine aF 9 ?_
  refine iE ?_
  have jH:=hid X82
  have HQ2:=hid Q82
  have HB2:=hid L82
  have HJ2:=hid J82
  clear X82 Q82 L82 J82 X81 Q81 L81 Xz aac Lz HJz aao hHeld
  go_wp2_with fail
  go_ret
  exact ⟨rfl,HB2.out⟩
end Go.Proofs.YtmabaojkignodaaGreatDoor
namespace Go.Proofs.YtmabaojkignodaaGreatDoor
open Go.ChangeShapes Go.WideShapes Go.ChangeAt Go.RowKit Go.Deep
set_option linter.unusedVariables false
set_option maxRecDepth 100000
section
variable {H:Type} {enc:TypeId×Value→H} {P:Program} {w:World}
theorem block_lt' {w:World} {p:Addr} {v:Value} (h:w.cell? p=some v):p.block<w.heap.size:=by
 rcases Nat.lt_or_ge p.block w.heap.size with hlt | hge
 ·exact hlt
 ·simp [World.cell?,Array.getElem?_eq_none hge] at h
theorem DY (b off n:Nat):(⟨b,off,none⟩:Addr).add n=⟨b,off+n,none⟩:=by
 unfold Addr.add; split
 ·rename_i h; subst h; rfl
 ·rfl
theorem open_list {α:Type} (el:El α) {t e:TypeId} (hu:P.underlying t=some (.slice e)) (hC:P.cellsOf e=el.k) (hk:0<el.k)
  (hel:∀ fuel cs y,DataW.trod enc P w 0 (fun _=>true) true fuel e cs=some y→∃ x,el.E w x cs)
  {fuel:Nat} {cs:List Value} {y:DataW H×List MemPlace} (h:DataW.trod enc P w 0 (fun _=>true) true fuel t cs=some y):∃ v xs,cs=[v]∧gI el w v xs:=by
 rcases open_slice hu h with ⟨rfl,_⟩ | ⟨a,len,cap,m,n,D,Pl,rfl,hb,hl,hm,hmm,hx,hi⟩
 ·exact ⟨_,[],rfl,gI.nil el w⟩
 ·simp only [if_true] at hmm
  obtain rfl:cap=m:=hmm.symm
  by_cases h0:len=0
  ·subst h0
   exact ⟨_,[],rfl,.inl ⟨_,_,rfl,hm,rfl⟩⟩
  ·have hall:∀ i:Fin len,∃ x:α,∃ cs',w.cells? 0 (a.add (i.1 * el.k)) el.k=some cs'∧el.E w x cs':=fun i=>by
    obtain ⟨cs',h1,h2⟩:=hi i.1 (by omega)
    rw [hC] at h1
    obtain ⟨x,hx⟩:=hel _ _ _ h2
    exact ⟨x,cs',h1,hx⟩
   have hspot:a.spot=none∧a.block<w.heap.size:=by
    obtain ⟨x,cs',h1,h2⟩:=hall ⟨0,by omega⟩
    have h3:=(World.cells?_some h1).2.2 0 hk
    have hl':=el.len h2
    rw [List.getElem?_eq_getElem (by omega)] at h3
    have h4:w.cell? a=some cs'[0]:=by simpa [Addr.add] using h3
    exact ⟨World.cell?_spot h4,block_lt' h4⟩
   obtain ⟨g,o,s⟩:=a
   obtain ⟨rfl,hg⟩:=hspot
   simp only at hg
   refine ⟨_,List.ofFn fun i=>Classical.choose (hall i),rfl,.inr ⟨g,o,cap,by simp,by simpa using hl,hm,hg,fun i hi'=>?_⟩⟩
   have hi2:i<len:=by simpa using hi'
   obtain ⟨cs',h1,h2⟩:=Classical.choose_spec (hall ⟨i,hi2⟩)
   refine ⟨cs',by simpa using h2,fun j hj=>?_⟩
   have:=(World.cells?_some h1).2.2 j hj
   rw [DY,DY] at this
   exact this
theorem DZ {base:Nat} {spare:Nat→Bool} {held:Bool} {t:TypeId} {fs:Array Field} {fuel:Nat} {cs:List Value} {x:DataW H×List MemPlace} (ht:P.underlying t=some (.struct fs)) (h1:oneCellFields P fs=true)
  (h:DataW.trod enc P w base spare held fuel t cs=some x):∃ (xs:List (DataW H×List MemPlace)) (n:Nat),cs.length=P.cellsOf t∧xs.length=fs.size∧∀ (i:Nat) (f:Field),fs[i]?=some f→DataW.trod enc P w base spare held n f.type ((cs.drop i).take 1)=xs[i]?:=by
 obtain ⟨xs,n,_,_,hl,hx,hf⟩:=DataW.trod_struct ht h
 refine ⟨xs,n,hl,hx,fun i f hi=>?_⟩
 obtain ⟨o,q⟩:=hone_of h1 i f hi
 have:=hf i f hi
 rw [o,q] at this
 exact this
theorem IE {cs:List Value} (h:cs.length=3):∃ a b c,cs=[a,b,c]:=by
 match cs,h with
 | [a,b,c],_=>exact ⟨a,b,c,rfl⟩
end
end Go.Proofs.YtmabaojkignodaaGreatDoor
namespace Go.Proofs.YtmabaojkignodaaGreatDoor
open Go.ChangeShapes Go.WideShapes Go.ChangeAt Go.RowKit Go.Deep
set_option linter.unusedVariables false
section
variable {H:Type} {enc:TypeId×Value→H} {w:World}
end
end Go.Proofs.YtmabaojkignodaaGreatDoor
namespace Go.Proofs.YtmabaojkignodaaGreatDoor
open Go.ChangeShapes Go.WideShapes Go.ChangeAt Go.RowKit Go.Deep
set_option linter.unusedVariables false
section
variable {H:Type} {enc:TypeId×Value→H} {w:World}
theorem XK {P:Program} {base:Nat} {spare:Nat→Bool} {held:Bool} {fs:Array Field} {n:Nat} {cs:List Value} {xs:List (DataW H×List MemPlace)}
  (hf:∀ (i:Nat) (f:Field),fs[i]?=some f→DataW.trod enc P w base spare held n f.type ((cs.drop f.offset).take (P.cellsOf f.type))=xs[i]?) (i o k:Nat) (ti:TypeId)
  (h:(fs[i]?.map fun f=>(f.offset,f.type))=some (o,ti)) (hk:P.cellsOf ti=k):DataW.trod enc P w base spare held n ti ((cs.drop o).take k)=xs[i]?:=by
 simp only [Option.map_eq_some_iff,Prod.mk.injEq] at h
 obtain ⟨f,hi,rfl,rfl⟩:=h
 have:=hf i f hi
 rw [hk] at this
 exact this
end
end Go.Proofs.YtmabaojkignodaaGreatDoor
namespace Go.Proofs.YtmabaojkignodaaGreatDoor
open Go.ChangeShapes Go.WideShapes Go.ChangeAt Go.RowKit Go.Deep
set_option linter.unusedVariables false
section
variable {H:Type} {enc:TypeId×Value→H} {w:World}
theorem Fj {P:Program} {r:Reach} {base:Nat} {t e:TypeId} {v:Value} (hu:P.underlying t=some (.slice e)) (hv:Value.okWide P w r base t v):(∃ c,v=.slice none 0 0∧c=0)∨∃ g o len cap,v=.slice (some ⟨g,o,none⟩) len cap:=by
 simp only [Value.okWide,hu,Cell.okWide,Cell.ok] at hv
 split at hv <;> simp_all
 rename_i a len cap _
 obtain ⟨g,o,s⟩:=a
 have:=hv.2.2.2.1
 simp at this
 subst this
 exact ⟨g,o,rfl⟩
theorem KR {α:Type} (el:El α) {P:Program} {r:Reach} {base:Nat} {t e:TypeId} {v:Value} {d:DataW H} {p:List MemPlace} (hu:P.underlying t=some (.slice e)) (hC:P.cellsOf e=el.k) (hk:0<el.k)
  (hel:∀ fuel cs y,DataW.trod enc P w 0 (fun _=>true) true fuel e cs=some y→∃ x,el.E w x cs) (hv:Value.okWide P w r base t v) (h:DataW.Trod enc P w 0 (fun _=>true) true t v d p):∃ xs,gI el w v xs:=by
 obtain ⟨fuel,hf⟩:=h
 rcases Fj hu hv with ⟨_,rfl,_⟩ | ⟨g,o,len,cap,rfl⟩
 ·exact ⟨[],gI.nil _ _⟩
 ·obtain ⟨v',xs,hc,hr⟩:=open_list el hu hC hk hel hf
  simp [Value.cells] at hc
  subst hc
  exact ⟨xs,hr⟩
end
end Go.Proofs.YtmabaojkignodaaGreatDoor
