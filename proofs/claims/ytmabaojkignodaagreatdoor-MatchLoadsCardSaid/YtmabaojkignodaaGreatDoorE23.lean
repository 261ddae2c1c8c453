/- ClaimB, ClaimC, JouApp, MaA, MaB. -/
import Derived.Test.YtmabaojkignodaaGreatDoorE22
import Derived.Test.YtmabaojkignodaaGreatDoorE21
namespace Go.Proofs.YtmabaojkignodaaGreatDoor
open Go.ChangeShapes Go.WideShapes Go.ChangeAt Go.RowKit
set_option linter.unusedVariables false
open Go.Lib (hid)
theorem EN (v:Value) (xs:List ng) (p:ng→Bool) (f:FuncId) (caps:Array Value) (w:World) (h:gI jW w v xs) (hf:∀ (args:Array Value) (w:World),(callFunc f args).run Tryz.prog w=.ok (.enter f args) w)
  (hc:∀ (W:World) (x:ng) (cs:List Value),x∈xs→jW.E W x cs→Below w.heap.size w W→Calls Tryz.prog f (#[.agg cs.toArray]++caps) W fun e w'=>e=.returned (.bool (p x))∧Below W.heap.size W w') :
  Calls Tryz.prog 287 #[v,.func (.func f) #[] caps] w fun e w'=>e=.returned (.int .i64 (fP p xs 0))∧Below w.heap.size w w':=by
 obtain ⟨a,c,rfl,h1,h2⟩:=h.form
 unfold maxLen at h2
 have HR:=hid h
 have HC:=hid hc
 clear h hc
 go_enter Tryz.func287,Tryz.ntmps287
 go_wp2_with fail
 go_loopw [8] (fun i wr=>∃ k:Nat,k≤xs.length∧i=.int .i64 k∧Hid (fP p xs 0=fP p (xs.drop k) k)∧Below w.heap.size w wr) (fun i _=>xs.length - (intOf i).toNat)
 case atStart=>exact ⟨0,Nat.zero_le _,rfl,hid rfl,Below.refl _ _⟩
 case round =>
  obtain ⟨k,hk,rfl,HK,hbl⟩:=hrel
  by_cases hlt:k<xs.length
  ·obtain ⟨g,o,rfl,hg,hcc⟩:=(HR.out.below hbl (Nat.le_refl _)).some (by omega)
   obtain ⟨cs,hE,hcell⟩:=hcc k hlt
   have hcl:=jW.len hE
   simp only [jW] at hcl
   obtain ⟨c0,c1,c2,c3,rfl⟩:∃ c0 c1 c2 c3,cs=[c0,c1,c2,c3]:=by
    match cs,hcl with
    | [c0,c1,c2,c3],_=>exact ⟨_,_,_,_,rfl⟩
   have q0:=hcell 0 (by decide)
   have q1:=hcell 1 (by decide)
   have q2:=hcell 2 (by decide)
   have q3:=hcell 3 (by decide)
   simp only [jW,List.getElem?_cons_zero,List.getElem?_cons_succ,Nat.add_zero] at q0 q1 q2 q3
   have HS:=hid (oI p xs k hlt)
   have FT:=hid (HC.out wr xs[k] [c0,c1,c2,c3] (List.getElem_mem hlt) hE hbl)
   have HB:=hid hbl
   clear hcell hcc hE hcl hbl
   generalize xs[k]=x at *
   go_wp2_with fail
   refine FT.out.mono ?_
   rintro e w1 ⟨rfl,hb1⟩
   have HB1:=hid (aj HB.out hb1 HB.out.size)
   clear hb1
   cases hpx:p x
   ·go_wp2_with fail
    go_roundw
    case rel=>exact ⟨k+1,by omega,by go_num,hid (by rw [HK.out,HS.out,if_neg (by simp [hpx])]),HB1.out⟩
    case measure=>simp [intOf]; omega
   ·go_wp2_with fail
    go_ret
    exact ⟨by rw [HK.out,HS.out,if_pos hpx]; rfl,HB1.out⟩
  ·obtain rfl:k=xs.length:=by omega
   go_wp2_with fail
   go_ret
   exact ⟨by rw [HK.out]; simp [fP],hbl⟩
theorem zo (v:Value) (xs:List ng) (p:ng→Bool) (f:FuncId) (caps:Array Value) (w:World) (h:gI jW w v xs) (hf:∀ (args:Array Value) (w:World),(callFunc f args).run Tryz.prog w=.ok (.enter f args) w)
  (hc:∀ (W:World) (x:ng) (cs:List Value),x∈xs→(jW).E W x cs→Below w.heap.size w W→Calls Tryz.prog f (#[.agg cs.toArray]++caps) W fun e w'=>e=.returned (.bool (p x))∧Below W.heap.size W w') :
  Calls Tryz.prog 270 #[v,.func (.func f) #[] caps] w fun e w'=>e=.returned (.bool (xs.any p))∧Below w.heap.size w w':=by
 have HI:=hid (EN v xs p f caps w h hf hc)
 have HA:=hid (oH p xs 0 (by omega))
 clear h hc hf
 go_enter Tryz.func270,Tryz.ntmps270
 go_wp2_with fail
 refine HI.out.mono ?_
 rintro e w' ⟨rfl,hb⟩
 have HB:=hid hb
 clear hb
 go_wp2_with fail
 go_ret
 exact ⟨by rw [← HA.out]; rfl,HB.out⟩
theorem zq (v:Value) (xs:List ql) (p:ql→Bool) (f:FuncId) (caps:Array Value) (w:World) (h:gI kX w v xs) (hf:∀ (args:Array Value) (w:World),(callFunc f args).run Tryz.prog w=.ok (.enter f args) w)
  (hc:∀ (W:World) (x:ql) (cs:List Value),x∈xs→(kX).E W x cs→Below w.heap.size w W→Calls Tryz.prog f (#[.agg cs.toArray]++caps) W fun e w'=>e=.returned (.bool (p x))∧Below W.heap.size W w') :
  Calls Tryz.prog 231 #[v,.func (.func f) #[] caps] w fun e w'=>e=.returned (.bool (xs.any p))∧Below w.heap.size w w':=by
 have HI:=hid (vY v xs p f caps w h hf hc)
 have HA:=hid (oH p xs 0 (by omega))
 clear h hc hf
 go_enter Tryz.func231,Tryz.ntmps231
 go_wp2_with fail
 refine HI.out.mono ?_
 rintro e w' ⟨rfl,hb⟩
 have HB:=hid hb
 clear hb
 go_wp2_with fail
 go_ret
 exact ⟨by rw [← HA.out]; rfl,HB.out⟩
theorem DK:(Tryz.prog.info? 3).map (fun i=>(i.zero,i.size,i.bytes))=some (some (.int .i64 0),1,8):=by kernel_rfl
theorem Rl (cs:List Int) (pl:Int) (n:Nat):(vg cs pl n).length≤n:=by
 induction n with
 | zero=>simp [vg]
 | succ n ih =>
  unfold vg
  split
  ·rw [List.length_append]; simp only [List.length_singleton]; omega
  ·omega
theorem Rn (hs:List Int) (n:Nat):(xQ hs n).length≤n:=by
 induction n with
 | zero=>simp [xQ]
 | succ n ih =>
  unfold xQ
  split
  ·rw [List.length_append]; simp only [List.length_singleton]; omega
  ·omega
theorem Xj {hs:List Int} (h:∀ c∈hs,0≤c∧c≤1000) (n:Nat) (hn:n≤hs.length):nH hs n≤1000 * n:=by
 induction n with
 | zero=>simp [nH]
 | succ n ih =>
  have:=ih (by omega)
  have:=h (hs.getD n 0) (by rw [List.getD_eq_getElem?_getD,List.getElem?_eq_getElem (by omega)]; exact List.getElem_mem _)
  unfold nH
  split <;> omega
theorem wK (pl c:Int):Vs pl c=true↔0<c∧(c - 1) % 2=pl:=by unfold Vs; simp
def NV (p:bg) (pl:Int) (w:World) (e:Ending) (w':World):Prop:=∃ v,e=.returned (.tuple #[v,.int .i64 (JH p pl)])∧w'.ownsRow w.heap.size 3 1 v (lS p pl).length (ints (lS p pl))∧Below w.heap.size w w'
set_option maxRecDepth 100000 in
set_option maxHeartbeats 4000000 in
theorem Ro (cs hs:List Int) (vc v0 v1 hv:Value) (tu qu pl:Int) (w:World) (hc:kM w vc cs) (hh0:kM w hv hs) (hhv:(if pl=0 then v0 else v1)=hv) (hl:cs.length≤64) (hcb:∀ i,0≤cs.getD i 0∧cs.getD i 0≤1000) (hh:hs.length≤64) (hhb:∀ c∈hs,0≤c∧c≤1000) (hpl:pl=0∨pl=1) :
  Calls Tryz.prog 266 #[.agg #[vc,v0,v1,.int .i64 tu,.int .i64 qu],.int .i64 pl] w fun e w'=>∃ v,e=.returned (.tuple #[v,.int .i64 (((vg cs pl cs.length).length:Int)+nH hs hs.length)])∧w'.ownsRow w.heap.size 3 1 v (vg cs pl cs.length++xQ hs hs.length).length (ints (vg cs pl cs.length++xQ hs hs.length))∧Below w.heap.size w w':=by
 have Dl:=hid hcb
 have ZR:=hid hhb
 have HHd:=hid hh0
 have HC:=hid hc
 obtain ⟨ac,cc,rfl,hc1,hc2⟩:=hc.form
 obtain ⟨ah,ch,rfl,hh1,hh2⟩:=hh0.form
 unfold maxLen at hc2 hh2
 clear hc hh0 hcb hhb
 go_enter Tryz.func266,Tryz.ntmps266
 go_upto_region 1 with (fail)
 refine lM fun w0 B0 dM hs_=>?_
 have HB:=hid dM
 have hz0:w.heap.size<w0.heap.size:=by omega
 clear hs_ dM
 have HX:=hid B0
 clear B0
 have hw0:w.heap.size≤w0.heap.size:=by omega
 have c0:=HX.out.cell 0 rfl
 go_wp2_with fail
 clear c0
 go_loopw [15,6,7,9] (fun vi vo vn a9 wr=>∃ (k:Nat) (o:Value),o=vo∧k≤cs.length∧vi=.int .i64 k∧vn=.int .i64 ((vg cs pl k).length:Int)∧Hid (wr.ownsRow w0.heap.size 3 1 vo (vg cs pl k).length (ints (vg cs pl k)))∧Hid (Below w0.heap.size w0 wr)) (fun i _ _ _ _=>cs.length - (intOf i).toNat)
 case atStart=>exact ⟨0,_,rfl,Nat.zero_le _,rfl,rfl,hid (World.ownsRow_nil _ _ _ _),hid (Below.refl _ _)⟩
 case round =>
  obtain ⟨k,vo,rfl,hk,rfl,rfl,HO,bC⟩:=hrel
  have hrs:w0.heap.size≤wr.heap.size:=bC.out.size
  have hwr:w.heap.size<wr.heap.size:=by omega
  have htl:=Rl cs pl k
  by_cases hkl:k<cs.length
  ·obtain ⟨g,oo,rfl,hcc⟩:=eU (HC.out.below (aj HB.out bC.out HB.out.size) (Nat.le_refl _)) (by omega)
   have ck:=hcc k hkl
   have hck:=Dl.out k
   have HST:Hid (vg cs pl (k+1)=if Vs pl (cs.getD k 0)=true then vg cs pl k++[(cs.getD k 0 - 1) / 2] else vg cs pl k):=hid rfl
   clear hcc
   generalize cs.getD k 0=z at *
   obtain ⟨z0,z1⟩:=hck
   by_cases hz:0<z
   rotate_left
   ·have HE:Hid (vg cs pl (k+1)=vg cs pl k):=hid (by rw [HST.out,if_neg (by rw [wK]; omega)])
    clear HST
    go_wp2_with fail
    go_roundw
    case rel=>exact ⟨k+1,_,rfl,by omega,by go_num,by rw [HE.out],hid (by rw [HE.out]; exact HO.out),bC⟩
    case measure=>simp [intOf]; omega
   have ht:Int.tmod (z - 1) 2=(z - 1) % 2:=Int.tmod_eq_emod_of_nonneg (by omega)
   have hd:Int.tdiv (z - 1) 2=(z - 1) / 2:=Int.tdiv_eq_ediv_of_nonneg (by omega)
   by_cases hm:(z - 1) % 2=pl
   rotate_left
   ·have HE:Hid (vg cs pl (k+1)=vg cs pl k):=hid (by rw [HST.out,if_neg (by rw [wK]; exact fun q=>hm q.2)])
    have hm':((z - 1) % 2 == pl)=false:=by simpa using hm
    clear HST hm
    go_wp2_with fail
    go_roundw
    case rel=>exact ⟨k+1,_,rfl,by omega,by go_num,by rw [HE.out],hid (by rw [HE.out]; exact HO.out),bC⟩
    case measure=>simp [intOf]; omega
   ·have HE:Hid (vg cs pl (k+1)=vg cs pl k++[(z - 1) / 2]):=hid (by rw [HST.out,if_pos (by rw [wK]; exact ⟨hz,hm⟩)])
    have hm':((z - 1) % 2 == pl)=true:=by simpa using hm
    clear HST hm
    obtain ⟨E,hE⟩:∃ E,vg cs pl k=E:=⟨_,rfl⟩
    rw [hE] at HO HE htl ⊢
    clear hE
    go_wp2_with (at_builtin; refine gG 22 3 (.int .i64 0) 1 8 DK Tryz.underlying22 rfl (by decide) (by rfl) _ _ (by rfl) w0.heap.size _ E.length (ints E) [.int .i64 ((z - 1) / 2)] wr HO.out hrs rfl kV (by omega) (by omega) (by rfl) (by rfl) ?_)
    intro g5 cap5 w5 hown5 hk5 hg5
    have mW:=hid (hk5.below bC.out (Nat.le_refl _))
    have Ua:Hid (w5.ownsRow w0.heap.size 3 1 (.slice (some ⟨g5,0,none⟩) (E.length+1) cap5) (vg cs pl (k+1)).length (ints (vg cs pl (k+1)))):=hid (by
     rw [HE.out,List.length_append,← fZ]; exact hown5)
    have hEL:(vg cs pl (k+1)).length=E.length+1:=by rw [HE.out]; simp
    clear hown5 hk5 hg5 HO HE
    go_wp2_with fail
    go_roundw
    case rel=>exact ⟨k+1,_,rfl,by omega,by go_num,by rw [hEL]; go_num,Ua,mW⟩
    case measure=>simp [intOf]; omega
  ·obtain rfl:k=cs.length:=by omega
   have jH:=hid (HX.out.stays bC.out)
   have c1:=jH.out.cell 1 rfl
   have c2:=jH.out.cell 2 rfl
   have hpc:wr.cell? ⟨w.heap.size,1+pl.toNat,none⟩=some (.slice ah hs.length ch):=by
    rcases hpl with rfl | rfl
    ·rw [if_pos rfl] at hhv; rw [← hhv]; exact c1
    ·rw [if_neg (by decide)] at hhv; rw [← hhv]; exact c2
   obtain ⟨E,hE⟩:∃ E,vg cs pl cs.length=E:=⟨_,rfl⟩
   rw [hE] at HO htl ⊢
   have XW:=hid hE
   clear hE c1 c2 hhv
   have HO0:Hid (wr.ownsRow w0.heap.size 3 1 vo (E++xQ hs 0).length (ints (E++xQ hs 0))):=hid (by simpa [xQ] using HO.out)
   clear HO
   obtain ⟨pn,rfl⟩:∃ pn:Nat,pl=pn:=⟨pl.toNat,by omega⟩
   have hp2:pn<2:=by omega
   rw [Int.toNat_natCast] at hpc
   go_wp2_with fail
   clear hpc
   obtain ⟨wA,rfl⟩:∃ wA:World,wA=wr:=⟨_,rfl⟩
   go_loopw [42,6,7,10,11] (fun vi vo vn a9 a10 wr=>∃ (k:Nat) (o:Value),o=vo∧k≤hs.length∧vi=.int .i64 k∧vn=.int .i64 ((E.length:Int)+nH hs k)∧Hid (wr.ownsRow w0.heap.size 3 1 vo (E++xQ hs k).length (ints (E++xQ hs k)))∧Hid (Below wA.heap.size wA wr∨True)∧Hid (Below w0.heap.size w0 wr)) (fun i _ _ _ _ _=>hs.length - (intOf i).toNat)
   case atStart=>exact ⟨0,_,rfl,Nat.zero_le _,rfl,by simp [nH],HO0,hid (.inr trivial),bC⟩
   case round =>
    obtain ⟨k,vo,rfl,hk,rfl,rfl,HO,-,bC⟩:=hrel
    have hrs:w0.heap.size≤wr.heap.size:=bC.out.size
    have hwr:w.heap.size<wr.heap.size:=by omega
    have aj1:=Rn hs k
    have hnn:=Dx hs k
    have hnl:=Xj ZR.out k hk
    by_cases hkl:k<hs.length
    ·obtain ⟨g,oo,rfl,hcc⟩:=eU (HHd.out.below (aj HB.out bC.out HB.out.size) (Nat.le_refl _)) (by omega)
     have ck:=hcc k hkl
     have hck:0≤hs.getD k 0∧hs.getD k 0≤1000:=ZR.out _ (by rw [List.getD_eq_getElem?_getD,List.getElem?_eq_getElem hkl]; exact List.getElem_mem _)
     have HST:Hid (xQ hs (k+1)=if 0<hs.getD k 0 then xQ hs k++[(k:Int)] else xQ hs k):=hid rfl
     have HSN:Hid (nH hs (k+1)=if 0<hs.getD k 0 then nH hs k+hs.getD k 0 else nH hs k):=hid rfl
     clear hcc
     generalize hs.getD k 0=z at *
     obtain ⟨z0,z1⟩:=hck
     by_cases hz:0<z
     rotate_left
     ·have HE:Hid (xQ hs (k+1)=xQ hs k):=hid (by rw [HST.out,if_neg hz])
      have HE2:Hid (nH hs (k+1)=nH hs k):=hid (by rw [HSN.out,if_neg hz])
      clear HST HSN
      go_wp2_with fail
      go_roundw
      case rel=>exact ⟨k+1,_,rfl,by omega,by go_num,by rw [HE2.out],hid (by rw [HE.out]; exact HO.out),hid (.inr trivial),bC⟩
      case measure=>simp [intOf]; omega
     ·have HE:Hid (xQ hs (k+1)=xQ hs k++[(k:Int)]):=hid (by rw [HST.out,if_pos hz])
      have HE2:Hid (nH hs (k+1)=nH hs k+z):=hid (by rw [HSN.out,if_pos hz])
      clear HST HSN
      obtain ⟨E',hE'⟩:∃ E',E++xQ hs k=E':=⟨_,rfl⟩
      have hEl:E'.length≤128:=by rw [← hE',List.length_append]; omega
      have HEE:Hid (E++xQ hs (k+1)=E'++[(k:Int)]):=hid (by rw [HE.out,← List.append_assoc,hE'])
      rw [hE'] at HO
      clear hE' HE
      go_wp2_with (at_builtin; refine gG 22 3 (.int .i64 0) 1 8 DK Tryz.underlying22 rfl (by decide) (by rfl) _ _ (by rfl) w0.heap.size _ E'.length (ints E') [.int .i64 k] wr HO.out hrs rfl kV (by omega) (by omega) (by rfl) (by rfl) ?_)
      intro g5 cap5 w5 hown5 hk5 hg5
      have mW:=hid (hk5.below bC.out (Nat.le_refl _))
      have Ua:Hid (w5.ownsRow w0.heap.size 3 1 (.slice (some ⟨g5,0,none⟩) (E'.length+1) cap5) (E++xQ hs (k+1)).length (ints (E++xQ hs (k+1)))):=hid (by
       rw [HEE.out,List.length_append,← fZ]; exact hown5)
      clear hown5 hk5 hg5 HO HEE
      go_wp2_with fail
      go_roundw
      case rel=>exact ⟨k+1,_,rfl,by omega,by go_num,by rw [HE2.out,Int.add_assoc],Ua,hid (.inr trivial),mW⟩
      case measure=>simp [intOf]; omega
    ·obtain rfl:k=hs.length:=by omega
     have UL:=hid (own_base HO.out hw0)
     have HBw:=hid (aj HB.out bC.out HB.out.size)
     obtain ⟨av,cv,rfl⟩:=aI UL.out
     clear HO
     go_wp2_with fail
     go_ret2
     exact ⟨_,by rw [XW.out]; rfl,by rw [XW.out]; exact UL.out,HBw.out⟩
theorem NW (p:bg) (vc v0 v1:Value) (pl:Int) (w:World) (hp:pX w p vc v0 v1) {R:aC} (K:nV R p) (hpl:pl=0∨pl=1):Calls Tryz.prog 266 #[(.agg #[vc,v0,v1,.int .i64 p.turn,.int .i64 p.quiet]),.int .i64 pl] w (NV p pl w):=by
 refine (Ro p.cells (p.hand pl) vc v0 v1 (if pl=0 then v0 else v1) p.turn p.quiet pl w hp.1 ?_ rfl K.len (fun i=>?_) ?_ ?_ hpl).mono fun e w' h=>h
 ·unfold bg.hand
  split
  ·exact hp.2.1
  ·exact hp.2.2
 ·have:=K.cell i; have:=K.r.np; omega
 ·have h0:=K.l0; have h1:=K.l1; have:=K.r.np
  unfold bg.hand
  split <;> omega
 ·unfold bg.hand
  split
  ·exact K.b0
  ·exact K.b1
end Go.Proofs.YtmabaojkignodaaGreatDoor
namespace Go.Proofs.YtmabaojkignodaaGreatDoor
open Go.ChangeShapes Go.WideShapes Go.ChangeAt Go.RowKit
set_option linter.unusedVariables false
set_option maxHeartbeats 4000000
set_option maxRecDepth 100000
open Go.Lib (hid)
theorem Rq {R:aC} {piece k:Int} {i:Nat} (h:i<R.pieces.length+1):qU R piece (R.pieces.length+1 - i) k=if k=piece then true else if (R.pieces.getD k.toNat default).promote=0 then false else qU R piece (R.pieces.length+1 - (i+1)) ((R.pieces.getD k.toNat default).promote - 1):=by
 rw [show R.pieces.length+1 - i=(R.pieces.length - i)+1 by omega,show R.pieces.length+1 - (i+1)=R.pieces.length - i by omega]
 rfl
theorem Ig (R:aC) (vp vs ve:Value) (k0 piece:Int) (w:World) (hr:gI fK w vp R.pieces) (K:WX R) (h0:0≤k0) (h1:k0<R.pieces.length) :
  Calls Tryz.prog 268 #[(.agg #[.string R.name,.int .i64 R.width,.int .i64 R.height,vp,vs,.bool R.falls,.bool R.keeps,ve,.int .i64 R.blocked,.int .i64 R.quiet,.int .i64 R.bF]),.int .i64 k0,.int .i64 piece] w fun e w'=>e=.returned (.bool (qU R piece (R.pieces.length+1) k0))∧Below w.heap.size w w':=by
 have HR:=hid hr
 have HK:=hid K
 obtain ⟨np1,np2⟩:=K.np
 obtain ⟨a,c,rfl,hl1,hl2⟩:=hr.form
 unfold maxLen at hl2
 clear hr K
 go_enter Tryz.func268,Tryz.ntmps268
 go_upto_region 1 with (fail)
 refine lM fun w0 B0 dM hs_=>?_
 have HB:=hid dM
 have hz0:w.heap.size<w0.heap.size:=by omega
 clear hs_ dM
 have HX:=hid B0
 clear B0
 have q3:=HX.out.cell 3 rfl
 go_wp2_with fail
 go_loop [11,1] (fun vi vk=>∃ (i:Nat) (k:Int),i≤R.pieces.length+1∧vi=.int .i64 i∧vk=.int .i64 k∧0≤k∧k<R.pieces.length∧Hid (qU R piece (R.pieces.length+1) k0=qU R piece (R.pieces.length+1 - i) k)) (fun i _=>R.pieces.length+1 - (intOf i).toNat)
 case atStart=>exact ⟨0,k0,Nat.zero_le _,rfl,rfl,h0,h1,hid rfl⟩
 case round =>
  obtain ⟨i,k,hi,rfl,rfl,k0',k1',HE⟩:=hrel
  by_cases hlt:i<R.pieces.length+1
  ·have HS:=hid (Rq (R:=R) (piece:=piece) (k:=k) hlt)
   obtain ⟨gp,op,rfl,IU,hpc⟩:=jP (HR.out.below HB.out (Nat.le_refl _)) (by omega)
   obtain ⟨vw,-,-,c2,-,-⟩:=hpc k.toNat (by omega)
   have hpr:=(HK.out.pc k.toNat (by omega)).2.1
   clear hpc
   generalize (R.pieces.getD k.toNat default).promote=pr at *
   obtain ⟨aj6,aj7⟩:=hpr
   by_cases hkp:k=piece
   ·have HF:Hid (qU R piece (R.pieces.length+1) k0=true):=hid (by rw [HE.out,HS.out,if_pos hkp])
    have hkb:(k == piece)=true:=by simpa using hkp
    clear hkp
    go_wp2_with fail
    go_ret
    exact ⟨by rw [HF.out]; rfl,HB.out⟩
   have hkb:(k == piece)=false:=by simpa using hkp
   by_cases hz:pr=0
   ·have HF:Hid (qU R piece (R.pieces.length+1) k0=false):=hid (by rw [HE.out,HS.out,if_neg hkp,if_pos hz])
    have hzb:(pr == 0)=true:=by simpa using hz
    clear hkp hz
    go_wp2_with fail
    go_ret
    exact ⟨by rw [HF.out]; rfl,HB.out⟩
   ·have HF:Hid (qU R piece (R.pieces.length+1) k0=qU R piece (R.pieces.length+1 - (i+1)) (pr - 1)):=hid (by rw [HE.out,HS.out,if_neg hkp,if_neg hz])
    have hzb:(pr == 0)=false:=by simpa using hz
    have hr1:0≤pr - 1∧pr - 1<R.pieces.length:=by omega
    have hwr:IntKind.i64.wrap (pr - 1)=pr - 1:=IntWalk.i64_in _ (by omega)
    clear hkp hz
    go_wp2_with fail
    go_round
    case rel=>exact ⟨i+1,pr - 1,by omega,by go_num,rfl,hr1.1,hr1.2,HF⟩
    case measure=>simp [intOf]; omega
  ·obtain rfl:i=R.pieces.length+1:=by omega
   go_wp2_with fail
   go_ret
   exact ⟨by rw [HE.out,Nat.sub_self]; rfl,HB.out⟩
theorem VU (args:Array Value) (w:World):(callFunc 267 args).run Tryz.prog w=.ok (.enter 267 args) w:=by kernel_rfl
theorem LD (args:Array Value) (w:World):(callFunc 269 args).run Tryz.prog w=.ok (.enter 269 args) w:=by kernel_rfl
theorem Rt (args:Array Value) (w:World):(callFunc 271 args).run Tryz.prog w=.ok (.enter 271 args) w:=by kernel_rfl
theorem VW (args:Array Value) (w:World):(callFunc 232 args).run Tryz.prog w=.ok (.enter 232 args) w:=by kernel_rfl
theorem Ru (x:ng) (w:World):Calls Tryz.prog 271 (#[.agg #[.int .i64 x.dx,.int .i64 x.dy,.int .i64 x.most,.int .i64 x.take]] ++ #[]) w fun e w'=>e=.returned (.bool (!(x.take == 0)))∧Below w.heap.size w w':=by
 show Calls Tryz.prog 271 #[.agg #[.int .i64 x.dx,.int .i64 x.dy,.int .i64 x.most,.int .i64 x.take]] w _
 go_enter Tryz.func271,Tryz.ntmps271
 go_wp2_with fail
 go_ret
 exact ⟨rfl,(Below.refl _ _).alloc (Nat.le_refl _) _⟩
theorem LG (R:aC) (vp vs ve:Value) (k:Int) (b0:Nat) (w:World) (B0:Box w b0 [.string R.name,.int .i64 R.width,.int .i64 R.height,vp,vs,.bool R.falls,.bool R.keeps,ve,.int .i64 R.blocked,.int .i64 R.quiet,.int .i64 R.bF] 46) (hr:gI fK w vp R.pieces) (K:WX R) (h0:0≤k) (h1:k<R.pieces.length) :
  Calls Tryz.prog 269 (#[.int .i64 k] ++ #[.pointer (some ⟨b0,0,none⟩)]) w fun e w'=>e=.returned (.bool (pK R k))∧Below w.heap.size w w':=by
 show Calls Tryz.prog 269 #[.int .i64 k,.pointer (some ⟨b0,0,none⟩)] w _
 have HD:Hid (pK R k=(R.pieces.getD k.toNat default).ways.any fun w=>!(w.take == 0)):=hid rfl
 obtain ⟨np1,np2⟩:=K.np
 obtain ⟨a,c,rfl,hl1,hl2⟩:=hr.form
 unfold maxLen at hl2
 obtain ⟨gp,op,rfl,IU,hpc⟩:=jP hr (by omega)
 obtain ⟨vw,-,-,-,c3,hw⟩:=hpc k.toNat (by omega)
 have q3:=B0.cell 3 rfl
 have HW:=hid (zo vw (R.pieces.getD k.toNat default).ways (fun w=>!(w.take == 0)) 271 #[] w hw Rt (fun W x cs hx hE hW=>by
  simp only [jW] at hE
  subst hE
  exact Ru x W))
 generalize (R.pieces.getD k.toNat default).ways=ws at *
 clear hpc hr K B0 hw
 go_enter Tryz.func269,Tryz.ntmps269
 go_wp2_with fail
 refine HW.out.mono ?_
 rintro e w1 ⟨rfl,hb1⟩
 have HB1:=hid hb1
 clear hb1 c3 q3
 go_wp2_with fail
 go_ret
 exact ⟨by rw [HD.out]; rfl,HB1.out⟩
theorem VX (R:aC) (vp vs ve:Value) (x:ql) (k:Int) (b0 b2:Nat) (w:World) (B0:Box w b0 [.string R.name,.int .i64 R.width,.int .i64 R.height,vp,vs,.bool R.falls,.bool R.keeps,ve,.int .i64 R.blocked,.int .i64 R.quiet,.int .i64 R.bF] 46) (B2:Box w b2 [.int .i64 x.kind,.int .i64 x.piece,.int .i64 x.count,.bool x.loses] 147) (hr:gI fK w vp R.pieces) (K:WX R) (h0:0≤k) (h1:k<R.pieces.length) :
  Calls Tryz.prog 267 (#[.int .i64 k] ++ #[.pointer (some ⟨b0,0,none⟩),.pointer (some ⟨b2,0,none⟩)]) w fun e w'=>e=.returned (.bool (qU R x.piece (R.pieces.length+1) k))∧Below w.heap.size w w':=by
 show Calls Tryz.prog 267 #[.int .i64 k,.pointer (some ⟨b0,0,none⟩),.pointer (some ⟨b2,0,none⟩)] w _
 have HBE:=hid (Ig R vp vs ve k x.piece w hr K h0 h1)
 have HX:=hid B0
 have x1:=B2.cell 1 rfl
 clear B0 B2 hr K
 go_enter Tryz.func267,Tryz.ntmps267
 go_upto_region 1 with (fail)
 refine wp_region_lit ?_
 refine aB (by rfl) 46 (.tmp 1) (by rfl) (b0) (by rfl) HX.out Tryz.underlying46 (by rfl) (by kernel_rfl) ?_
 go_wp2_with fail
 refine HBE.out.mono ?_
 rintro e w1 ⟨rfl,hb1⟩
 have HB1:=hid hb1
 clear hb1 x1
 go_wp2_with fail
 go_ret
 exact ⟨rfl,HB1.out⟩
theorem VY {R:aC} {p:bg} (K:nV R p) (pl:Int):∀ k∈lS p pl,0≤k∧k<R.pieces.length:=by
 have hc:∀ n,∀ k∈vg p.cells pl n,0≤k∧k<R.pieces.length:=by
  intro n
  induction n with
  | zero=>intro k hk; simp [vg] at hk
  | succ n ih =>
   intro k hk
   unfold vg at hk
   split at hk
   ·rename_i q
    rcases List.mem_append.1 hk with h | h
    ·exact ih k h
    ·obtain rfl:k=(p.cells.getD n 0 - 1) / 2:=by simpa using h
     have:=K.cell n
     rw [wK] at q
     omega
   ·exact ih k hk
 have hh:∀ n,n≤(p.hand pl).length→∀ k∈xQ (p.hand pl) n,0≤k∧k<R.pieces.length:=by
  have hl:(p.hand pl).length=R.pieces.length:=by unfold bg.hand; split; exact K.l0; exact K.l1
  intro n
  induction n with
  | zero=>intro _ k hk; simp [xQ] at hk
  | succ n ih =>
   intro hn k hk
   unfold xQ at hk
   split at hk
   ·rcases List.mem_append.1 hk with h | h
    ·exact ih (by omega) k h
    ·obtain rfl:k=(n:Int):=by simpa using h
     omega
   ·exact ih (by omega) k hk
 intro k hk
 rcases List.mem_append.1 hk with h | h
 ·exact hc _ k h
 ·exact hh _ (Nat.le_refl _) k h
theorem NY {R:aC} {p:bg} (K:nV R p) (pl:Int):(lS p pl).length≤128∧0≤JH p pl∧JH p pl≤100000:=by
 have h1:=Rl p.cells pl p.cells.length
 have h2:=Rn (p.hand pl) (p.hand pl).length
 have h3:=K.len
 have hl:(p.hand pl).length=R.pieces.length:=by unfold bg.hand; split; exact K.l0; exact K.l1
 have hb:∀ c∈p.hand pl,0≤c∧c≤1000:=by unfold bg.hand; split; exact K.b0; exact K.b1
 have h4:=Dx (p.hand pl) (p.hand pl).length
 have h5:=Xj hb (p.hand pl).length (Nat.le_refl _)
 have h6:=K.r.np
 unfold lS JH
 rw [List.length_append]
 omega
theorem Rw (R:aC) (vp vs ve:Value) (p:bg) (vc v0 v1:Value) (x:ql) (pl:Int) (w:World) (hr:gI fK w vp R.pieces) (hp:pX w p vc v0 v1) (K:nV R p) (hx:kN R.pieces.length x=0) (hpl:pl=0∨pl=1) :
  Calls Tryz.prog 233 #[(.agg #[.string R.name,.int .i64 R.width,.int .i64 R.height,vp,vs,.bool R.falls,.bool R.keeps,ve,.int .i64 R.blocked,.int .i64 R.quiet,.int .i64 R.bF]),(.agg #[vc,v0,v1,.int .i64 p.turn,.int .i64 p.quiet]),(.agg #[.int .i64 x.kind,.int .i64 x.piece,.int .i64 x.count,.bool x.loses]),.int .i64 pl] w fun e w'=>e=.returned (.bool (kC R p x pl))∧Below w.heap.size w w':=by
 have HD:Hid (kC R p x pl=if x.loses=true∨x.kind=2 then true
 else if (x.kind=0∧x.count≤JH p pl)∨(x.kind=1∧(lS p pl).any (qU R x.piece (R.pieces.length+1))=true) then true
 else R.keeps && (lS p pl).any (pK R)):=hid rfl
 have HR:=hid hr
 have HP:=hid hp
 have HK:=hid K
 have MZ:=hid (VY K pl)
 obtain ⟨tl1,tl2,tl3⟩:=NY K pl
 have hxo:=endOk hx
 have hk3:x.kind=0∨x.kind=1∨x.kind=2:=by rcases hxo with h | h | h <;> omega
 clear hr hp K hx hxo
 go_enter Tryz.func233,Tryz.ntmps233
 go_upto_region 1 with (fail)
 refine Cb fun w0 B0 B1 B2 dM hs_=>?_
 have HB:=hid dM
 have hz0:w.heap.size+1+1<w0.heap.size:=by omega
 clear hs_ dM
 have HX:=hid B0
 have HY:=hid B1
 have HZ:=hid B2
 clear B0 B1 B2
 refine wp_region_lit ?_
 refine aB (by rfl) 78 (.tmp 5) (by rfl) (w.heap.size+1) (by rfl) HY.out Tryz.underlying78 (by rfl) (by kernel_rfl) ?_
 go_wp2_with fail
 refine (NW p vc v0 v1 pl w0 (HP.out.below HB.out (Nat.le_refl _)) HK.out hpl).mono ?_
 rintro e w1 ⟨vt,rfl,ho1,hb1⟩
 have HB1:=hid (aj HB.out hb1 HB.out.size)
 have dn:=hid (HX.out.below hb1 (by omega))
 have HZ1:=hid (HZ.out.below hb1 (by omega))
 have HT1:=hid (kM.fD ho1)
 have hz1:w.heap.size+2<w1.heap.size:=by have:=hb1.size; omega
 obtain ⟨at1,ct1,rfl⟩:=aI ho1
 clear hb1 HX HY HZ ho1 hz0
 have YL:=hid (kG _ (lS p pl) (pK R) 269 #[.pointer (some ⟨w.heap.size,0,none⟩)] w1 HT1.out LD (fun W z hz hW=>LG R vp vs ve z _ W (dn.out.stays hW) ((HR.out.below HB1.out (Nat.le_refl _)).below hW (by have:=HB1.out.size; omega)) HK.out.r (MZ.out z hz).1 (MZ.out z hz).2))
 have Dl:=hid (kG _ (lS p pl) (qU R x.piece (R.pieces.length+1)) 267 #[.pointer (some ⟨w.heap.size,0,none⟩),.pointer (some ⟨w.heap.size+2,0,none⟩)] w1 HT1.out VU (fun W z hz hW=>VX R vp vs ve x z _ _ W (dn.out.stays hW) (HZ1.out.stays hW) ((HR.out.below HB1.out (Nat.le_refl _)).below hW (by have:=HB1.out.size; omega)) HK.out.r (MZ.out z hz).1 (MZ.out z hz).2))
 have q6:=dn.out.cell 6 rfl
 have x0:=HZ1.out.cell 0 rfl
 have x2:=HZ1.out.cell 2 rfl
 have x3:=HZ1.out.cell 3 rfl
 generalize lS p pl=ts at *
 generalize JH p pl=nz at *
 by_cases hA:x.loses=true∨x.kind=2
 ·have HE:Hid (kC R p x pl=true):=hid (by rw [HD.out,if_pos hA])
  clear HD YL Dl
  rcases hl:x.loses with _ | _
  ·rw [hl] at x3 hA
   have hk:(x.kind == 2)=true:=by simpa using hA
   clear hA
   go_wp2_with fail
   go_ret
   exact ⟨by rw [HE.out]; rfl,HB1.out⟩
  ·rw [hl] at x3
   clear hA
   go_wp2_with fail
   go_ret
   exact ⟨by rw [HE.out]; rfl,HB1.out⟩
 have HD1:Hid (kC R p x pl=if (x.kind=0∧x.count≤nz)∨(x.kind=1∧ts.any (qU R x.piece (R.pieces.length+1))=true) then true
  else R.keeps && ts.any (pK R)):=hid (by rw [HD.out,if_neg hA])
 have hlo:x.loses=false:=by cases h:x.loses; rfl; exact absurd (.inl h) hA
 have hkk:x.kind=0∨x.kind=1:=by rcases hk3 with h | h | h; exact .inl h; exact .inr h; exact absurd (.inr h) hA
 rw [hlo] at x3
 clear hA HD hk3 hlo
 rcases hkk with hk0 | hk1
 ·rw [hk0] at x0
  have HD2:Hid (kC R p x pl=if x.count≤nz then true else R.keeps && ts.any (pK R)):=hid (by
   rw [HD1.out]
   by_cases q:x.count≤nz
   ·rw [if_pos (.inl ⟨hk0,q⟩),if_pos q]
   ·rw [if_neg (by rw [hk0]; simp [q]),if_neg q])
  clear HD1 hk0 Dl
  by_cases hc:x.count≤nz
  ·have HE:Hid (kC R p x pl=true):=hid (by rw [HD2.out,if_pos hc])
   clear HD2
   go_wp2_with fail
   go_ret
   exact ⟨by rw [HE.out]; rfl,HB1.out⟩
  have HE:Hid (kC R p x pl=(R.keeps && ts.any (pK R))):=hid (by rw [HD2.out,if_neg hc])
  clear HD2
  rcases hkeep:R.keeps with _ | _
  ·have HF:Hid (kC R p x pl=false):=hid (by rw [HE.out,hkeep]; rfl)
   rw [hkeep] at q6
   clear HE hkeep YL
   go_wp2_with fail
   go_ret
   exact ⟨by rw [HF.out]; rfl,HB1.out⟩
  ·have HF:Hid (kC R p x pl=ts.any (pK R)):=hid (by rw [HE.out,hkeep]; rfl)
   rw [hkeep] at q6
   clear HE hkeep
   go_wp2_with fail
   refine YL.out.mono ?_
   rintro e w3 ⟨rfl,hb3⟩
   have HB3:=hid (aj HB1.out hb3 HB1.out.size)
   clear hb3
   go_wp2_with fail
   go_ret
   exact ⟨by rw [HF.out]; rfl,HB3.out⟩
 ·rw [hk1] at x0
  have HD2:Hid (kC R p x pl=if ts.any (qU R x.piece (R.pieces.length+1))=true then true else R.keeps && ts.any (pK R)):=hid (by
   rw [HD1.out]
   by_cases q:ts.any (qU R x.piece (R.pieces.length+1))=true
   ·rw [if_pos (.inr ⟨hk1,q⟩),if_pos q]
   ·rw [if_neg (by rw [hk1]; simp [q]),if_neg q])
  clear HD1 hk1
  go_wp2_with fail
  refine Dl.out.mono ?_
  rintro e w2 ⟨rfl,hb2⟩
  have HB2:=hid (aj HB1.out hb2 HB1.out.size)
  have jH:=hid (dn.out.stays hb2)
  have HT2:=hid (HT1.out.below hb2 (Nat.le_refl _))
  clear hb2 Dl YL q6 x0 x2 x3 HZ1
  have YL:=hid (kG _ ts (pK R) 269 #[.pointer (some ⟨w.heap.size,0,none⟩)] w2 HT2.out LD (fun W z hz hW=>LG R vp vs ve z _ W (jH.out.stays hW) ((HR.out.below HB2.out (Nat.le_refl _)).below hW (by have:=HB2.out.size; omega)) HK.out.r (MZ.out z hz).1 (MZ.out z hz).2))
  have q6:=jH.out.cell 6 rfl
  rcases hany:ts.any (qU R x.piece (R.pieces.length+1)) with _ | _
  rotate_left
  ·have HE:Hid (kC R p x pl=true):=hid (by rw [HD2.out,hany]; rfl)
   clear HD2 hany
   go_wp2_with fail
   go_ret
   exact ⟨by rw [HE.out]; rfl,HB2.out⟩
  have HE:Hid (kC R p x pl=(R.keeps && ts.any (pK R))):=hid (by rw [HD2.out,hany]; rfl)
  clear HD2 hany
  rcases hkeep:R.keeps with _ | _
  ·have HF:Hid (kC R p x pl=false):=hid (by rw [HE.out,hkeep]; rfl)
   rw [hkeep] at q6
   clear HE hkeep YL
   go_wp2_with fail
   go_ret
   exact ⟨by rw [HF.out]; rfl,HB2.out⟩
  ·have HF:Hid (kC R p x pl=ts.any (pK R)):=hid (by rw [HE.out,hkeep]; rfl)
   rw [hkeep] at q6
   clear HE hkeep
   go_wp2_with fail
   refine YL.out.mono ?_
   rintro e w3 ⟨rfl,hb3⟩
   have HB3:=hid (aj HB2.out hb3 HB2.out.size)
   clear hb3
   go_wp2_with fail
   go_ret
   exact ⟨by rw [HF.out]; rfl,HB3.out⟩
theorem Rx (R:aC) (vp vs ve:Value) (p:bg) (vc v0 v1:Value) (x:ql) (pl:Int) (b0 b1 b2:Nat) (w:World) (B0:Box w b0 [.string R.name,.int .i64 R.width,.int .i64 R.height,vp,vs,.bool R.falls,.bool R.keeps,ve,.int .i64 R.blocked,.int .i64 R.quiet,.int .i64 R.bF] 46) (B1:Box w b1 [vc,v0,v1,.int .i64 p.turn,.int .i64 p.quiet] 78) (B2:Box w b2 [.int .i64 pl] 3)
  (hr:gI fK w vp R.pieces) (hp:pX w p vc v0 v1) (K:nV R p) (hx:kN R.pieces.length x=0) (hpl:pl=0∨pl=1) :
  Calls Tryz.prog 232 (#[(.agg #[.int .i64 x.kind,.int .i64 x.piece,.int .i64 x.count,.bool x.loses])] ++ #[.pointer (some ⟨b0,0,none⟩),.pointer (some ⟨b1,0,none⟩),.pointer (some ⟨b2,0,none⟩)]) w fun e w'=>e=.returned (.bool (kC R p x pl))∧Below w.heap.size w w':=by
 show Calls Tryz.prog 232 #[(.agg #[.int .i64 x.kind,.int .i64 x.piece,.int .i64 x.count,.bool x.loses]),.pointer (some ⟨b0,0,none⟩),.pointer (some ⟨b1,0,none⟩),.pointer (some ⟨b2,0,none⟩)] w _
 have HHO:=fun (w':World) (h:Below w.heap.size w w')=>hid (Rw R vp vs ve p vc v0 v1 x pl w' (hr.below h (Nat.le_refl _)) (hp.below h (Nat.le_refl _)) K hx hpl)
 have HHh:=hid HHO
 have HX:=hid B0
 have HY:=hid B1
 have HZ:=hid B2
 clear B0 B1 B2 hp HHO hr
 go_enter Tryz.func232,Tryz.ntmps232
 go_upto_region 1 with (fail)
 refine lM fun w0 hb0 dM hs_=>?_
 have HB:=hid dM
 clear hs_ dM
 have HX0:=hid (HX.out.stays HB.out)
 have HY0:=hid (HY.out.stays HB.out)
 have HZ0:=hid hb0
 have z0:=(HZ.out.stays HB.out).cell 0 rfl
 clear hb0
 refine wp_region_lit ?_
 refine aB (by rfl) 46 (.tmp 1) (by rfl) (b0) (by rfl) HX0.out Tryz.underlying46 (by rfl) (by kernel_rfl) ?_
 refine aB (by rfl) 78 (.tmp 2) (by rfl) (b1) (by rfl) HY0.out Tryz.underlying78 (by rfl) (by kernel_rfl) ?_
 refine aB (by rfl) 147 (.tmp 4) (by rfl) (w.heap.size) (by rfl) HZ0.out Tryz.underlying147 (by rfl) (by kernel_rfl) ?_
 go_wp2_with fail
 refine (HHh.out w0 HB.out).out.mono ?_
 rintro e w1 ⟨rfl,hb1⟩
 have HB1:=hid (aj HB.out hb1 HB.out.size)
 clear hb1 z0
 go_wp2_with fail
 go_ret
 exact ⟨rfl,HB1.out⟩
def jM (R:aC) (p:bg) (pl:Int):Int:=if fQ R p≠0 then fQ R p else if pl≠0∧pl≠1 then 1 else 0
def ug (R:aC) (p:bg) (pl:Int):Bool:=if jM R p pl≠0 then false else Hr R p pl
theorem Ih (R:aC) (vp vs ve:Value) (p:bg) (vc v0 v1:Value) (pl:Int) (w:World) (hr:ru w R vp vs ve) (hnm:R.name.size≤maxLen) (hp:pX w p vc v0 v1) :
  Calls Tryz.prog 193 #[(.agg #[.string R.name,.int .i64 R.width,.int .i64 R.height,vp,vs,.bool R.falls,.bool R.keeps,ve,.int .i64 R.blocked,.int .i64 R.quiet,.int .i64 R.bF]),(.agg #[vc,v0,v1,.int .i64 p.turn,.int .i64 p.quiet]),.int .i64 pl] w fun e w'=>e=.returned (.tuple #[.bool (ug R p pl),.int .i64 (jM R p pl)])∧Below w.heap.size w w':=by
 have HD:Hid (jM R p pl=if fQ R p≠0 then fQ R p else if pl≠0∧pl≠1 then 1 else 0):=hid rfl
 have HQ:Hid (ug R p pl=if jM R p pl≠0 then false else Hr R p pl):=hid rfl
 have HCD:Hid (Hr R p pl=if R.blocked≠2 then true else R.ends.any fun x=>kC R p x pl):=hid rfl
 have HR:=hid hr
 have HP:=hid hp
 have HN:=hid hnm
 obtain ⟨ae,ce,rfl,hl1,hl2⟩:=hr.2.2.form
 unfold maxLen at hl2
 clear hr hp hnm
 go_enter Tryz.func193,Tryz.ntmps193
 go_upto_region 1 with (fail)
 refine Cb fun w0 B0 B1 B2 dM hs_=>?_
 have HB:=hid dM
 have hz0:w.heap.size+1+1<w0.heap.size:=by omega
 clear hs_ dM
 have HX:=hid B0
 have HY:=hid B1
 have HZ:=hid B2
 clear B0 B1 B2
 refine wp_region_lit ?_
 refine aB (by rfl) 46 (.tmp 3) (by rfl) (w.heap.size) (by rfl) HX.out Tryz.underlying46 (by rfl) (by kernel_rfl) ?_
 refine aB (by rfl) 78 (.tmp 4) (by rfl) (w.heap.size+1) (by rfl) HY.out Tryz.underlying78 (by rfl) (by kernel_rfl) ?_
 go_wp2_with fail
 refine (rE R vp vs _ p vc v0 v1 w0 (HR.out.below HB.out (Nat.le_refl _)) HN.out (HP.out.below HB.out (Nat.le_refl _))).mono ?_
 rintro e w1 ⟨rfl,hb1⟩
 have HB1:=hid (aj HB.out hb1 HB.out.size)
 have dn:=hid (HX.out.below hb1 (by omega))
 have HY1:=hid (HY.out.below hb1 (by omega))
 have HZ1:=hid (HZ.out.below hb1 (by omega))
 have hz1:w.heap.size+2<w1.heap.size:=by have:=hb1.size; omega
 clear hb1 HX HY HZ hz0
 have z0:=HZ1.out.cell 0 rfl
 by_cases he:fQ R p=0
 rotate_left
 ·have hE:jM R p pl=fQ R p:=by rw [HD.out,if_pos he]
  have HE:=hid hE
  have HG:Hid (ug R p pl=false):=hid (by rw [HQ.out,hE,if_pos he])
  have heb:(fQ R p != 0)=true:=by simpa using he
  clear hE he HQ HD HCD
  go_wp2_with fail
  go_ret2
  exact ⟨by rw [HG.out,HE.out]; rfl,HB1.out⟩
 have HZE:=hid he
 have HD1:Hid (jM R p pl=if pl≠0∧pl≠1 then 1 else 0):=hid (by rw [HD.out,if_neg (by simp [he])])
 rw [he]
 clear he HD
 by_cases hpl:pl=0∨pl=1
 rotate_left
 ·have hp0:(pl != 0)=true:=by simp; omega
  have hp1:(pl != 1)=true:=by simp; omega
  have hE:jM R p pl=1:=by rw [HD1.out,if_pos (by omega)]
  have HE:=hid hE
  have HG:Hid (ug R p pl=false):=hid (by rw [HQ.out,hE]; rfl)
  clear hE hpl HQ HD1 HCD
  go_wp2_with fail
  go_ret2
  exact ⟨by rw [HG.out,HE.out]; rfl,HB1.out⟩
 have hE:jM R p pl=0:=by rw [HD1.out,if_neg (by omega)]
 have HE:=hid hE
 have HG:Hid (ug R p pl=Hr R p pl):=hid (by rw [HQ.out,hE]; rfl)
 have HPL:=hid hpl
 clear hE HD1 HQ
 have HK:=hid (PN HZE.out)
 have HCE:=hid (zq _ R.ends (fun x=>kC R p x pl) 232 #[.pointer (some ⟨w.heap.size,0,none⟩),.pointer (some ⟨w.heap.size+1,0,none⟩),.pointer (some ⟨w.heap.size+2,0,none⟩)] w1 (HR.out.2.2.below HB1.out (Nat.le_refl _)) VW (fun W x cs hx hE hW=>by
  simp only [kX] at hE
  subst hE
  obtain ⟨i,hi,rfl⟩:=List.mem_iff_getElem.1 hx
  have hee:=HK.out.r.ee i hi
  rw [List.getD_eq_getElem?_getD,List.getElem?_eq_getElem hi] at hee
  exact Rx R vp vs _ p vc v0 v1 R.ends[i] pl _ _ _ W (dn.out.stays hW) (HY1.out.stays hW) (HZ1.out.stays hW) ((HR.out.1.below HB1.out (Nat.le_refl _)).below hW (by have:=HB1.out.size; omega)) ((HP.out.below HB1.out (Nat.le_refl _)).below hW (by have:=HB1.out.size; omega)) HK.out hee HPL.out))
 have q7:=dn.out.cell 7 rfl
 have q8:=dn.out.cell 8 rfl
 have hpx:((pl != 0)=true∧(pl != 1)=false)∨(pl != 0)=false:=by rcases hpl with h | h <;> simp [h]
 clear hpl
 by_cases hb2:R.blocked=2
 ·have HF:Hid (ug R p pl=R.ends.any fun x=>kC R p x pl):=hid (by rw [HG.out,HCD.out,if_neg (by simp [hb2])])
  rw [hb2] at q8
  clear hb2 HG HCD
  rcases hpx with ⟨hp0,hp1⟩ | hp0
  ·go_wp2_with fail
   refine HCE.out.mono ?_
   rintro e w2 ⟨rfl,hb2⟩
   have HB2:=hid (aj HB1.out hb2 HB1.out.size)
   clear hb2
   go_wp2_with fail
   go_ret2
   exact ⟨by rw [HF.out,HE.out]; rfl,HB2.out⟩
  ·go_wp2_with fail
   refine HCE.out.mono ?_
   rintro e w2 ⟨rfl,hb2⟩
   have HB2:=hid (aj HB1.out hb2 HB1.out.size)
   clear hb2
   go_wp2_with fail
   go_ret2
   exact ⟨by rw [HF.out,HE.out]; rfl,HB2.out⟩
 ·have HF:Hid (ug R p pl=true):=hid (by rw [HG.out,HCD.out,if_pos hb2])
  have hbb:(R.blocked != 2)=true:=by simpa using hb2
  clear hb2 HG HCD
  rcases hpx with ⟨hp0,hp1⟩ | hp0
  ·go_wp2_with fail
   go_ret2
   exact ⟨by rw [HF.out,HE.out]; rfl,HB1.out⟩
  ·go_wp2_with fail
   go_ret2
   exact ⟨by rw [HF.out,HE.out]; rfl,HB1.out⟩
end Go.Proofs.YtmabaojkignodaaGreatDoor
namespace Go.Proofs.YtmabaojkignodaaGreatDoor
open Go.ChangeShapes Go.WideShapes Go.ChangeAt Go.RowKit
set_option linter.unusedVariables false
open Go.Lib (hid)
theorem Ii (v:Value) (es:List iL) (w:World) (h:zL w v es) (hok:OkJ es) (hlen:es.length≤1000) :
  Calls Tryz.prog 52 #[v] w (zK 0 w):=by
 have HG:=hid (Vt v es w h hok hlen)
 obtain ⟨a,c,rfl,h1,h2,hc⟩:=h.form
 unfold maxLen at h2
 clear h hok hc
 go_enter Tryz.func52,Tryz.ntmps52
 go_wp2_with fail
 refine HG.out.mono ?_
 rintro e w1 ⟨rfl,hb⟩
 go_wp2_with fail
 go_ret
 exact ⟨rfl,hb⟩
theorem Xk:(Tryz.prog.info? 131).map (fun i=>(i.zero,i.size,i.bytes))=some (some (.agg #[.string ByteArray.empty,.int .u64 0]),2,24):=by kernel_rfl
theorem NZ (es:List iL):∀ u∈gK es,u.oneCell'=true:=by
 intro u hu
 simp only [gK,List.mem_flatMap] at hu
 obtain ⟨e,_,hq⟩:=hu
 simp at hq
 rcases hq with rfl | rfl <;> rfl
def YM (es:List iL) (w:World) (v:Value) (w':World):Prop:=w'.ownsRow w.heap.size 131 2 v es.length (gK es)∧Below w.heap.size w w'
theorem Ba (v:Value) (es:List iL) (w:World) (h:zL w v es) (hl:es.length≤1000000) :
  Calls Tryz.prog 56 #[v] w fun e w'=>∃ v',e=.returned v'∧YM es w v' w':=by
 obtain ⟨i0,hi,hz0,hz1,hz2⟩:=info_parts Xk
 have hq:=fun (w:World) (a:Option Addr) (n c:Nat)=>Lib.run_eql_slice_nil (P:=Tryz.prog) w 61 131 a n c 0 0 Tryz.underlying61
 have hform:(∃ c,v=.slice none 0 c∧es=[])∨∃ (ad:Addr) (c:Nat),v=.slice (some ad) es.length c∧es.length≤c∧c≤maxLen∧∀ j u,(gK es)[j]?=some u→(w.alloc (.cells #[] 131)).cell? (ad.add j)=some u:=by
  rcases h.2 with ⟨⟨a,c,rfl,hm⟩,hz⟩ | ⟨g,o,c,rfl,h1,h2,hc⟩
  ·obtain rfl:es=[]:=List.length_eq_zero_iff.1 hz
   cases a with
   | none=>exact .inl ⟨c,rfl,rfl⟩
   | some ad=>exact .inr ⟨ad,c,rfl,by simp,hm,fun j u hu=>by simp [gK] at hu⟩
  ·refine .inr ⟨⟨g,o,none⟩,c,rfl,h1,h2,fun j u hu=>?_⟩
   have hj:j<es.length * 2:=by
    have:=(List.getElem?_eq_some_iff.1 hu).1
    rwa [Dy] at this
   have hcell:=hc j hj
   rw [hu] at hcell
   have hlt:=World.block_lt_of_cell? w _ hcell
   rw [qo,World.cell?_of_block (w:=w) (a:=⟨g,o+j,none⟩) (Below.heap_alloc w _ g hlt)]
   exact hcell
 rcases hform with ⟨c,rfl,rfl⟩ | ⟨ad,c,rfl,h1,h2,hnews⟩
 ·clear h hl
  go_enter Tryz.func56,Tryz.ntmps56
  go_wp2
  go_ret
  exact ⟨_,rfl,World.ownsRow_nil _ _ _ _,Below.refl _ _⟩
 ·have hown0:(w.alloc (.cells #[] 131)).ownsRow w.heap.size 131 2 (.slice (some ⟨w.heap.size,0,none⟩) 0 0) 0 []:=World.ownsRow_made w #[] 0 (Nat.le_refl _) (by unfold maxLen; omega) rfl
  have oM:=hid hown0
  have oN:=hid hnews
  have ML:=hid (Dy es)
  have S1:=hid (NZ es)
  clear hown0 hnews h
  go_enter Tryz.func56,Tryz.ntmps56
  go_wp2_with (at_builtin; refine wpList_append_own _ rfl _ _ 61 rfl w.heap.size 131 i0 (.agg #[.string ByteArray.empty,.int .u64 0]) 2 24 Tryz.underlying61 hi hz0 hz1 hz2 rfl (by decide) _ 0 [] rfl oM.out ad es.length c (gK es) rfl ML.out oN.out S1.out ?c3 ?c4 ?c5 ?_)
  case c3=>unfold maxLen; omega
  case c4=>omega
  case c5=>simp
  intro v' w2 hown' hgrow _
  try simp only [Nat.zero_add,List.nil_append] at hown'
  have hb:Below w.heap.size w w2:=Below.grown ((Below.refl _ w).alloc (Nat.le_refl _) _) hgrow (by simp) (fun q hq=>by simp [Value.ownBlock] at hq; omega)
  have HO:=hid hown'
  clear hown' hgrow
  go_wp2
  go_ret
  exact ⟨v',rfl,HO.out,hb⟩
def appJ (es:List iL) (s:ByteArray):List iL×Int:=if textE s≠0 then ([],textE s) else (es++[⟨s,zh (qN es) s⟩],0)
def VZ (r:List iL×Int) (w:World) (e:Ending) (w':World):Prop:=∃ v',e=.returned (.tuple #[v',.int .i64 r.2])∧YM r.1 w v' w'
set_option maxHeartbeats 1000000 in
theorem sJ (v:Value) (es:List iL) (s:ByteArray) (w:World) (h:zL w v es) (hok:OkJ es) (hlen:es.length≤100) (hs:s.size≤9223372036854775807) :
  Calls Tryz.prog 46 #[v,.string s] w (VZ (appJ es s) w):=by
 obtain ⟨i0,hi,hz0,hz1,hz2⟩:=info_parts Xk
 have HC:=hid (Ii v es w h hok (by omega))
 have HT:=hid (fun w=>Hu s w hs)
 have HR:Hid (appJ es s=if textE s≠0 then ([],textE s) else (es++[⟨s,zh (qN es) s⟩],0)):=hid rfl
 have HJ:=hid h
 obtain ⟨a,c,rfl,h1,h2,hc⟩:=h.form
 unfold maxLen at h2
 clear h hok hc
 go_enter Tryz.func46,Tryz.ntmps46
 go_wp2_with fail
 refine HC.out.mono ?_
 rintro e w1 ⟨rfl,hb1⟩
 go_wp2_with fail
 refine (HT.out _).mono ?_
 rintro e w2 ⟨rfl,hb2⟩
 have Ry:=hb1.trans (hb2.mono hb1.size)
 have HJ2:=hid (HJ.out.below Ry (Nat.le_refl _))
 clear hb1 hb2
 cases hr:(textE s != 0)
 ·have hr0:textE s=0:=by simpa using hr
  have HR2:Hid (appJ es s=(es++[⟨s,zh (qN es) s⟩],0)):=hid (by rw [HR.out,if_neg (by simpa using hr0)])
  rw [hr0]
  have hnf:(((es.length:Int)) == 1000)=false:=by simp; omega
  clear hr hr0 HR HT HC
  go_wp2_with fail
  refine (Ba _ es _ HJ2.out (by omega)).mono ?_
  rintro e w3 ⟨v3,rfl,ho3,hb3⟩
  have HJ3:=hid (HJ2.out.below hb3 (Nat.le_refl _))
  have xH:=hid ho3
  have aeS:=Ry.trans (hb3.mono Ry.size)
  have hs3:=hb3.size
  have hs2:=Ry.size
  clear ho3 hb3
  go_wp2_with fail
  refine (last_any _ es _ HJ3.out).mono ?_
  rintro e w' ⟨rfl,rfl⟩
  go_wp2_with fail
  refine (Lp (qN es) s _ hs).mono ?_
  rintro e w' ⟨rfl,rfl⟩
  generalize zh (qN es) s=z at *
  have HOa:=hid (xH.out.alloc (.cells #[.string s,.int .u64 z] 131))
  have S1:Hid (∀ u∈[Value.string s,.int .u64 z],u.oneCell'=true):=hid (fun u hu=>by simp at hu; rcases hu with rfl | rfl <;> rfl)
  have S2:Hid (es.length+1≤maxLen):=hid (by unfold maxLen; omega)
  have S3:Hid ((es.length+1) * 24≤140737488355328):=hid (by omega)
  have S4:Hid (w2.heap.size≤(w3.alloc (.cells #[.string s,.int .u64 z] 131)).heap.size):=hid (by simp; omega)
  have S5:Hid ((w3.alloc (.cells #[.string s,.int .u64 z] 131)).heap.size=w3.heap.size+1):=hid (by simp)
  have S0:Hid (0<1):=hid (by omega)
  go_wp2_with (at_builtin; refine wpList_append_lies _ rfl _ _ 61 rfl w2.heap.size 131 i0 (.agg #[.string ByteArray.empty,.int .u64 0]) 2 24 Tryz.underlying61 hi hz0 hz1 hz2 rfl (by decide) _ es.length (gK es) rfl HOa.out ⟨w3.heap.size,0,none⟩ 1 1 [.string s,.int .u64 z] rfl rfl (cell_two_new _ _ _ _) S1.out S0.out S2.out S3.out S4.out (w3.heap.size+1) S5.out ?_)
  intro g4 c4 w4 hown4 hgrow4 aeU hlt4
  have hb4:Below w.heap.size w w4:=Below.grown (aeS.alloc (by omega) _) hgrow4 (by simp; omega) (fun q hq=>by have:=(HOa.out.lt q hq).1; omega)
  have HO4:=hid hown4
  clear hown4 hgrow4 aeU hlt4 HOa
  go_wp2_with fail
  go_ret2
  exact ⟨_,by rw [HR2.out]; rfl,by rw [HR2.out]; refine ⟨?_,hb4⟩; simp only [Et,List.length_append]; have:=HO4.out; exact ⟨by simpa [gK] using this.1,by
   rcases this.2 with ⟨q,_⟩ | ⟨g',cap',cur',q1,q2,q3⟩
   ·cases q
   ·exact .inr ⟨g',cap',cur',q1,by omega,q3⟩⟩⟩
 ·have hr':¬ textE s=0:=by simpa using hr
  have HR2:Hid (appJ es s=([],textE s)):=hid (by rw [HR.out,if_pos hr'])
  generalize textE s=t at *
  clear hr'
  go_wp2_with fail
  go_ret2
  exact ⟨_,by rw [HR2.out]; rfl,by rw [HR2.out]; exact ⟨World.ownsRow_nil _ _ _ _,Ry⟩⟩
structure jv where
  vp:Value
  vs:Value
  ve:Value
  pa:Option Addr
  pc:Nat
  g:Nat
  vr:Value
  vj:Value
def J6 (M:aG) (B:jv):List Value:=
  [.string M.R.name,.int .i64 M.R.width,.int .i64 M.R.height,B.vp,B.vs,.bool M.R.falls,.bool M.R.keeps,B.ve,.int .i64 M.R.blocked,.int .i64 M.R.quiet,.int .i64 M.R.bF,
   .slice B.pa M.CR.ps.length B.pc,.int .i64 M.CR.inc,.int .i64 M.CR.delay,.pointer (some ⟨B.g,0,none⟩),.slice none 0 0,.int .i64 M.res,.int .i64 M.reason,
   .int .i64 M.clk.l0,.int .i64 M.clk.l1,.int .i64 M.clk.m0,.int .i64 M.clk.m1,.int .i64 M.clk.p0,.int .i64 M.clk.p1,.int .i64 M.clk.turn,.int .i64 M.clk.since,.bool M.clk.st,.int .i64 M.clk.ak,
   .int .i64 M.off.b0,.int .i64 M.off.b1,.int .i64 M.off.aY,.int .i64 M.off.aZ,.int .i64 M.off.l10,.int .i64 M.off.aX,B.vr,.int .i64 M.last,B.vj]
structure RD (M:aG) (B:jv) (w:World):Prop where
  rd:ru w M.R B.vp B.vs B.ve
  per:clk.dV w w.heap.size B.pa M.CR.ps.length M.CR.ps
  pc:M.CR.ps.length≤B.pc∧B.pc≤maxLen
  pr:gI dF w B.vr M.aS
  jr:zL w B.vj M.jr
def one1 (b:Nat):Nat→Prop:=fun k=>k=b
def Ut:Nat→Prop:=fun _=>False
def out1 (X:Nat→Prop) (b:Nat):Nat→Prop:=fun k=>k=b∨X k
structure aH (X S:Nat→Prop) (base:Nat) (w:World) (b:Nat) (M:aG) (B:jv):Prop where
  box:Box w b (J6 M B) 119
  nb:¬ S b
  lo:base≤b
  game:∃ up us ue vl vm rows,gx.bP (out1 X b) S base w B.g M.R M.ms up us ue vl vm rows
  rd:gx.Held (out1 X b) S w (RD M B)
  nx:∀ k,X k→¬ S k∧k<w.heap.size
theorem aH.fr {X S:Nat→Prop} {base:Nat} {w:World} {b:Nat} {M:aG} {B:jv} (h:aH X S base w b M B):RD M B w:=h.rd.now
theorem aH.below {X S:Nat→Prop} {base:Nat} {w w':World} {b:Nat} {M:aG} {B:jv} (h:aH X S base w b M B) (hb:Below w.heap.size w w'):aH X S base w' b M B:=by
  obtain ⟨up,us,ue,vl,vm,rows,hg⟩:=h.game
  exact ⟨h.box.stays hb,h.nb,h.lo,⟨_,_,_,_,_,_,hg.below hb⟩,h.rd.step (Fr.jF (S:=S) hb) (dw.refl _ _),fun k hk=>⟨(h.nx k hk).1,Nat.lt_of_lt_of_le (h.nx k hk).2 hb.size⟩⟩
def dD (S:Nat→Prop) (b:Nat) (w w':World):Prop:=Fr (fun k=>S k∨one1 b k) w w'
theorem dD.refl (S:Nat→Prop) (b:Nat) (w:World):dD S b w w:=Fr.refl _ _
theorem dD.trans {S S':Nat→Prop} {b:Nat} {w w1 w2:World} (h:dD S b w w1) (k:dD S' b w1 w2) (hs:dw w S S'):dD S b w w2:=
  Fr.trans h k (fun i hi h'=>by rcases h' with h' | h'; exact .inl (hs i hi h'); exact .inr h')
theorem dD.new {S:Nat→Prop} {b:Nat} {w w':World} (h:Below w.heap.size w w'):dD S b w w':=Fr.jF h
theorem dD.base {X S:Nat→Prop} {base b:Nat} {w w':World} {M:aG} {B:jv} (m:aH X S base w b M B) (h:dD S b w w') (hb:base≤w.heap.size):Below base w w':=by
  obtain ⟨up,us,ue,vl,vm,rows,hg⟩:=m.game
  exact Fr.below h (fun k hk=>by rcases hk with hk | hk; exact (hg.lo k hk).1; rw [show k=b from hk]; exact m.lo) hb
theorem aH.put {X S:Nat→Prop} {base:Nat} {w:World} {b:Nat} {M M':aG} {B B':jv} (h:aH X S base w b M B) (o:Nat) (vs:List Value) (hl:o+vs.length≤37) (he:splice (J6 M B) o vs=J6 M' B') (hr:M'.R=M.R) (hm:M'.ms=M.ms) (hg:B'.g=B.g)
    (hd:gx.Held (out1 X b) S w (RD M' B')):aH X S base (w.setCells b o vs) b M' B'∧dD S b w (w.setCells b o vs):=by
  have hf:dD S b w (w.setCells b o vs):=(Fr.refl _ _).setCells (.inr rfl) o vs
  obtain ⟨up,us,ue,vl,vm,rows,hgm⟩:=h.game
  have hfx:Fr (out1 X b) w (w.setCells b o vs):=(Fr.refl (out1 X b) w).setCells (b:=b) (show out1 X b b from .inl rfl) o vs
  refine ⟨⟨h.box.Q8 o (by simpa [J6] using hl) he,h.nb,h.lo,⟨up,us,ue,vl,vm,rows,?_⟩,hd.Ls (hf.mono (fun k _ hk=>by rcases hk with hk | hk; exact .inl hk; exact .inr (.inl hk))) (dw.refl _ _),fun k hk=>⟨(h.nx k hk).1,Nat.lt_of_lt_of_le (h.nx k hk).2 hf.size⟩⟩,hf⟩
  rw [hr,hm,hg]
  exact hgm.other hfx (fun k hk hx=>by rcases hx with hx | hx; exact h.nb (by rw [← (show k=b from hx)]; exact hk); exact (h.nx k hx).1 hk)
theorem aH.wL {X S:Nat→Prop} {base b:Nat} {M:aG} {B:jv} {w:World} (h:aH X S base w b M B) (k:Nat) (hk:S k∨out1 X b k):k<w.heap.size:=by
  obtain ⟨up,us,ue,vl,vm,rows,hg⟩:=h.game
  rcases hk with hk | hk | hk
  · exact (hg.lo k hk).2
  · rw [hk]; exact h.box.lt
  · exact (h.nx k hk).2
end Go.Proofs.YtmabaojkignodaaGreatDoor
namespace Go.Proofs.YtmabaojkignodaaGreatDoor
open Go.ChangeShapes Go.WideShapes Go.ChangeAt Go.RowKit
set_option linter.unusedVariables false
set_option maxRecDepth 100000
open Go.Lib (hid)
def wM (X S:Nat→Prop) (base b:Nat) (w:World) (M':aG) (w':World):Prop:=∃ S' B',aH X S' base w' b M' B'∧dw w S S'∧dD S b w w'
variable {X S:Nat→Prop} {base b:Nat} {M:aG} {B:jv}
theorem N7 (a b c:Value) (t q:Int) (w:World):(Instr.field 78 (.agg #[a,b,c,.int .i64 t,.int .i64 q]) 2).run Tryz.prog w=.ok (.int .i64 t) w:=by kernel_rfl
theorem J7 (a b c:Value) (t q:Int) (w:World):(Instr.field 78 (.agg #[a,b,c,.int .i64 t,.int .i64 q]) 3).run Tryz.prog w=.ok (.int .i64 q) w:=by kernel_rfl
theorem lF (w:World) (h:aH X S base w b M B):Calls Tryz.prog 133 #[.pointer (some ⟨b,0,none⟩)] w fun e w'=>e=.returned (.int .i64 M.pos.turn)∧Below w.heap.size w w':=by
 obtain ⟨up,us,ue,vl,vm,rows,hg⟩:=h.game
 have HG:=hid hg.plain
 have HD:Hid (M.pos=bn M.R M.ms):=hid rfl
 have c14:=h.box.cell 14 rfl
 clear h hg
 go_enter Tryz.func133,Tryz.ntmps133
 go_wp2_with fail
 refine (iG w HG.out).mono ?_
 rintro e w1 ⟨vc,v0,v1,rfl,ho,hb⟩
 have HB:=hid hb
 clear hb ho
 have HT:Hid ((bn M.R M.ms).turn=M.pos.turn):=hid rfl
 have hfT:=N7 vc v0 v1 (bn M.R M.ms).turn (bn M.R M.ms).quiet
 generalize (bn M.R M.ms).turn=tt at *
 generalize (bn M.R M.ms).quiet=qq at *
 go_wp2_with fail
 go_ret
 exact ⟨by rw [HT.out]; rfl,HB.out⟩
theorem kW (w:World) (h:aH X S base w b M B):Calls Tryz.prog 135 #[.pointer (some ⟨b,0,none⟩)] w fun e w'=>e=.returned (.int .i64 M.ms.length)∧Below w.heap.size w w':=by
 obtain ⟨up,us,ue,vl,vm,rows,hg⟩:=h.game
 have HG:=hid hg.plain
 have c14:=h.box.cell 14 rfl
 clear h hg
 go_enter Tryz.func135,Tryz.ntmps135
 go_wp2_with fail
 refine (tC w HG.out).mono ?_
 rintro e w1 ⟨v,rfl,ho,hb⟩
 obtain ⟨a,c,rfl⟩:=aI ho
 have HB:=hid hb
 clear hb ho
 go_wp2_with fail
 go_ret
 exact ⟨rfl,HB.out⟩
theorem wO (HS:SortMvSaid) (w:World) (h:aH X S base w b M B):Calls Tryz.prog 48 #[.pointer (some ⟨b,0,none⟩)] w fun e w'=>e=.returned (.tuple #[])∧wM X S base b w M.over w':=by
 obtain ⟨up,us,ue,vl,vm,rows,hg⟩:=h.game
 have HG:=hid hg.plain
 have HM:=hid h
 have HD:Hid (fM M.R M.ms=M.game):=hid rfl
 have lY:=hid HS
 have c14:=h.box.cell 14 rfl
 clear h hg HS
 go_enter Tryz.func48,Tryz.ntmps48
 go_wp2_with fail
 refine (rU lY.out w HG.out).mono ?_
 rintro e w1 ⟨rfl,hb⟩
 rw [HD.out]
 have bM:=hid (HM.out.below hb)
 have Dt:Hid (dD S b w w1):=hid (dD.new hb)
 have HZ:=hid hb
 clear hb c14
 have c16:=bM.out.box.cell 16 rfl
 have f16:=bM.out.box.frozen 16
 have c17:=bM.out.box.cell 17 rfl
 have f17:=bM.out.box.frozen 17
 by_cases hr:M.res=0
 ·have HRz:=hid hr
  rw [hr] at c16
  clear hr
  by_cases hz:M.game=0
  ·have HO:Hid (M.over=M):=hid (by unfold aG.over; rw [if_neg (fun h=>h.1 hz)])
   rw [hz]
   clear hz
   go_wp2_with fail
   go_end0
   exact ⟨rfl,S,B,by rw [HO.out]; exact bM.out,dw.refl _ _,Dt.out⟩
  ·have HO:Hid (M.over={ M with res:=M.game,reason:=1 }):=hid (by unfold aG.over; rw [if_pos ⟨hz,HRz.out⟩])
   have hzb:(M.game != 0)=true:=by simpa using hz
   have HP:=hid (bM.out.put (M':={ M with res:=M.game,reason:=1 }) (B':=B) 16 [.int .i64 M.game,.int .i64 1] (by simp) rfl rfl rfl rfl (bM.out.rd.imp (fun _ h=>⟨h.rd,h.per,h.pc,h.pr,h.jr⟩)))
   clear hz
   generalize M.game=gm at *
   go_wp2_with fail
   go_end0
   exact ⟨rfl,S,B,by rw [HO.out]; exact HP.out.1,dw.refl _ _,Dt.out.trans HP.out.2 (dw.refl _ _)⟩
 ·have HO:Hid (M.over=M):=hid (by unfold aG.over; rw [if_neg (fun h=>hr h.2)])
  have hrb:(M.res == 0)=false:=by simpa using hr
  clear hr
  generalize M.game=gm at *
  go_wp2_with fail
  go_end0
  exact ⟨rfl,S,B,by rw [HO.out]; exact bM.out,dw.refl _ _,Dt.out⟩
end Go.Proofs.YtmabaojkignodaaGreatDoor
