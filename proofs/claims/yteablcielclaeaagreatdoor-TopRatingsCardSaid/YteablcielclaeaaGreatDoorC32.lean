/- RwA, RwV, RwB. -/
import Derived.Test.YteablcielclaeaaGreatDoorC31
namespace Go.Proofs.YteablcielclaeaaGreatDoor
open Go.ChangeShapes Go.WideShapes Go.ChangeAt Go.RowKit
set_option linter.unusedVariables false
open Go.Lib (hid)
abbrev Vz:TypeId:=163
set_option maxRecDepth 100000
set_option maxHeartbeats 8000000
variable {R:au} {vp vs ve:Value}
theorem BM:(Tryz.prog.info? 9).map (fun i=>(i.zero,i.size,i.bytes))=some (some (.string ⟨#[]⟩),1,16):=by kernel_rfl
theorem YP {p:aV} (K:oK R p):∀ x∈aW R p,x.src<p.cells.length:=fun x hx=>(jZ K hx).s.2
def gW (l:List kC):List Value:=l.map fun x=>.string (bs x)
theorem Na (HS:SortMvSaid) (X:iM) (ta:Option Addr) (tc gn on nc n b:Nat) (p:aV) (vc v0 v1:Value) (w:World) (hb:Box w b [.string R.name,.int .i64 R.width,.int .i64 R.height,vp,vs,.bool R.falls,.bool R.keeps,ve,.int .i64 R.blocked,.int .i64 R.quiet,.int .i64 R.aZ,.slice ta X.tags.length tc,.string X.comment,.slice (some ⟨gn,on,none⟩) X.nodes.length nc,.int .i64 X.result] Vz) (hr:qo w R vp vs ve) (hp:tJ w p vc v0 v1) (K:oK R p) (L:sF R) (hll:(aW R p).length≤1000000)
  (hn:n<X.nodes.length) (hcs:(aG X.nodes n).comment.size≤1000) (hO:aer R p (aG X.nodes n).m) (hgl:gn<w.heap.size) (hnd:∀ i,i<X.nodes.length→w.cell? ⟨gn,on+i * 5,none⟩=some (.int .i64 (aG X.nodes i).parent)∧w.cell? ⟨gn,on+i * 5+1,none⟩=some (.int .i64 (aG X.nodes i).m.src) ∧
   w.cell? ⟨gn,on+i * 5+2,none⟩=some (.int .i64 (aG X.nodes i).m.dst)∧w.cell? ⟨gn,on+i * 5+3,none⟩=some (.int .i64 (aG X.nodes i).m.piece)∧w.cell? ⟨gn,on+i * 5+4,none⟩=some (.string (aG X.nodes i).comment)∧(aG X.nodes i).comment.size≤maxLen) :
  Calls Tryz.prog 106 #[.pointer (some ⟨b,0,none⟩),(.agg #[vc,v0,v1,.int .i64 p.turn,.int .i64 p.quiet]),.int .i64 n] w fun e w'=>∃ v,e=.returned v∧w'.ownsRow w.heap.size 9 1 v (je R p (aG X.nodes n).m (aG X.nodes n).comment).length (gW (je R p (aG X.nodes n).m (aG X.nodes n).comment))∧Below w.heap.size w w':=by
 have pq:=hid HS
 have HR:=hid hr
 have HP:=hid hp
 have HK:=hid K
 have TD:=hid L
 have HOf:=hid hO
 have bD:=hid hb
 obtain ⟨-,n1,n2,n3,n4,n5⟩:=hnd n hn
 obtain ⟨m,hm⟩:∃ m,m=(aG X.nodes n).m:=⟨_,rfl⟩
 obtain ⟨c,hc⟩:∃ c,c=(aG X.nodes n).comment:=⟨_,rfl⟩
 rw [← hm] at n1 n2 n3 HOf ⊢
 rw [← hc] at n4 n5 hcs ⊢
 have HN:=hid (And.intro n1 (And.intro n2 (And.intro n3 n4)))
 have hbl:=hb.lt
 clear hb hr hp K L hO hnd HS hm hc n1 n2 n3 n4
 have hn1:(n:Int)<(X.nodes.length:Int):=by omega
 go_enter Tryz.func106,Tryz.ntmps106
 go_upto_region 1 with (fail)
 refine pV ?_
 intro w0 xbP hB0 hS0
 have HB:=hid hB0
 obtain ⟨bP,hbP⟩:∃ bP,bP=w.heap.size:=⟨_,rfl⟩
 rw [← hbP] at xbP ⊢
 have ar5:w.heap.size≤bP:=by omega
 have HbP:=hid xbP
 have hS:bP<w0.heap.size:=by omega
 clear hB0 hS0 xbP hbP
 obtain ⟨wq,rfl⟩:∃ wq:World,wq=w0:=⟨_,rfl⟩
 have Dz:Box wq.drew b [.string R.name,.int .i64 R.width,.int .i64 R.height,vp,vs,.bool R.falls,.bool R.keeps,ve,.int .i64 R.blocked,.int .i64 R.quiet,.int .i64 R.aZ,.slice ta X.tags.length tc,.string X.comment,.slice (some ⟨gn,on,none⟩) X.nodes.length nc,.int .i64 X.result] Vz:=(bD.out.stays HB.out:Box wq b [.string R.name,.int .i64 R.width,.int .i64 R.height,vp,vs,.bool R.falls,.bool R.keeps,ve,.int .i64 R.blocked,.int .i64 R.quiet,.int .i64 R.aZ,.slice ta X.tags.length tc,.string X.comment,.slice (some ⟨gn,on,none⟩) X.nodes.length nc,.int .i64 X.result] Vz)
 have Ez:=HbP.out.drew
 have Lz:Below w.heap.size w wq.drew:=HB.out.drew
 have mz0:wq.drew.cell? ⟨gn,on+n * 5+1,none⟩=some (.int .i64 m.src):=(HB.out.cell (p:=⟨gn,on+n * 5+1,none⟩) hgl).trans HN.out.1
 have mz1:wq.drew.cell? ⟨gn,on+n * 5+2,none⟩=some (.int .i64 m.dst):=(HB.out.cell (p:=⟨gn,on+n * 5+2,none⟩) hgl).trans HN.out.2.1
 have mz2:wq.drew.cell? ⟨gn,on+n * 5+3,none⟩=some (.int .i64 m.piece):=(HB.out.cell (p:=⟨gn,on+n * 5+3,none⟩) hgl).trans HN.out.2.2.1
 have HRz:=HR.out.below Lz (Nat.le_refl _)
 have yP:=HP.out.below Lz (Nat.le_refl _)
 refine wp_region_noPanic ?_
 refine bU (S:=(fun w'=>w'.cell? ⟨b,0,none⟩=some (.string R.name)∧w'.cell? ⟨b,1,none⟩=some (.int .i64 R.width)∧w'.cell? ⟨b,2,none⟩=some (.int .i64 R.height)∧w'.cell? ⟨b,3,none⟩=some vp∧w'.cell? ⟨b,4,none⟩=some vs∧w'.cell? ⟨b,5,none⟩=some (.bool R.falls)∧w'.cell? ⟨b,6,none⟩=some (.bool R.keeps)∧w'.cell? ⟨b,7,none⟩=some ve∧w'.cell? ⟨b,8,none⟩=some (.int .i64 R.blocked)∧w'.cell? ⟨b,9,none⟩=some (.int .i64 R.quiet)∧w'.cell? ⟨b,10,none⟩=some (.int .i64 R.aZ)∧w'.cell? ⟨b,13,none⟩=some (.slice (some ⟨gn,on,none⟩) X.nodes.length nc)∧w'.cell? ⟨bP,0,none⟩=some vc∧w'.cell? ⟨bP,1,none⟩=some v0∧w'.cell? ⟨bP,2,none⟩=some v1∧w'.cell? ⟨bP,3,none⟩=some (.int .i64 p.turn)∧w'.cell? ⟨bP,4,none⟩=some (.int .i64 p.quiet)∧w'.cell? ⟨gn,on+n * 5+1,none⟩=some (.int .i64 m.src)∧w'.cell? ⟨gn,on+n * 5+2,none⟩=some (.int .i64 m.dst)∧w'.cell? ⟨gn,on+n * 5+3,none⟩=some (.int .i64 m.piece))) (L:=[]) (by kernel_rfl) ⟨Dz.cell 0 rfl,Dz.cell 1 rfl,Dz.cell 2 rfl,Dz.cell 3 rfl,Dz.cell 4 rfl,Dz.cell 5 rfl,Dz.cell 6 rfl,Dz.cell 7 rfl,Dz.cell 8 rfl,Dz.cell 9 rfl,Dz.cell 10 rfl,Dz.cell 13 rfl,Ez.cell 0 rfl,Ez.cell 1 rfl,Ez.cell 2 rfl,Ez.cell 3 rfl,Ez.cell 4 rfl,mz0,mz1,mz2⟩ (fun hHeld=>?_)
 refine aJ 0 ?_
 refine eH 4 ?_
 refine aJ 5 ?_
 refine eH 9 ?_
 refine aJ 11 ?_
 refine aJ 16 ?_
 refine aJ 1 ?_
 refine aJ 6 ?_
 refine aJ 12 ?_
 refine aJ 2 ?_
 refine aJ 7 ?_
 refine aJ 13 ?_
 refine eH 3 ?_
 refine eH 8 ?_
 refine aJ 14 ?_
 refine eH 15 ?_
 refine aJ 17 ?_
 refine aJ 18 ?_
 refine eH 19 ?_
 refine gI 10 fun K hK=>?_
 go_simp
 refine (yh pq.out R vp vs ve p vc v0 v1 wq.drew HRz yP HK.out).mono ?_
 rintro e w10 ⟨vx,rfl,mW,jW⟩
 obtain ⟨xa,xc,rfl⟩:=aH mW
 have vS:=Dz.stays jW
 have vM:=Ez.stays jW
 have sZ:=aj Lz jW Lz.size
 have UN:=(jW.cell (p:=⟨gn,on+n * 5+1,none⟩) (by show gn<_; have:=Lz.size; omega)).trans mz0
 have UO:=(jW.cell (p:=⟨gn,on+n * 5+2,none⟩) (by show gn<_; have:=Lz.size; omega)).trans mz1
 have UQ:=(jW.cell (p:=⟨gn,on+n * 5+3,none⟩) (by show gn<_; have:=Lz.size; omega)).trans mz2
 refine hK.out _ _ ⟨vS.cell 0 rfl,vS.cell 1 rfl,vS.cell 2 rfl,vS.cell 3 rfl,vS.cell 4 rfl,vS.cell 5 rfl,vS.cell 6 rfl,vS.cell 7 rfl,vS.cell 8 rfl,vS.cell 9 rfl,vS.cell 10 rfl,vS.cell 13 rfl,vM.cell 0 rfl,vM.cell 1 rfl,vM.cell 2 rfl,vM.cell 3 rfl,vM.cell 4 rfl,UN,UO,UQ⟩ (fun hHeld=>?_)
 clear hK K
 refine gI 20 fun K hK=>?_
 go_simp
 refine (aes R vp vs ve p vc v0 v1 m (.slice xa (aW R p).length xc) (aW R p) w10 (HR.out.below sZ (Nat.le_refl _)).1 (HP.out.below sZ (Nat.le_refl _)).1 (lJ mW) HK.out TD.out (YP HK.out) hll HOf.out).mono ?_
 rintro e wZ ⟨rfl,oN⟩
 have GI:=vS.stays oN
 have zl:=vM.stays oN
 have qg:=aj sZ oN sZ.size
 have aeH:=(oN.cell (p:=⟨gn,on+n * 5+1,none⟩) (by show gn<_; have:=sZ.size; omega)).trans UN
 have aeI:=(oN.cell (p:=⟨gn,on+n * 5+2,none⟩) (by show gn<_; have:=sZ.size; omega)).trans UO
 have aeJ:=(oN.cell (p:=⟨gn,on+n * 5+3,none⟩) (by show gn<_; have:=sZ.size; omega)).trans UQ
 refine hK.out _ _ ⟨GI.cell 0 rfl,GI.cell 1 rfl,GI.cell 2 rfl,GI.cell 3 rfl,GI.cell 4 rfl,GI.cell 5 rfl,GI.cell 6 rfl,GI.cell 7 rfl,GI.cell 8 rfl,GI.cell 9 rfl,GI.cell 10 rfl,GI.cell 13 rfl,zl.cell 0 rfl,zl.cell 1 rfl,zl.cell 2 rfl,zl.cell 3 rfl,zl.cell 4 rfl,aeH,aeI,aeJ⟩ (fun hHeld=>?_)
 clear hK K
 refine gI 21 fun K hK=>?_
 go_simp
 refine bg ?_
 intro jC e21
 have zX:Below wZ.heap.size wZ jC:=by rw [e21]; exact (Below.refl _ _).alloc (Nat.le_refl _) _
 have Pq:Box jC wZ.heap.size [.string (lu R p (aW R p) m)] 9:=by rw [e21]; exact Box.new' _ _ _ _ rfl
 have RD:=GI.stays zX
 have JQ:=zl.stays zX
 have DN:=aj qg zX qg.size
 have ah6:=(zX.cell (p:=⟨gn,on+n * 5+1,none⟩) (by show gn<_; have:=qg.size; omega)).trans aeH
 have ah7:=(zX.cell (p:=⟨gn,on+n * 5+2,none⟩) (by show gn<_; have:=qg.size; omega)).trans aeI
 have ah8:=(zX.cell (p:=⟨gn,on+n * 5+3,none⟩) (by show gn<_; have:=qg.size; omega)).trans aeJ
 clear e21
 refine hK.out _ _ ⟨RD.cell 0 rfl,RD.cell 1 rfl,RD.cell 2 rfl,RD.cell 3 rfl,RD.cell 4 rfl,RD.cell 5 rfl,RD.cell 6 rfl,RD.cell 7 rfl,RD.cell 8 rfl,RD.cell 9 rfl,RD.cell 10 rfl,RD.cell 13 rfl,JQ.cell 0 rfl,JQ.cell 1 rfl,JQ.cell 2 rfl,JQ.cell 3 rfl,JQ.cell 4 rfl,ah6,ah7,ah8⟩ (fun hHeld=>?_)
 clear hK K
 refine aJ 22 ?_
 refine kW ?_
 have q4:jC.cell? ⟨gn,on+n * 5+4,none⟩=some (.string c):=(DN.cell (p:=⟨gn,on+n * 5+4,none⟩) hgl).trans HN.out.2.2.2
 have d13:=RD.cell 13 rfl
 have hX:w.heap.size≤wZ.heap.size:=qg.size
 generalize wZ.heap.size=gX at Pq hX ⊢
 have Dj:Hid (jC.ownsRow w.heap.size 9 1 (.slice (some ⟨gX,0,none⟩) 1 1) 1 [.string (lu R p (aW R p) m)]):=hid ⟨by simp,.inr ⟨gX,1,#[.string (lu R p (aW R p) m)],rfl,hX,Pq,Nat.le_refl _,by decide,rfl,rfl⟩⟩
 have aeK:=hid DN
 clear hHeld Dz Ez Lz vS vM sZ GI zl qg RD JQ DN Pq jW oN zX mW mz0 mz1 mz2 UN UO UQ aeH aeI aeJ ah6 ah7 ah8 HRz yP
 by_cases hc0:c.size=0
 ·have hemp:c.toList.isEmpty=true:=by
   rw [Lib.toList_data]
   have:c.data.toList=[]:=List.length_eq_zero_iff.1 (by simpa using hc0)
   rw [this]; rfl
  have HOT:Hid (je R p m c=[bt (lu R p (aW R p) m)]):=hid (by unfold je; rw [if_pos hc0]; rfl)
  clear hc0
  go_wp2_with fail
  go_ret
  exact ⟨_,rfl,by rw [HOT.out]; exact Dj.out,aeK.out⟩
 ·have hemp:c.toList.isEmpty=false:=by
   rw [Lib.toList_data]
   cases h:c.data.toList with
   | nil=>exact absurd (by have:=congrArg List.length h; simpa using this) hc0
   | cons _ _=>rfl
  have HOT:Hid (je R p m c=[bt (lu R p (aW R p) m)]++[bt (⟨#[123]⟩++c++⟨#[125]⟩)]):=hid (by unfold je; rw [if_neg hc0]; simp [bt])
  clear hc0
  have aeL:w.heap.size≤jC.heap.size:=aeK.out.size
  have hs1:¬ 9223372036854775807<1+c.size:=by omega
  have hs2:¬ 9223372036854775807<1+c.size+1:=by omega
  obtain ⟨tx,htx⟩:∃ tx,tx=(⟨#[123]⟩++c++⟨#[125]⟩:ByteArray):=⟨_,rfl⟩
  have HTX:=hid htx.symm
  rw [HTX.out] at HOT
  clear htx
  go_wp2_with (at_builtin; rw [HTX.out]; refine PV 155 9 (.string ⟨#[]⟩) 1 16 BM Tryz.underlying155 rfl (by decide) (by rfl) _ _ (by rfl) w.heap.size _ 1 [.string (lu R p (aW R p) m)] [.string tx] jC Dj.out aeL rfl (by intro u hu; simp at hu; subst hu; rfl) (by omega) (by omega) (by rfl) (by rfl) ?_)
  intro g6 cap6 w7 hown6 YQ Nb
  have QU:=hid (Below.grown (aeK.out.alloc aeL (.cells #[.string tx] 9)) Nb (by have:=aeL; simp; omega) (fun j hj=>by have:=(Dj.out.lt j hj).1; omega))
  have KE:=hid hown6
  clear hown6 YQ Nb
  go_wp2_with fail
  go_ret
  exact ⟨_,rfl,by rw [HOT.out]; exact KE.out,QU.out⟩
end Go.Proofs.YteablcielclaeaaGreatDoor
namespace Go.Proofs.YteablcielclaeaaGreatDoor
open Go.ChangeShapes Go.WideShapes Go.ChangeAt Go.RowKit
set_option linter.unusedVariables false
def tot (l:List kC):Nat:=(l.map fun x=>x.length+1).sum
theorem BN (a b:List kC):tot (a++b)=tot a+tot b:=by unfold tot; rw [List.map_append,List.sum_append]
theorem jX (x:kC) (l:List kC):tot (x :: l)=x.length+1+tot l:=by unfold tot; rw [List.map_cons,List.sum_cons]
theorem BO {x:kC}:∀ {l:List kC},x∈l→x.length+1≤tot l
 | [],h=>by cases h
 | y :: l,h=>by
  rw [jX]
  rcases List.mem_cons.1 h with rfl | h
  ·omega
  ·have:=BO h; omega
theorem qU:∀ l:List kC,(ny l).length≤tot l
 | []=>Nat.zero_le _
 | [x]=>by rw [ny,jX]; omega
 | x :: y :: l=>by
  have:=qU (y :: l)
  rw [ny,jX,List.length_append,List.length_cons]; omega
theorem xE {R:au} {p:aV} {m:aA} {c:ByteArray} (ok:AO R p m c):fB R p=0∧m∈aW R p:=by
 have h1:=ok.err
 have h2:=ok.mv
 unfold Gw at h2
 rw [if_pos h1] at h2
 unfold uZ at h1
 by_cases q:fB R p≠0
 ·rw [if_pos q] at h1; exact absurd h1 q
 rw [if_neg q] at h1
 have q':fB R p=0:=Decidable.byContradiction q
 refine ⟨q',?_⟩
 by_cases r:uG R p (lu R p (aW R p) m)<0
 ·rw [if_pos r] at h1; exact absurd h1 (by decide)
 have hrg:=oz (fun x=>lu R p (aW R p) x == lu R p (aW R p) m) (aW R p) 0 (by omega)
 have hrl:(uG R p (lu R p (aW R p) m)).toNat<(aW R p).length:=by unfold uG at r ⊢; omega
 rw [← h2,List.getD_eq_getElem?_getD,List.getElem?_eq_getElem hrl]
 exact List.getElem_mem hrl
theorem amb {R:au} {p:aV} (h:fB R p=0):aF R=0:=by unfold fB at h; by_cases q:aF R=0; exact q; rw [if_pos q] at h; exact h
theorem aeM {R:au} {p:aV} {m:aA} {c:ByteArray} (ok:AO R p m c):(lu R p (aW R p) m).size≤20:=by
 obtain ⟨h1,h2⟩:=xE ok
 exact (Yr (Jj (amb h1)) (Ig h1) h2).2
theorem RF {R:au} {p:aV} {m:aA} {c:ByteArray} (ok:AO R p m c) (hc:c.size≤1000):(je R p m c).length≤2∧tot (je R p m c)≤1030:=by
 have h:=aeM ok
 have e:je R p m c=(lu R p (aW R p) m).data.toList :: (if c.size=0 then [] else [123 :: (c.data.toList++[125])]):=rfl
 have hl:(lu R p (aW R p) m).data.toList.length=(lu R p (aW R p) m).size:=by simp
 have hl2:c.data.toList.length=c.size:=by simp
 rw [e]
 split
 ·refine ⟨by simp,?_⟩
  rw [jX,hl]; show _+0≤_; omega
 ·refine ⟨by simp,?_⟩
  rw [jX,jX,hl]; show _+(_+0)≤_
  simp only [List.length_cons,List.length_append,hl2,List.length_nil]; omega
theorem RG:cnt []=0:=rfl
theorem Ep (b:lS) (l:List lS):cnt (b :: l)=cnt [b]+cnt l:=abJ [b] l
theorem Js (R:au):∀ l:List lS,JV 1000 l→(∀ p,oM R p l→(kU R p l).length≤2 * cnt l∧tot (kU R p l)≤1040 * cnt l)∧∀ p,oM R p l→(jk R p l).length≤cnt l∧tot (jk R p l)≤1040 * cnt l:=by
 refine BL (PB:=fun b=>szB 1000 b→∀ p,Jo R p b→(yS R p b).length+2≤2 * cnt [b]∧tot (yS R p b)+1040≤1040 * cnt [b]) (PL:=fun l=>JV 1000 l→(∀ p,oM R p l→(kU R p l).length≤2 * cnt l∧tot (kU R p l)≤1040 * cnt l)∧∀ p,oM R p l→(jk R p l).length≤cnt l∧tot (jk R p l)≤1040 * cnt l) ?_ ?_ ?_
 ·intro m c ks ih hz p h
  rw [szB] at hz
  rw [Jo] at h
  rw [yS,Rx]
  have:=(ih hz.2).1 _ h.2
  omega
 ·intro _
  exact ⟨fun p _=>by rw [kU,RG]; exact ⟨Nat.le_refl _,Nat.le_refl _⟩,fun p _=>by rw [jk,RG]; exact ⟨Nat.le_refl _,Nat.le_refl _⟩⟩
 ·intro b l hb hl hz
  rw [JV] at hz
  have hbz:b.cm.size≤1000:=by have:=hz.1; cases b; rw [szB] at this; exact this.1
  refine ⟨fun p h=>?_,fun p h=>?_⟩
  ·rw [oM] at h
   have h1:AO R p b.mv b.cm:=by have:=h.1; cases b; rw [Jo] at this; exact this.1
   obtain ⟨o1,o2⟩:=RF h1 hbz
   have h2:=hb hz.1 p h.1
   have h3:=(hl hz.2).2 p h.2
   rw [kU,Ep]
   simp only [BN,List.length_append]
   omega
  ·rw [oM] at h
   have h1:AO R p b.mv b.cm:=by have:=h.1; cases b; rw [Jo] at this; exact this.1
   obtain ⟨o1,o2⟩:=RF h1 hbz
   have h2:=hb hz.1 p h.1
   have h3:=(hl hz.2).2 p h.2
   have h4:=qU (je R p b.mv b.cm++yS R p b)
   rw [BN] at h4
   rw [jk,Ep,jX]
   simp only [List.length_cons,List.length_append,List.length_nil]
   omega
end Go.Proofs.YteablcielclaeaaGreatDoor
namespace Go.Proofs.YteablcielclaeaaGreatDoor
open Go.ChangeShapes Go.WideShapes Go.ChangeAt Go.RowKit
set_option linter.unusedVariables false
open Go.Lib (hid)
theorem UR (l:List kC):(gW l).length=l.length:=by simp [gW]
theorem GK (a b:List kC):gW a++gW b=gW (a++b):=by simp [gW]
theorem Nc (l:List kC):∀ u∈gW l,u.oneCell'=true:=by
 intro u hu
 obtain ⟨x,-,rfl⟩:=List.mem_map.1 hu
 rfl
theorem zY (w:World) (c base:Nat) (i:TypeInfo) (hi:Tryz.prog.info? 9=some i) (ty:TypeId) (v:Value) (n:Nat) (xs:List Value) (hown:w.ownsRow base 9 1 v n xs) :
  (Builtin.append_ #[155,155] ty #[v,.slice none 0 c]).run Tryz.prog w=.ok v w:=by
 rcases hown.2 with ⟨rfl,rfl⟩ | ⟨g,cap,cur,rfl,_,_,hnc,_⟩
 ·simp [Builtin.append_,run_underlying Tryz.underlying155,sizeOf,typeInfo,hi,Builtin.lenOf,Builtin.firstCells]
 ·simp [Builtin.append_,run_underlying Tryz.underlying155,sizeOf,typeInfo,hi,Builtin.lenOf,Builtin.firstCells,hnc,storeCells]
theorem GL {w:World} {base:Nat} {e:TypeId} {ad:Addr} {n c:Nat} {xs:List Value} (h:w.ownsRow base e 1 (.slice (some ad) n c) n xs):∀ j u,xs[j]?=some u→w.cell? (ad.add j)=some u:=by
 rcases h.2 with ⟨h0,-⟩ | ⟨g,cap,cur,hv,hg,hb,hnc,hcm,hsz,ht⟩
 ·cases h0
 simp only [Value.slice.injEq,Option.some.injEq] at hv
 obtain ⟨rfl,-,rfl⟩:=hv
 intro j u hu
 have hj:j<n:=by
  have h1:=(List.getElem?_eq_some_iff.1 hu).1
  have h2:=h.1
  omega
 have e1:(⟨g,0,none⟩:Addr).add j=⟨g,j,none⟩:=by unfold Addr.add; split <;> simp_all
 rw [e1]
 have e2:cur.toList[j]?=some u:=by
  rw [← ht,List.getElem?_take] at hu
  split at hu
  ·exact hu
  ·cases hu
 exact Box.cell (cs:=cur.toList) (t:=e) (by unfold Box; rw [hb]) j e2
theorem pO {w:World} {o:Oper} {a:Act} {K:Act→World→Prop} {Q:Exit→Act→World→Prop} (s x:Operand)
  (ho:o.op=.call { callee:=.builtin .append,args:=#[s,x],argTypes:=#[155,155] })
  (base:Nat) (v:Value) (xs:List kC) (hs:a.eval s=v) (hown:w.ownsRow base 9 1 v xs.length (gW xs))
  (RH:Nat) (v2:Value) (ys:List kC) (hx:a.eval x=v2) (hown2:w.ownsRow RH 9 1 v2 ys.length (gW ys)) (hlen:xs.length+ys.length≤1000000) (hbase:base≤w.heap.size)
  (h:∀ v' w',w'.ownsRow base 9 1 v' (xs++ys).length (gW (xs++ys))→w.grownBy w' v.ownBlock→K (a.put o.dst v') w'):o.wp Tryz.prog a w K Q:=by
 obtain ⟨i0,hi,hz0,hz1,hz2⟩:∃ i,Tryz.prog.info? 9=some i∧i.zero=some (.string ⟨#[]⟩)∧i.size=1∧i.bytes=16:=by
  have:=BM
  cases hi:Tryz.prog.info? 9 with
  | none=>rw [hi] at this; cases this
  | some i =>
   rw [hi] at this
   simp only [Option.map_some,Option.some.injEq,Prod.mk.injEq] at this
   exact ⟨i,rfl,this.1,this.2.1,this.2.2⟩
 obtain ⟨sa,c,rfl⟩:=aH hown2
 cases sa with
 | none =>
  have hz:ys.length=0:=by
   rcases hown2.2 with ⟨-,hz⟩ | ⟨g,o',c',e,-⟩
   ·exact hz
   ·cases e
  obtain rfl:ys=[]:=List.length_eq_zero_iff.1 hz
  have hrun:=zY w c base i0 hi o.type v _ _ hown
  have hx':a.eval x=.slice none 0 c:=hx
  unfold Oper.wp
  simp [execOp,ho,resolve,invoke,builtin,hs,hx',hrun,Result.andThen]
  exact h v w (by simpa using hown) ⟨rfl,rfl,rfl,Nat.le_refl _,fun _ _ _=>rfl⟩
 | some ad =>
  refine wp_append_own _ s x 155 ho base 9 i0 (.string ⟨#[]⟩) 1 16 Tryz.underlying155 hi hz0 hz1 hz2 rfl (by decide) v xs.length (gW xs) hs hown ad ys.length c (gW ys) hx (by rw [UR]; omega) (GL hown2) (Nc ys) (by unfold maxLen; omega) (by omega) hbase ?_
  intro v' w2 ho2 hg2 _
  refine h v' w2 ?_ hg2
  rw [← GK,List.length_append]
  exact ho2
theorem YR {w:World} {ops:Array Oper} {rest:List Oper} {o:Oper} {a:Act} {Q:Exit→Act→World→Prop} (hgd:o.guard=none) (s x:Operand)
  (ho:o.op=.call { callee:=.builtin .append,args:=#[s,x],argTypes:=#[155,155] })
  (base:Nat) (v:Value) (xs:List kC) (hs:a.eval s=v) (hown:w.ownsRow base 9 1 v xs.length (gW xs))
  (RH:Nat) (v2:Value) (ys:List kC) (hx:a.eval x=v2) (hown2:w.ownsRow RH 9 1 v2 ys.length (gW ys)) (hlen:xs.length+ys.length≤1000000) (hbase:base≤w.heap.size)
  (h:∀ v' w',w'.ownsRow base 9 1 v' (xs++ys).length (gW (xs++ys))→w.grownBy w' v.ownBlock→wpList Tryz.prog ops Q rest (a.put o.dst v') w'):wpList Tryz.prog ops Q (o :: rest) a w:=
 wpList_plain hgd fun _ hK=>pO s x ho base v xs hs hown RH v2 ys hx hown2 hlen hbase fun v' w' h1 h2=>hK _ _ (h v' w' h1 h2)
set_option maxRecDepth 100000
set_option maxHeartbeats 8000000
variable {R:au} {vp vs ve:Value}
def yU (w:World) (gn on:Nat) (X:iM):Prop:=gn<w.heap.size∧∀ i,i<X.nodes.length→w.cell? ⟨gn,on+i * 5,none⟩=some (.int .i64 (aG X.nodes i).parent)∧w.cell? ⟨gn,on+i * 5+1,none⟩=some (.int .i64 (aG X.nodes i).m.src) ∧
   w.cell? ⟨gn,on+i * 5+2,none⟩=some (.int .i64 (aG X.nodes i).m.dst)∧w.cell? ⟨gn,on+i * 5+3,none⟩=some (.int .i64 (aG X.nodes i).m.piece)∧w.cell? ⟨gn,on+i * 5+4,none⟩=some (.string (aG X.nodes i).comment)∧(aG X.nodes i).comment.size≤maxLen
theorem yU.below {w w':World} {B gn on:Nat} {X:iM} (h:yU w gn on X) (hb:Below B w w') (hB:w.heap.size≤B):yU w' gn on X:=
 ⟨by have:=h.1; have:=hb.size; omega,fun i hi=>by
  have hg:gn<B:=by have:=h.1; omega
  obtain ⟨h0,h1,h2,h3,h4,h5⟩:=h.2 i hi
  exact ⟨(hb.cell (p:=⟨gn,on+i * 5,none⟩) hg).trans h0,(hb.cell (p:=⟨gn,on+i * 5+1,none⟩) hg).trans h1,(hb.cell (p:=⟨gn,on+i * 5+2,none⟩) hg).trans h2,(hb.cell (p:=⟨gn,on+i * 5+3,none⟩) hg).trans h3,(hb.cell (p:=⟨gn,on+i * 5+4,none⟩) hg).trans h4,h5⟩⟩
theorem GN (X:iM) (ta:Option Addr) (tc gn on nc n b b3 b4:Nat) (p:aV) (vc v0 v1:Value) (w:World) (hb:Box w b [.string R.name,.int .i64 R.width,.int .i64 R.height,vp,vs,.bool R.falls,.bool R.keeps,ve,.int .i64 R.blocked,.int .i64 R.quiet,.int .i64 R.aZ,.slice ta X.tags.length tc,.string X.comment,.slice (some ⟨gn,on,none⟩) X.nodes.length nc,.int .i64 X.result] Vz) (h3:Box w b3 [.pointer (some ⟨b,0,none⟩)] 161) (h4:Box w b4 [vc,v0,v1,.int .i64 p.turn,.int .i64 p.quiet] 158) (hp:tJ w p vc v0 v1) (K:oK R p)
  (hn:n<X.nodes.length) (hm:(aG X.nodes n).m∈aW R p) (hnd:yU w gn on X) :
  Calls Tryz.prog 104 (#[.int .i64 n] ++ #[.pointer (some ⟨b3,0,none⟩),.pointer (some ⟨b4,0,none⟩)]) w (KH R p (aG X.nodes n).m w):=by
 have HP:=hid hp
 have HK:=hid K
 have bD:=hid hb
 have HB3:=hid h3
 have HB4:=hid h4
 obtain ⟨hgl,hnd⟩:=hnd
 obtain ⟨-,n1,n2,n3,-,-⟩:=hnd n hn
 obtain ⟨m,hme⟩:∃ m,m=(aG X.nodes n).m:=⟨_,rfl⟩
 rw [← hme] at n1 n2 n3 hm ⊢
 have HM:=hid hm
 have HN:=hid (And.intro n1 (And.intro n2 n3))
 have hbl:=hb.lt
 have zW:=h3.lt
 have Bf:=h4.lt
 clear hb h3 h4 hp K hnd hme hm n1 n2 n3
 have hn1:(n:Int)<(X.nodes.length:Int):=by omega
 go_enter Tryz.func104,Tryz.ntmps104
 go_upto_region 1 with (fail)
 refine pV ?_
 intro w0 xbO hB0 hS0
 have HB:=hid hB0
 obtain ⟨bO,hbO⟩:∃ bO,bO=w.heap.size:=⟨_,rfl⟩
 rw [← hbO] at xbO ⊢
 have amd:w.heap.size≤bO:=by omega
 have HbO:=hid xbO
 have hS:bO<w0.heap.size:=by omega
 clear hB0 hS0 xbO hbO
 obtain ⟨wq,rfl⟩:∃ wq:World,wq=w0:=⟨_,rfl⟩
 have Az:Box wq.drew b3 [.pointer (some ⟨b,0,none⟩)] 161:=(HB3.out.stays HB.out:Box wq b3 [.pointer (some ⟨b,0,none⟩)] 161)
 have Dz:Box wq.drew b [.string R.name,.int .i64 R.width,.int .i64 R.height,vp,vs,.bool R.falls,.bool R.keeps,ve,.int .i64 R.blocked,.int .i64 R.quiet,.int .i64 R.aZ,.slice ta X.tags.length tc,.string X.comment,.slice (some ⟨gn,on,none⟩) X.nodes.length nc,.int .i64 X.result] Vz:=(bD.out.stays HB.out:Box wq b [.string R.name,.int .i64 R.width,.int .i64 R.height,vp,vs,.bool R.falls,.bool R.keeps,ve,.int .i64 R.blocked,.int .i64 R.quiet,.int .i64 R.aZ,.slice ta X.tags.length tc,.string X.comment,.slice (some ⟨gn,on,none⟩) X.nodes.length nc,.int .i64 X.result] Vz)
 have Ez:Box wq.drew b4 [vc,v0,v1,.int .i64 p.turn,.int .i64 p.quiet] 158:=(HB4.out.stays HB.out:Box wq b4 [vc,v0,v1,.int .i64 p.turn,.int .i64 p.quiet] 158)
 have Oz:=HbO.out.drew
 have Lz:Below w.heap.size w wq.drew:=HB.out.drew
 have mz0:wq.drew.cell? ⟨gn,on+n * 5+1,none⟩=some (.int .i64 m.src):=(HB.out.cell (p:=⟨gn,on+n * 5+1,none⟩) hgl).trans HN.out.1
 have mz1:wq.drew.cell? ⟨gn,on+n * 5+2,none⟩=some (.int .i64 m.dst):=(HB.out.cell (p:=⟨gn,on+n * 5+2,none⟩) hgl).trans HN.out.2.1
 have mz2:wq.drew.cell? ⟨gn,on+n * 5+3,none⟩=some (.int .i64 m.piece):=(HB.out.cell (p:=⟨gn,on+n * 5+3,none⟩) hgl).trans HN.out.2.2
 have yP:=HP.out.below Lz (Nat.le_refl _)
 refine wp_region_noPanic ?_
 refine bU (S:=(fun w'=>w'.cell? ⟨b3,0,none⟩=some (.pointer (some ⟨b,0,none⟩))∧w'.cell? ⟨b,0,none⟩=some (.string R.name)∧w'.cell? ⟨b,1,none⟩=some (.int .i64 R.width)∧w'.cell? ⟨b,2,none⟩=some (.int .i64 R.height)∧w'.cell? ⟨b,3,none⟩=some vp∧w'.cell? ⟨b,4,none⟩=some vs∧w'.cell? ⟨b,5,none⟩=some (.bool R.falls)∧w'.cell? ⟨b,6,none⟩=some (.bool R.keeps)∧w'.cell? ⟨b,7,none⟩=some ve∧w'.cell? ⟨b,8,none⟩=some (.int .i64 R.blocked)∧w'.cell? ⟨b,9,none⟩=some (.int .i64 R.quiet)∧w'.cell? ⟨b,10,none⟩=some (.int .i64 R.aZ)∧w'.cell? ⟨b,13,none⟩=some (.slice (some ⟨gn,on,none⟩) X.nodes.length nc)∧w'.cell? ⟨b4,0,none⟩=some vc∧w'.cell? ⟨b4,1,none⟩=some v0∧w'.cell? ⟨b4,2,none⟩=some v1∧w'.cell? ⟨b4,3,none⟩=some (.int .i64 p.turn)∧w'.cell? ⟨b4,4,none⟩=some (.int .i64 p.quiet)∧w'.cell? ⟨gn,on+n * 5+1,none⟩=some (.int .i64 m.src)∧w'.cell? ⟨gn,on+n * 5+2,none⟩=some (.int .i64 m.dst)∧w'.cell? ⟨gn,on+n * 5+3,none⟩=some (.int .i64 m.piece))) (L:=[15]) (by kernel_rfl) ⟨Az.cell 0 rfl,Dz.cell 0 rfl,Dz.cell 1 rfl,Dz.cell 2 rfl,Dz.cell 3 rfl,Dz.cell 4 rfl,Dz.cell 5 rfl,Dz.cell 6 rfl,Dz.cell 7 rfl,Dz.cell 8 rfl,Dz.cell 9 rfl,Dz.cell 10 rfl,Dz.cell 13 rfl,Ez.cell 0 rfl,Ez.cell 1 rfl,Ez.cell 2 rfl,Ez.cell 3 rfl,Ez.cell 4 rfl,mz0,mz1,mz2⟩ (fun hHeld=>?_)
 refine eH 0 ?_
 refine eH 4 ?_
 refine eH 5 ?_
 refine aJ 10 ?_
 refine aJ 1 ?_
 refine aJ 6 ?_
 refine aJ 2 ?_
 refine aJ 7 ?_
 refine eH 3 ?_
 refine aJ 8 ?_
 refine eH 9 ?_
 refine aJ 11 ?_
 refine aJ 12 ?_
 refine eH 13 ?_
 refine gI 14 fun K hK=>?_
 go_simp
 refine (KW R vp vs ve p vc v0 v1 m wq.drew yP HK.out (jZ HK.out HM.out)).mono ?_
 rintro e w10 ⟨yc,y0,y1,rfl,mW,jW⟩
 obtain ⟨ya,yk,rfl⟩:=aH mW.1
 obtain ⟨Lr,yk0,rfl⟩:=aH mW.2.1
 obtain ⟨Ls,yk1,rfl⟩:=aH mW.2.2.1
 have A10:=Az.stays jW
 have vS:=Dz.stays jW
 have vM:=Ez.stays jW
 have FZ:=Oz.stays jW
 have sZ:=aj Lz jW Lz.size
 have UN:=(jW.cell (p:=⟨gn,on+n * 5+1,none⟩) (by show gn<_; have:=Lz.size; omega)).trans mz0
 have UO:=(jW.cell (p:=⟨gn,on+n * 5+2,none⟩) (by show gn<_; have:=Lz.size; omega)).trans mz1
 have UQ:=(jW.cell (p:=⟨gn,on+n * 5+3,none⟩) (by show gn<_; have:=Lz.size; omega)).trans mz2
 unfold sH
 refine hK.out _ _ ⟨A10.cell 0 rfl,vS.cell 0 rfl,vS.cell 1 rfl,vS.cell 2 rfl,vS.cell 3 rfl,vS.cell 4 rfl,vS.cell 5 rfl,vS.cell 6 rfl,vS.cell 7 rfl,vS.cell 8 rfl,vS.cell 9 rfl,vS.cell 10 rfl,vS.cell 13 rfl,vM.cell 0 rfl,vM.cell 1 rfl,vM.cell 2 rfl,vM.cell 3 rfl,vM.cell 4 rfl,UN,UO,UQ⟩ (fun hHeld=>?_)
 clear hK K
 refine xU 15 fun K hK=>?_
 have d0:=FZ.cell 0 rfl
 have d1:=FZ.cell 1 rfl
 have d2:=FZ.cell 2 rfl
 have d3:=FZ.cell 3 rfl
 have d4:=FZ.cell 4 rfl
 have f0:=FZ.frozen 0
 have f1:=FZ.frozen 1
 have f2:=FZ.frozen 2
 have f3:=FZ.frozen 3
 have f4:=FZ.frozen 4
 have dl:=FZ.lt
 go_simp
 refine bg ?_
 intro w6 e6
 have hw6:w6=w10.setCells bO 0 [.slice ya (bF R p m).cells.length yk,.slice Lr (bF R p m).h0.length yk0,.slice Ls (bF R p m).h1.length yk1,.int .i64 (bF R p m).turn,.int .i64 (bF R p m).quiet]:=by rw [e6]; rfl
 have O6:Box w6 bO [.slice ya (bF R p m).cells.length yk,.slice Lr (bF R p m).h0.length yk0,.slice Ls (bF R p m).h1.length yk1,.int .i64 (bF R p m).turn,.int .i64 (bF R p m).quiet] 158:=by rw [hw6]; exact FZ.store rfl
 have L6:Below w.heap.size w w6:=by rw [hw6]; exact below_setCells sZ amd 0 _
 have OW6:mM w.heap.size w6 (bF R p m) (.slice ya (bF R p m).cells.length yk) (.slice Lr (bF R p m).h0.length yk0) (.slice Ls (bF R p m).h1.length yk1):=by rw [hw6]; exact (mM.setCells mW (by show bO<_; exact Oz.lt) 0 _).base (by have:=Lz.size; exact this)
 clear e6 hw6 d0 d1 d2 d3 d4 f0 f1 f2 f3 f4 dl
 refine hK.out _ _ ?_
 clear hK K
 refine kW ?_
 have QE:=hid O6
 have KU:=hid L6
 have HW6:=hid OW6
 clear hHeld Az Dz Ez Oz Lz A10 vS vM FZ sZ O6 L6 OW6 jW mW mz0 mz1 mz2 UN UO UQ yP
 go_wp2_with fail
 exact bodyPost_ret (dD rfl (by rfl) QE.out Tryz.underlying158 (by rfl) (by kernel_rfl)) rfl ⟨_,_,_,rfl,HW6.out,KU.out⟩
end Go.Proofs.YteablcielclaeaaGreatDoor
