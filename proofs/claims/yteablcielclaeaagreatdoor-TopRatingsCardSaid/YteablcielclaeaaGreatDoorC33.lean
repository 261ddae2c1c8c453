/- RwC, RwW. -/
import Derived.Test.YteablcielclaeaaGreatDoorC32
namespace Go.Proofs.YteablcielclaeaaGreatDoor
open Go.ChangeShapes Go.WideShapes Go.ChangeAt Go.RowKit
set_option linter.unusedVariables false
open Go.Lib (hid)
def qV:Prop:=∀ (base:Nat) (v:Value) (xs:List kC) (w:World),w.ownsRow base 9 1 v xs.length (gW xs)→xs.length≤1000→(∀ x∈xs,x.length≤1000000) →
 Calls Tryz.prog 55 #[v,.string ⟨#[32]⟩] w fun e w'=>e=.returned (.string (bs (ny xs)))∧Below w.heap.size w w'
def wI (ns:List aX) (f k:Nat):lS:=.mk (aG ns k).m (aG ns k).comment (eU ns f (k:Int))
theorem aeN:Tryz.prog.underlying 22=some (.slice (Tryz.prog.elem 22)):=by kernel_rfl
theorem aeO (w:World):(sizeOf (Tryz.prog.elem 22)).run Tryz.prog w=.ok 1 w:=by kernel_rfl
theorem aeP (l:kC):(⟨#[40]⟩++bs l++⟨#[41]⟩:ByteArray)=bs (40 :: (l++[41])):=by
 apply ByteArray.ext
 simp [bs]
theorem rV (ns:List aX) (f:Nat) (p:Int):eU ns (f+1) p=(lF ns p).map (wI ns f):=by rw [eU]; rfl
def UU (R:au) (p:aV) (b:lS):kC:=40 :: (ny (je R p b.mv b.cm++yS R p b)++[41])
theorem GR (R:au) (p:aV):∀ (l:List lS) (b:lS),jk R p (l++[b])=jk R p l++[UU R p b]
 | [],b=>by rw [List.nil_append,jk,jk]; rfl
 | a :: l,b=>by rw [List.cons_append,jk,jk,GR R p l b]; rfl
theorem GU (R:au) (p:aV):∀ (l:List lS) (i:Nat),(jk R p (l.take i)).length≤(jk R p l).length
 | [],i=>by rw [List.take_nil]; exact Nat.le_refl _
 | a :: l,0=>by rw [List.take_zero,jk]; exact Nat.zero_le _
 | a :: l,i+1=>by rw [List.take_succ_cons,jk,jk]; have:=GU R p l i; simp only [List.length_cons]; omega
structure ac5 (R:au) (p:aV) (ns:List aX) (f:Nat) (parent:Int) (k:Nat):Prop where
 lt:k<ns.length
 par:parent<k
 ok:AO R p (aG ns k).m (aG ns k).comment
 cs:(aG ns k).comment.size≤1000
 leg:oM R (bF R p (aG ns k).m) (eU ns f k)
 sz:JV 1000 (eU ns f k)
 cn:cnt (eU ns f k)+1≤200
 tot:(je R p (aG ns k).m (aG ns k).comment++kU R (bF R p (aG ns k).m) (eU ns f k)).length≤400∧tot (je R p (aG ns k).m (aG ns k).comment++kU R (bF R p (aG ns k).m) (eU ns f k))≤208000
theorem RI {R:au} {p:aV}:∀ {l:List lS},oM R p l→∀ b∈l,Jo R p b
 | [],_,_,h=>by cases h
 | a :: l,h,b,hb=>by
  rw [oM] at h
  rcases List.mem_cons.1 hb with rfl | hb
  ·exact h.1
  ·exact RI h.2 b hb
theorem YS {N:Nat}:∀ {l:List lS},JV N l→∀ b∈l,szB N b
 | [],_,_,h=>by cases h
 | a :: l,h,b,hb=>by
  rw [JV] at h
  rcases List.mem_cons.1 hb with rfl | hb
  ·exact h.1
  ·exact YS h.2 b hb
theorem RJ:∀ {l:List lS},∀ b∈l,cnt [b]≤cnt l
 | [],_,h=>by cases h
 | a :: l,b,hb=>by
  rw [Ep a l]
  rcases List.mem_cons.1 hb with rfl | hb
  ·omega
  ·have:=RJ (l:=l) b hb; omega
theorem abM {R:au} {p:aV} {ns:List aX} {f:Nat} {parent:Int} (hB:Back ns ns.length) (hl:oM R p (eU ns (f+1) parent)) (hs:JV 1000 (eU ns (f+1) parent)) (hc:cnt (eU ns (f+1) parent)≤200):∀ k∈lF ns parent,ac5 R p ns f parent k:=fun k hk=>by
 obtain ⟨h1,h2⟩:=yT hk
 have hm:wI ns f k∈eU ns (f+1) parent:=by rw [rV]; exact List.mem_map_of_mem hk
 have e1:=RI hl _ hm
 have e2:=YS hs _ hm
 have e3:=RJ _ hm
 have e4:=(Js R [wI ns f k] (by rw [JV,JV]; exact ⟨e2,trivial⟩)).1 p (by rw [oM,oM]; exact ⟨e1,trivial⟩)
 rw [kU,jk,List.nil_append] at e4
 unfold wI at e1 e2 e3 e4
 rw [yS] at e4
 change (je R p (aG ns k).m (aG ns k).comment++_).length≤_∧tot (je R p (aG ns k).m (aG ns k).comment++_)≤_ at e4
 rw [Rx] at e3 e4
 rw [Jo] at e1
 rw [szB] at e2
 have hp:=hB k h1
 rw [h2] at hp
 exact ⟨h1,hp,e1.1,e2.1,e1.2,e2.2,by omega,by omega,by omega⟩
theorem YT {ns:List aX} {parent:Int} (h:lF ns parent=[]):∀ f:Nat,eU ns f parent=[]
 | 0=>by rw [eU]
 | f+1=>by rw [rV,h]; rfl
theorem Es (x:kC) (l:List kC):gW (x :: l)=.string (bs x) :: gW l:=rfl
set_option maxRecDepth 100000
set_option maxHeartbeats 8000000
variable {R:au} {vp vs ve:Value}
def Jt (R:au) (vp vs ve:Value) (X:iM) (ta na:Option Addr) (tc nc b:Nat) (f:Nat):Prop:=∀ (parent:Int) (p:aV) (vc v0 v1:Value) (w:World),Box w b [.string R.name,.int .i64 R.width,.int .i64 R.height,vp,vs,.bool R.falls,.bool R.keeps,ve,.int .i64 R.blocked,.int .i64 R.quiet,.int .i64 R.aZ,.slice ta X.tags.length tc,.string X.comment,.slice na X.nodes.length nc,.int .i64 X.result] Vz→qo w R vp vs ve→Vx w X (.slice ta X.tags.length tc) (.slice na X.nodes.length nc)→tJ w p vc v0 v1→oK R p →
 (X.nodes.length:Int) - parent≤f→oM R p (eU X.nodes f parent)→JV 1000 (eU X.nodes f parent)→cnt (eU X.nodes f parent)≤200 →
 Calls Tryz.prog 54 #[.pointer (some ⟨b,0,none⟩),(.agg #[vc,v0,v1,.int .i64 p.turn,.int .i64 p.quiet]),.int .i64 parent] w fun e w'=>∃ v,e=.returned v∧w'.ownsRow w.heap.size 9 1 v (kU R p (eU X.nodes f parent)).length (gW (kU R p (eU X.nodes f parent)))∧Below w.heap.size w w'
theorem Nh (HS:SortMvSaid) (HJ:qV) (L:sF R) (X:iM) (hB:Back X.nodes X.nodes.length) (hnl:X.nodes.length≤1000) (ta na:Option Addr) (tc nc b:Nat) (f:Nat) (IH:∀ g,g<f→Jt R vp vs ve X ta na tc nc b g):Jt R vp vs ve X ta na tc nc b f:=by
 intro parent p vc v0 v1 w hb hr hx hp K hfu ah9 hsz hcnt
 have pq:=hid HS
 have ZN:=hid HJ
 have TD:=hid L
 have HIH:=hid IH
 have HBk:=hid hB
 have HX:=hid hx
 have HR:=hid hr
 have HP:=hid hp
 have HK:=hid K
 have bD:=hid hb
 have HLg:=hid ah9
 have HSz:=hid hsz
 have HCn:=hid hcnt
 have hbl:=hb.lt
 clear HS HJ L IH hB hx hr hp K hb ah9 hsz hcnt
 go_enter Tryz.func54,Tryz.ntmps54
 go_upto_region 1 with (fail)
 refine vJ ?_
 intro w0 xb3 xb4 hB0 hS0
 have HB:=hid hB0
 obtain ⟨b4,hb4⟩:∃ b4,b4=w.heap.size+1:=⟨_,rfl⟩
 rw [← hb4] at xb4 ⊢
 obtain ⟨b3,hb3⟩:∃ b3,b3=w.heap.size:=⟨_,rfl⟩
 rw [← hb3] at xb3 ⊢
 have amh:w.heap.size≤b3:=by omega
 have Hb3:=hid xb3
 have abN:w.heap.size≤b4:=by omega
 have aoV:b3<b4:=by omega
 have Hb4:=hid xb4
 have hS:b4<w0.heap.size:=by omega
 clear hB0 hS0 xb3 hb3 xb4 hb4
 have D0:Box w0 b [.string R.name,.int .i64 R.width,.int .i64 R.height,vp,vs,.bool R.falls,.bool R.keeps,ve,.int .i64 R.blocked,.int .i64 R.quiet,.int .i64 R.aZ,.slice ta X.tags.length tc,.string X.comment,.slice na X.nodes.length nc,.int .i64 X.result] Vz:=bD.out.stays HB.out
 have g0:=Hb3.out.cell 0 rfl
 have d11:=D0.cell 11 rfl
 have d12:=D0.cell 12 rfl
 have d13:=D0.cell 13 rfl
 have d14:=D0.cell 14 rfl
 have hk:=YA X (.slice ta X.tags.length tc) (.slice na X.nodes.length nc) parent w0 (HX.out.below HB.out (Nat.le_refl _)) hnl
 unfold vP at hk
 have HKd:=hid hk
 clear hk
 have HD0:=hid D0
 clear D0
 go_wp2_with fail
 refine HKd.out.mono ?_
 rintro e w1 ⟨kv,rfl,ho1,hb1⟩
 obtain ⟨ka,kc,rfl⟩:=aH ho1
 have HA1:=hid (Hb3.out.stays hb1)
 have jR:=hid (Hb4.out.stays hb1)
 have HD1:=hid (HD0.out.stays hb1)
 have ql:=hid (aj HB.out hb1 HB.out.size)
 have Qz:=hid (own_base ho1 (b':=b4+1) (by omega))
 have yt:=HD1.out.lt
 have zW:=HA1.out.lt
 have Bf:=jR.out.lt
 clear HKd HD0 g0 d11 d12 d13 d14 hb1 ho1
 cases hks:lF X.nodes parent with
 | nil =>
  have HT:Hid (eU X.nodes f parent=[]):=hid (YT hks f)
  go_wp2_with fail
  go_ret
  exact ⟨_,rfl,by rw [HT.out,kU]; exact World.ownsRow_nil _ _ _ _,ql.out⟩
 | cons k0 ks =>
  have aeR:∀ k,k∈k0 :: ks→k∈lF X.nodes parent:=fun k hk=>by rw [hks]; exact hk
  have hkl:ks.length+1≤X.nodes.length:=by
   have h1:(lF X.nodes parent).length≤X.nodes.length:=GH X.nodes parent X.nodes.length
   rw [hks] at h1
   exact h1
  have h0f:1≤f:=by
   obtain ⟨h1,h2⟩:=yT (aeR k0 (List.mem_cons_self ..))
   have:=HBk.out k0 h1
   omega
  obtain ⟨f',rfl⟩:∃ f',f=f'+1:=⟨f - 1,by omega⟩
  have hko:=abM HBk.out HLg.out HSz.out HCn.out
  have HKO:Hid (∀ k∈k0 :: ks,ac5 R p X.nodes f' parent k):=hid fun k hk=>hko k (aeR k hk)
  have HTr:Hid (eU X.nodes (f'+1) parent=wI X.nodes f' k0 :: ks.map (wI X.nodes f')):=hid (by rw [rV,hks]; rfl)
  have HTt:=hid ((Js R (eU X.nodes (f'+1) parent) HSz.out).1 p HLg.out)
  have ami:=fun k (hk:k∈k0 :: ks)=>HIH.out f' (by omega) (k:Int)
  have hk0:=HKO.out k0 (List.mem_cons_self ..)
  have hn0:0<X.nodes.length:=by have:=hk0.lt; omega
  obtain ⟨gn,on,rfl,hgn,hnd⟩:=oH HX.out.2.1 hn0
  have UH:Hid (yU w gn on X):=hid ⟨hgn,hnd⟩
  rw [hks] at Qz
  clear hko aeR ami hks hnd
  obtain ⟨gk,ck,hgk⟩:=dY Qz.out (by simp)
  obtain ⟨rfl,rfl⟩:ka=some ⟨gk,0,none⟩∧kc=ck:=by
   simp only [Value.slice.injEq] at hgk
   exact ⟨hgk.1,hgk.2.2⟩
  clear hgk
  have hsc:=GL Qz.out
  have asa:b4+1≤gk:=(Qz.out.lt gk rfl).1
  have Bg:gk<w1.heap.size:=(Qz.out.lt gk rfl).2
  have HKC:Hid (∀ i,i<(k0 :: ks).length→w1.cell? ⟨gk,i,none⟩=some (.int .i64 ((k0 :: ks).getD i 0:Nat))):=hid fun i hi=>by
   have h1:=hsc i (.int .i64 ((k0 :: ks).getD i 0:Nat)) (by simp only [ints,nums,List.map_map,List.getElem?_map]; rw [List.getElem?_eq_getElem hi,List.getD_eq_getElem?_getD,List.getElem?_eq_getElem hi]; rfl)
   have e1:(⟨gk,0,none⟩:Addr).add i=⟨gk,i,none⟩:=by unfold Addr.add; split <;> simp_all
   rwa [e1] at h1
  have hlI:((k0 :: ks).length:Int)=(ks.length:Int)+1:=by simp
  have hlN:(k0 :: ks).length=ks.length+1:=by simp
  have hne:¬ ((ks.length:Int)+1=0):=by omega
  rw [hlN] at Qz ⊢
  clear hsc hlI hlN
  go_wp2_with fail
  have VA:=hid hk0
  have hll:(aW R p).length≤1000000:=by have:=Ux HK.out; omega
  have aic:=hid (HIH.out f' (by omega))
  have YU:w1.cell? ⟨gk,0,none⟩=some (.int .i64 k0):=HKC.out 0 (by simp)
  clear hk0
  have Lz:Below w1.heap.size w1 w1.drew:=(Below.refl w1.heap.size w1).drew
  have Az:=HA1.out.below Lz zW
  have Ez:=jR.out.below Lz Bf
  have Dz:=HD1.out.below Lz yt
  have Wz:=aj ql.out Lz ql.out.size
  have kz:=(Lz.cell (p:=⟨gk,0,none⟩) Bg).trans YU
  refine wp_region_noPanic ?_
  refine bU (S:=(fun w'=>w'.cell? ⟨b3,0,none⟩=some (.pointer (some ⟨b,0,none⟩))∧w'.cell? ⟨b4,0,none⟩=some vc∧w'.cell? ⟨b4,1,none⟩=some v0∧w'.cell? ⟨b4,2,none⟩=some v1∧w'.cell? ⟨b4,3,none⟩=some (.int .i64 p.turn)∧w'.cell? ⟨b4,4,none⟩=some (.int .i64 p.quiet)∧w'.cell? ⟨gk,0,none⟩=some (.int .i64 k0))) (L:=[]) (by kernel_rfl) ⟨Az.cell 0 rfl,Ez.cell 0 rfl,Ez.cell 1 rfl,Ez.cell 2 rfl,Ez.cell 3 rfl,Ez.cell 4 rfl,kz⟩ (fun hHeld=>?_)
  refine eH 0 ?_
  refine eH 1 ?_
  refine aJ 2 ?_
  refine aJ 3 ?_
  refine eH 4 ?_
  refine gI 5 fun K hK=>?_
  go_simp
  refine (Na pq.out X ta tc gn on nc k0 b p vc v0 v1 w1.drew Dz (HR.out.below Wz (Nat.le_refl _)) (HP.out.below Wz (Nat.le_refl _)) HK.out TD.out hll VA.out.lt VA.out.cs (Rn HK.out (xE VA.out.ok).2) (UH.out.below Wz (Nat.le_refl _)).1 (UH.out.below Wz (Nat.le_refl _)).2).mono ?_
  rintro e w10 ⟨v10,rfl,mW,jW⟩
  have sZ:=aj Lz jW Lz.size
  have A10:=HA1.out.below sZ zW
  have vM:=jR.out.below sZ Bf
  have vS:=HD1.out.below sZ yt
  have W10:=aj ql.out sZ ql.out.size
  have k10:=(sZ.cell (p:=⟨gk,0,none⟩) Bg).trans YU
  refine hK.out _ _ ⟨A10.cell 0 rfl,vM.cell 0 rfl,vM.cell 1 rfl,vM.cell 2 rfl,vM.cell 3 rfl,vM.cell 4 rfl,k10⟩ (fun hHeld=>?_)
  clear hK K
  refine aJ 6 ?_
  refine kW ?_
  have FK:=hid (own_base mW Lz.size)
  have OU:=hid sZ
  clear hHeld Az Ez Dz Wz Lz kz A10 vM vS W10 sZ k10 mW jW
  obtain ⟨oa5,oc5,rfl⟩:=aH FK.out
  obtain ⟨sa,hsa⟩:∃ sa,sa=kN (some ⟨gk,0,none⟩) kc 1 1:=⟨_,rfl⟩
  have HSA:Hid (0<ks.length→sa=some ⟨gk,1,none⟩):=hid fun h=>by
   rcases Qz.out.2 with ⟨h0,-⟩ | ⟨g,cap,cur,hv,hg,hbb,hnc,-⟩
   ·cases h0
   ·simp only [Value.slice.injEq,Option.some.injEq,Addr.mk.injEq] at hv
    obtain ⟨-,-,rfl⟩:=hv
    rw [hsa]; unfold kN; rw [if_neg (by omega)]
    show some ((⟨gk,0,none⟩:Addr).add (1 * 1))=_
    rw [oP]
  have hds:∀ w:World,(Instr.sliceAt 22 (.slice (some ⟨gk,0,none⟩) (ks.length+1) kc) (some (.int .i64 1)) none none).run Tryz.prog w=.ok (.slice sa ks.length (kc - 1)) w:=fun w=>by rw [hsa]; exact Oe aeN aeO (some ⟨gk,0,none⟩) (ks.length+1) kc 1 (by omega) w
  clear hsa
  go_wp2_with fail
  have H0:Hid (w10.ownsRow w1.heap.size 9 1 (.slice oa5 (je R p (aG X.nodes k0).m (aG X.nodes k0).comment).length oc5) ((je R p (aG X.nodes k0).m (aG X.nodes k0).comment++jk R p ((ks.take 0).map (wI X.nodes f')))).length (gW (je R p (aG X.nodes k0).m (aG X.nodes k0).comment++jk R p ((ks.take 0).map (wI X.nodes f'))))):=hid (by rw [List.take_zero,List.map_nil,jk,List.append_nil]; exact FK.out)
  clear FK hds
  go_loopw [32,9,11,12] (fun v32 v9 v11 v12 wr=>∃ (i:Nat) (o9 o11 o12:Value),o9=v9∧o11=v11∧o12=v12∧i≤ks.length∧v32=.int .i64 i∧Hid (wr.ownsRow w1.heap.size 9 1 o9 ((je R p (aG X.nodes k0).m (aG X.nodes k0).comment++jk R p ((ks.take i).map (wI X.nodes f')))).length (gW (je R p (aG X.nodes k0).m (aG X.nodes k0).comment++jk R p ((ks.take i).map (wI X.nodes f')))))∧Hid (Below w1.heap.size w1 wr)) (fun v _ _ _ _=>ks.length - (intOf v).toNat)
  case atStart=>exact ⟨0,_,_,_,rfl,rfl,rfl,Nat.zero_le _,rfl,H0,OU⟩
  case round =>
   obtain ⟨i,o9,o11,o12,rfl,rfl,rfl,hi,rfl,Z9,RN⟩:=hrel
   by_cases hlt:i<ks.length
   ·obtain rfl:=HSA.out (by omega)
    have aan:(i:Int)<(ks.length:Int):=by omega
    obtain ⟨k,hk⟩:∃ k,ks[i]?=some k:=⟨_,List.getElem?_eq_getElem hlt⟩
    have VB:=hid (HKO.out k (List.mem_cons_of_mem _ (List.mem_of_getElem? hk)))
    have kc1:wr.cell? ⟨gk,1+i,none⟩=some (.int .i64 k):=by
     refine (RN.out.cell (p:=⟨gk,1+i,none⟩) Bg).trans ?_
     rw [Nat.add_comm]
     have:=HKC.out (i+1) (by simp; omega)
     rw [List.getD_cons_succ,List.getD_eq_getElem?_getD,hk] at this
     exact this
    have HS2:Hid ((je R p (aG X.nodes k0).m (aG X.nodes k0).comment++jk R p ((ks.take (i+1)).map (wI X.nodes f')))=(je R p (aG X.nodes k0).m (aG X.nodes k0).comment++jk R p ((ks.take i).map (wI X.nodes f')))++[UU R p (wI X.nodes f' k)]):=hid (by
     have e:ks.take (i+1)=ks.take i++[k]:=by rw [List.take_add_one,hk]; rfl
     rw [e,List.map_append,List.map_cons,List.map_nil,GR,List.append_assoc])
    have hol:((je R p (aG X.nodes k0).m (aG X.nodes k0).comment++jk R p ((ks.take i).map (wI X.nodes f')))).length≤400:=by
     have h1:=HTt.out.1
     have h2:=HCn.out
     rw [HTr.out,kU,List.length_append,List.length_append] at h1
     rw [HTr.out] at h2
     have h3:=GU R p ((ks.map (wI X.nodes f'))) i
     rw [← List.map_take] at h3
     rw [List.length_append]
     change (je R p (aG X.nodes k0).m (aG X.nodes k0).comment).length+_≤_ at h1
     omega
    obtain ⟨lo,hto⟩:∃ lo,lo=(je R p (aG X.nodes k0).m (aG X.nodes k0).comment++jk R p ((ks.take i).map (wI X.nodes f'))):=⟨_,rfl⟩
    rw [← hto] at Z9 HS2 hol
    obtain ⟨o9a,o9c,rfl⟩:=aH Z9.out
    clear hk hi hto
    go_wp2_with fail
    have Lz:Below w1.heap.size w1 wr.drew:=RN.out.drew
    have Az:=HA1.out.below Lz zW
    have Ez:=jR.out.below Lz Bf
    have Dz:=HD1.out.below Lz yt
    have Wz:=aj ql.out Lz ql.out.size
    have kz:=(Lz.cell (p:=⟨gk,0,none⟩) Bg).trans YU
    refine wp_region_noPanic ?_
    refine bU (S:=(fun w'=>w'.cell? ⟨b3,0,none⟩=some (.pointer (some ⟨b,0,none⟩))∧w'.cell? ⟨b4,0,none⟩=some vc∧w'.cell? ⟨b4,1,none⟩=some v0∧w'.cell? ⟨b4,2,none⟩=some v1∧w'.cell? ⟨b4,3,none⟩=some (.int .i64 p.turn)∧w'.cell? ⟨b4,4,none⟩=some (.int .i64 p.quiet))) (L:=[]) (by kernel_rfl) (by and_intros <;> first | exact Az.cell _ rfl | exact Ez.cell _ rfl) (fun hHeld=>?_)
    refine eH 0 ?_
    refine eH 1 ?_
    refine aJ 2 ?_
    refine eH 4 ?_
    refine aJ 5 ?_
    refine aJ 6 ?_
    refine aJ 8 ?_
    refine gI 3 fun K hK=>?_
    go_simp
    refine (Na pq.out X ta tc gn on nc k b p vc v0 v1 wr.drew Dz (HR.out.below Wz (Nat.le_refl _)) (HP.out.below Wz (Nat.le_refl _)) HK.out TD.out hll VB.out.lt VB.out.cs (Rn HK.out (xE VB.out.ok).2) (UH.out.below Wz (Nat.le_refl _)).1 (UH.out.below Wz (Nat.le_refl _)).2).mono ?_
    rintro e w10 ⟨v10,rfl,mW,jW⟩
    have sZ:=aj Lz jW Lz.size
    have A10:=HA1.out.below sZ zW
    have vM:=jR.out.below sZ Bf
    have vS:=HD1.out.below sZ yt
    have W10:=aj ql.out sZ ql.out.size
    have k10:=(sZ.cell (p:=⟨gk,0,none⟩) Bg).trans YU
    refine hK.out _ _ (by and_intros <;> first | exact A10.cell _ rfl | exact vM.cell _ rfl) (fun hHeld=>?_)
    clear hK K
    refine gI 7 fun K hK=>?_
    go_simp
    refine (GN X ta tc gn on nc k b b3 b4 p vc v0 v1 w10 vS A10 vM (HP.out.below W10 (Nat.le_refl _)) HK.out VB.out.lt (xE VB.out.ok).2 (UH.out.below W10 (Nat.le_refl _))).mono ?_
    rintro e wZ ⟨yc,y0,y1,rfl,YV,oN⟩
    have qg:=aj sZ oN sZ.size
    have A20:=HA1.out.below qg zW
    have zl:=jR.out.below qg Bf
    have GI:=HD1.out.below qg yt
    have W20:=aj ql.out qg ql.out.size
    have k20:=(qg.cell (p:=⟨gk,0,none⟩) Bg).trans YU
    unfold sH
    have R20:=aU mW oN
    refine hK.out _ _ (by and_intros <;> first | exact A20.cell _ rfl | exact zl.cell _ rfl) (fun hHeld=>?_)
    clear hK K
    refine gI 9 fun K hK=>?_
    go_simp
    refine (aic.out (k:Int) (bF R p (aG X.nodes k).m) yc y0 y1 wZ GI (HR.out.below W20 (Nat.le_refl _)) (HX.out.below W20 (Nat.le_refl _)) YV.rd (Iq HK.out (xE VB.out.ok).2) (by have:=VB.out.par; omega) VB.out.leg VB.out.sz (by have:=VB.out.cn; omega)).mono ?_
    rintro e w30 ⟨v30,rfl,Fe,Nj⟩
    have BP:=aj qg Nj qg.size
    have A30:=HA1.out.below BP zW
    have E30:=jR.out.below BP Bf
    have D30:=HD1.out.below BP yt
    have W30:=aj ql.out BP ql.out.size
    have k30:=(BP.cell (p:=⟨gk,0,none⟩) Bg).trans YU
    have R30:=aU R20 Nj
    refine hK.out _ _ (by and_intros <;> first | exact A30.cell _ rfl | exact E30.cell _ rfl) (fun hHeld=>?_)
    clear hK K
    refine gI 10 fun K hK=>?_
    rw [if_pos (by rfl)]
    refine pO _ _ rfl w1.heap.size v10 (je R p (aG X.nodes k).m (aG X.nodes k).comment) rfl (own_base R30 Lz.size) w1.heap.size v30 (kU R (bF R p (aG X.nodes k).m) (eU X.nodes f' k)) rfl (own_base Fe qg.size) (by have:=VB.out.tot.1; rw [List.length_append] at this; omega) BP.size ?_
    intro v40 w40 YW UW
    have GV:=below_grown BP (own_base R30 Lz.size) UW BP.size
    have A40:=HA1.out.below GV zW
    have E40:=jR.out.below GV Bf
    have D40:=HD1.out.below GV yt
    have W40:=aj ql.out GV ql.out.size
    have k40:=(GV.cell (p:=⟨gk,0,none⟩) Bg).trans YU
    refine hK.out _ _ (by and_intros <;> first | exact A40.cell _ rfl | exact E40.cell _ rfl) (fun hHeld=>?_)
    clear hK K
    refine aJ 11 ?_
    refine kW ?_
    have xO:=hid YW
    have xM:=hid GV
    have HG9:=hid (aj (aj jW oN jW.size) Nj (aj jW oN jW.size).size)
    have EX:=hid (Below.grown (B:=wr.heap.size) (HG9.out:Below _ _ _) UW HG9.out.size (fun j hj=>(R30.lt j hj).1))
    clear hHeld Az Ez Dz Wz Lz kz A10 vM vS W10 sZ k10 A20 zl GI W20 qg k20 A30 E30 D30 W30 BP k30 A40 E40 D40 W40 GV k40 mW YV Fe YW jW oN Nj UW R20 R30 HG9
    have ain:=hid (aU (w:=wr.drew) (b:=w1.heap.size) Z9.out EX.out)
    clear EX Z9
    obtain ⟨tk,htk⟩:∃ tk,tk=je R p (aG X.nodes k).m (aG X.nodes k).comment++kU R (bF R p (aG X.nodes k).m) (eU X.nodes f' k):=⟨_,rfl⟩
    have htl:=VB.out.tot
    rw [← htk] at xO htl
    obtain ⟨j,hj⟩:∃ j,j=bs (ny tk):=⟨_,rfl⟩
    have hjs:j.size≤208000:=by rw [hj,Ru]; have h1:=qU tk; omega
    obtain ⟨tx,htx⟩:∃ tx,tx=(⟨#[40]⟩++j++⟨#[41]⟩:ByteArray):=⟨_,rfl⟩
    have HTX:=hid htx.symm
    have HVT:Hid (bs (UU R p (wI X.nodes f' k))=tx):=hid (by rw [htx,hj,aeP,htk]; unfold UU wI; rw [yS]; rfl)
    have hjj:=ZN.out w1.heap.size v40 _ w40 xO.out (by omega) (fun x hx=>by have h1:=BO hx; omega)
    rw [← hj] at hjj
    have HJj:=hid hjj
    obtain ⟨a40,c40,rfl⟩:=aH xO.out
    have HTL:=hid htl
    clear hjj hj htx RN htk htl
    go_wp2_with fail
    refine HJj.out.mono ?_
    rintro e w41 ⟨rfl,abN⟩
    have aeT:=hid (aU ain.out abN)
    have aeU:=hid (aj xM.out abN xM.out.size)
    have aeV:w1.heap.size≤w41.heap.size:=aeU.out.size
    have hs1:¬ 9223372036854775807<1+j.size:=by omega
    have hs2:¬ 9223372036854775807<1+j.size+1:=by omega
    clear abN ain xM HJj xO
    go_wp2_with (at_builtin; rw [HTX.out]; refine PV 155 9 (.string ⟨#[]⟩) 1 16 BM Tryz.underlying155 rfl (by decide) (by rfl) _ _ (by rfl) w1.heap.size _ lo.length (gW lo) [.string tx] w41 aeT.out aeV rfl (by intro u hu; simp at hu; subst hu; rfl) (by omega) (by omega) (by rfl) (by rfl) ?_)
    intro g6 cap6 w7 hown6 YQ Nb
    have QU:=hid (Below.grown (aeU.out.alloc aeV (.cells #[.string tx] 9)) Nb (by have:=aeV; simp; omega) (fun j hj=>(aeT.out.lt j hj).1))
    have vN:Hid (w7.ownsRow w1.heap.size 9 1 (.slice (some ⟨g6,0,none⟩) (lo.length+1) cap6) ((je R p (aG X.nodes k0).m (aG X.nodes k0).comment++jk R p ((ks.take (i+1)).map (wI X.nodes f')))).length (gW (je R p (aG X.nodes k0).m (aG X.nodes k0).comment++jk R p ((ks.take (i+1)).map (wI X.nodes f'))))):=hid (by
     have h1:gW lo++[.string tx]=gW (lo++[UU R p (wI X.nodes f' k)]):=by rw [← GK,Es,HVT.out]; rfl
     rw [h1] at hown6
     rw [HS2.out]
     have h2:(lo++[UU R p (wI X.nodes f' k)]).length=lo.length+1:=by rw [List.length_append]; rfl
     rw [h2]
     exact hown6)
    have HI2:=hid hlt
    clear hown6 YQ Nb aeT aeU hlt
    go_wp2_with fail
    go_roundw
    case rel=>exact ⟨i+1,_,_,_,rfl,rfl,rfl,HI2.out,by go_num,vN,QU⟩
    case measure=>have:=HI2.out; simp [intOf]; omega
   ·obtain rfl:i=ks.length:=by omega
    have aan:¬ (ks.length:Int)<(ks.length:Int):=by omega
    have QN:Hid (wr.ownsRow w1.heap.size 9 1 o9 (je R p (aG X.nodes k0).m (aG X.nodes k0).comment++jk R p (ks.map (wI X.nodes f'))).length (gW (je R p (aG X.nodes k0).m (aG X.nodes k0).comment++jk R p (ks.map (wI X.nodes f'))))):=hid (by have:=Z9.out; rwa [List.take_of_length_le (Nat.le_refl _)] at this)
    go_wp2_with fail
    have Lz:Below w1.heap.size w1 wr.drew:=RN.out.drew
    have Az:=HA1.out.below Lz zW
    have Ez:=jR.out.below Lz Bf
    have Dz:=HD1.out.below Lz yt
    have Wz:=aj ql.out Lz ql.out.size
    have kz:=(Lz.cell (p:=⟨gk,0,none⟩) Bg).trans YU
    have HRz:World.ownsRow wr.drew w1.heap.size 9 1 o9 _ _:=QN.out
    refine wp_region_noPanic ?_
    refine bU (S:=(fun w'=>w'.cell? ⟨b3,0,none⟩=some (.pointer (some ⟨b,0,none⟩))∧w'.cell? ⟨b4,0,none⟩=some vc∧w'.cell? ⟨b4,1,none⟩=some v0∧w'.cell? ⟨b4,2,none⟩=some v1∧w'.cell? ⟨b4,3,none⟩=some (.int .i64 p.turn)∧w'.cell? ⟨b4,4,none⟩=some (.int .i64 p.quiet)∧w'.cell? ⟨gk,0,none⟩=some (.int .i64 k0))) (L:=[]) (by kernel_rfl) ⟨Az.cell 0 rfl,Ez.cell 0 rfl,Ez.cell 1 rfl,Ez.cell 2 rfl,Ez.cell 3 rfl,Ez.cell 4 rfl,kz⟩ (fun hHeld=>?_)
    refine aJ 0 ?_
    refine eH 1 ?_
    refine aJ 2 ?_
    refine aJ 3 ?_
    refine aJ 7 ?_
    refine aJ 4 ?_
    refine aJ 8 ?_
    refine eH 5 ?_
    refine eH 9 ?_
    refine gI 6 fun K hK=>?_
    go_simp
    refine (GN X ta tc gn on nc k0 b b3 b4 p vc v0 v1 wr.drew Dz Az Ez (HP.out.below Wz (Nat.le_refl _)) HK.out VA.out.lt (xE VA.out.ok).2 (UH.out.below Wz (Nat.le_refl _))).mono ?_
    rintro e wZ ⟨yc,y0,y1,rfl,YV,oN⟩
    have qg:=aj Lz oN Lz.size
    have A20:=HA1.out.below qg zW
    have zl:=jR.out.below qg Bf
    have GI:=HD1.out.below qg yt
    have W20:=aj ql.out qg ql.out.size
    have k20:=(qg.cell (p:=⟨gk,0,none⟩) Bg).trans YU
    unfold sH
    have R20:=aU HRz oN
    refine hK.out _ _ ⟨A20.cell 0 rfl,zl.cell 0 rfl,zl.cell 1 rfl,zl.cell 2 rfl,zl.cell 3 rfl,zl.cell 4 rfl,k20⟩ (fun hHeld=>?_)
    clear hK K
    refine gI 10 fun K hK=>?_
    go_simp
    refine (aic.out (k0:Int) (bF R p (aG X.nodes k0).m) yc y0 y1 wZ GI (HR.out.below W20 (Nat.le_refl _)) (HX.out.below W20 (Nat.le_refl _)) YV.rd (Iq HK.out (xE VA.out.ok).2) (by have:=VA.out.par; omega) VA.out.leg VA.out.sz (by have:=VA.out.cn; omega)).mono ?_
    rintro e w30 ⟨v30,rfl,Fe,Nj⟩
    have BP:=aj qg Nj qg.size
    have A30:=HA1.out.below BP zW
    have E30:=jR.out.below BP Bf
    have D30:=HD1.out.below BP yt
    have W30:=aj ql.out BP ql.out.size
    have k30:=(BP.cell (p:=⟨gk,0,none⟩) Bg).trans YU
    have R30:=aU R20 Nj
    refine hK.out _ _ ⟨A30.cell 0 rfl,E30.cell 0 rfl,E30.cell 1 rfl,E30.cell 2 rfl,E30.cell 3 rfl,E30.cell 4 rfl,k30⟩ (fun hHeld=>?_)
    clear hK K
    refine gI 11 fun K hK=>?_
    rw [if_pos (by rfl)]
    have hle:(je R p (aG X.nodes k0).m (aG X.nodes k0).comment++jk R p (ks.map (wI X.nodes f'))).length+(kU R (bF R p (aG X.nodes k0).m) (eU X.nodes f' k0)).length≤1000000:=by
     have h1:=HTt.out.1
     rw [HTr.out,kU,show yS R p (wI X.nodes f' k0)=kU R (bF R p (aG X.nodes k0).m) (eU X.nodes f' k0) by unfold wI; rw [yS]] at h1
     have h2:=HCn.out
     rw [HTr.out] at h2
     simp only [List.length_append] at h1 ⊢
     change (je R p (aG X.nodes k0).m (aG X.nodes k0).comment).length+_≤_ at h1
     omega
    refine pO _ _ rfl w1.heap.size o9 (je R p (aG X.nodes k0).m (aG X.nodes k0).comment++jk R p (ks.map (wI X.nodes f'))) rfl R30 w1.heap.size v30 (kU R (bF R p (aG X.nodes k0).m) (eU X.nodes f' k0)) rfl (own_base Fe qg.size) hle BP.size ?_
    intro v40 w40 YW UW
    have GV:=below_grown BP R30 UW BP.size
    have A40:=HA1.out.below GV zW
    have E40:=jR.out.below GV Bf
    have D40:=HD1.out.below GV yt
    have W40:=aj ql.out GV ql.out.size
    have k40:=(GV.cell (p:=⟨gk,0,none⟩) Bg).trans YU
    refine hK.out _ _ ⟨A40.cell 0 rfl,E40.cell 0 rfl,E40.cell 1 rfl,E40.cell 2 rfl,E40.cell 3 rfl,E40.cell 4 rfl,k40⟩ (fun hHeld=>?_)
    clear hK K
    refine aJ 12 ?_
    refine kW ?_
    have amo:=hid YW
    have amq:=hid W40
    clear hHeld Az Ez Dz Wz Lz kz HRz A20 zl GI W20 qg k20 A30 E30 D30 W30 BP k30 A40 E40 D40 W40 GV k40 YV Fe YW oN Nj UW R20 R30
    go_wp2_with fail
    go_ret
    refine ⟨_,rfl,?_,amq.out⟩
    rw [HTr.out,kU]
    have e:yS R p (wI X.nodes f' k0)=kU R (bF R p (aG X.nodes k0).m) (eU X.nodes f' k0):=by unfold wI; rw [yS]
    rw [e,← List.append_assoc]
    exact own_base amo.out ql.out.size
theorem PZ (HS:SortMvSaid) (HJ:qV) (L:sF R) (X:iM) (hB:Back X.nodes X.nodes.length) (hnl:X.nodes.length≤1000) (ta na:Option Addr) (tc nc b:Nat) (f:Nat):Jt R vp vs ve X ta na tc nc b f:=by
 induction f using Nat.strongRecOn with
 | ind f ih=>exact Nh HS HJ L X hB hnl ta na tc nc b f ih
end Go.Proofs.YteablcielclaeaaGreatDoor
namespace Go.Proofs.YteablcielclaeaaGreatDoor
open Go.ChangeShapes Go.WideShapes Go.ChangeAt Go.RowKit
set_option linter.unusedVariables false
theorem YX (t:sO):(UD t).length=t.key.size+t.value.size+6:=by
 unfold UD bt
 simp only [List.length_cons,List.length_append,List.length_nil,Array.length_toList,ByteArray.size_data]
 omega
theorem abQ:∀ n:Nat,(Gx.getD n []).length≤3
 | 0=>by decide
 | 1=>by decide
 | 2=>by decide
 | 3=>by decide
 | n+4=>by simp [Gx]
end Go.Proofs.YteablcielclaeaaGreatDoor
