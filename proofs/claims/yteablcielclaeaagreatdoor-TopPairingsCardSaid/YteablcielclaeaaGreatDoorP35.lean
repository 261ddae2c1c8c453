/- TwSwE, TkKnSeeds. -/
import Derived.Test.YteablcielclaeaaGreatDoorP34
namespace Go.Proofs.YteablcielclaeaaGreatDoor
open Go.ChangeShapes Go.WideShapes Go.ChangeAt Go.RowKit
set_option linter.unusedVariables false
open Go.Lib (hid)
def pl1 (f:Nat→dH) (i:Nat) (r:Int):Nat→dH:=bT f i { f i with score:=(f i).score+r }
def pl2 (f:Nat→dH) (i j:Nat) (r:Int):Nat→dH:=bT (pl1 f i r) j { pl1 f i r j with score:=(f j).score+(2 - r) }
def pl3 (f:Nat→dH) (i j:Nat) (r:Int):Nat→dH:=bT (pl2 f i j r) i { pl2 f i j r i with bZ:=(f i).bZ++[(j:Int)] }
def JC (f:Nat→dH) (i j:Nat) (r:Int):Nat→dH:=bT (pl3 f i j r) j { pl3 f i j r j with bZ:=(f j).bZ++[(i:Int)] }
def pl4 (f:Nat→dH) (i j:Nat) (r:Int):Nat→dH:=bT (JC f i j r) i { JC f i j r i with colour:=(f i).colour+1 }
def pl5 (f:Nat→dH) (i j:Nat) (r:Int):Nat→dH:=bT (pl4 f i j r) j { pl4 f i j r j with colour:=(f j).colour - 1 }
theorem ZE (f:Nat→dH) (i j:Nat) (r:Int) (h:i≠j):pl5 f i j r=plays f i j r:=by
 funext z
 rw [mg]
 unfold pl5 pl4 JC pl3 pl2 pl1
 by_cases e1:z=j
 ·subst e1
  have e:¬ z=i:=fun e=>h e.symm
  have e':¬ i=z:=h
  simp [bT,e,e']
 ·by_cases e2:z=i
  ·subst e2; simp [bT,e1,h]
  ·simp [bT,e1,e2]
theorem Cells.same {w:World} {ob n:Nat} {f:Nat→dH} {v:Nat→Value} (h:Cells w ob n f v) (i:Nat) (hi:i<n) (u:Value):Cells (w.setCell ⟨ob,i * 4+1,none⟩ u) ob n f (bT v i u):=by
 have:=h.bZ i hi u (f i).bZ
 have e:bT f i { f i with bZ:=(f i).bZ }=f:=by
  funext k
  unfold bT
  by_cases e:k=i
  ·subst e; rw [if_pos rfl]
  ·rw [if_neg e]
 rwa [e] at this
theorem fF.zero {w:World} {ob:Nat} (B:Nat) (u:Nat→Value) (o:Nat→List Int) (h:ob<w.heap.size):fF B w [ob] 0 u o:=
 ⟨fun i hi=>absurd hi (Nat.not_lt_zero _),fun i hi=>absurd hi (Nat.not_lt_zero _),fun i _ hi=>absurd hi (Nat.not_lt_zero _),fun b hb=>by rw [List.mem_singleton.1 hb]; exact h⟩
theorem fF.to {B:Nat} {w:World} {bs:List Nat} {m:Nat} {u u':Nat→Value} {o o':Nat→List Int} (h:fF B w bs m u o) (hu:u=u') (ho:o=o'):fF B w bs m u' o':=by subst hu; subst ho; exact h
theorem uU {w:World} {b:Nat} {z:Int} {t:TypeId} (h:Box w b [.int .i64 z] t):∀ j u,[Value.int .i64 z][j]?=some u→w.cell? ((⟨b,0,none⟩:Addr).add j)=some u:=by
 intro j u hu
 have e:(⟨b,0,none⟩:Addr).add j=⟨b,j,none⟩:=by unfold Addr.add; split <;> simp_all
 rw [e]
 exact h.cell j hu
theorem fF.at {B:Nat} {w:World} {bs:List Nat} {m:Nat} {u:Nat→Value} {o:Nat→List Int} (h:fF B w bs m u o) (a:Nat) (ha:a<m) {x:Value} {l:List Int} (hu:u a=x) (ho:o a=l):w.ownsRow B 3 1 x l.length (ints l):=by
 subst hu; subst ho; exact h.own a ha
theorem fF.ne {B:Nat} {w:World} {bs:List Nat} {m:Nat} {u:Nat→Value} {o:Nat→List Int} (h:fF B w bs m u o) (a:Nat) (ha:a<m) {x:Value} (hu:u a=x) {b:Nat} (hb:b∈bs):some b≠x.ownBlock:=by
 subst hu; exact fun e=>h.off a ha b hb e.symm
theorem fF.Vs {B:Nat} {w w':World} {bs:List Nat} {m:Nat} {u:Nat→Value} {o:Nat→List Int} (h:fF B w bs m u o) (a:Nat) (ha:a<m) {v0:Value} {l:List Int} (hu:u a=v0) (ho:o a=l) {g c:Nat} {x:Int}
  (hown:w'.ownsRow B 3 1 (.slice (some ⟨g,0,none⟩) (l.length+1) c) (l.length+1) (ints l++[.int .i64 x])) (hg:w.grownBy w' v0.ownBlock) (hq:v0.ownBlock=some g∨g=w.heap.size) :
  fF B w' bs m (bT u a (.slice (some ⟨g,0,none⟩) (l.length+1) c)) (bT o a (l++[x])):=by
 subst hu; subst ho; exact h.app a ha hown rfl rfl hg hq
theorem JD (f:Nat→dH) (i j:Nat) (r:Int) (h:i≠j):bT (bT (fun z=>(f z).bZ) i ((f i).bZ++[(j:Int)])) j ((f j).bZ++[(i:Int)])=fun z=>(pl5 f i j r z).bZ:=by
 rw [ZE f i j r h]
 funext z
 show _=(plays f i j r z).bZ
 rw [mg]
 unfold bT
 by_cases e1:z=j
 ·rw [if_pos e1,if_pos e1]
 ·rw [if_neg e1,if_neg e1]
  by_cases e2:z=i
  ·rw [if_pos e2,if_pos e2]
  ·rw [if_neg e2,if_neg e2]
theorem ZF (f:Nat→dH) (i:Nat):bT (bT f i { f i with score:=(f i).score+2 }) i { bT f i { f i with score:=(f i).score+2 } i with dX:=true }=rests f i:=by
 funext z
 unfold rests bT
 by_cases e:z=i
 ·subst e; simp
 ·simp [e]
theorem Vt (f:Nat→dH) (i:Nat):(fun z=>(f z).bZ)=fun z=>(rests f i z).bZ:=by
 funext z
 unfold rests bT
 by_cases e:z=i
 ·subst e; simp
 ·simp [e]
theorem NG (f:Nat→dH) (i j:Nat) (r:Int) (z:Nat):(JC f i j r z).colour=(f z).colour:=by
 unfold JC pl3 pl2 pl1 bT
 by_cases e1:z=j <;> by_cases e2:z=i <;> (try subst e1) <;> (try subst e2) <;> simp_all
theorem acY (f:Nat→dH) (i j:Nat) (r:Int) (h:i≠j):(pl4 f i j r j).colour=(f j).colour:=by
 unfold pl4
 rw [aW _ _ (fun e=>h e.symm),NG]
def QN (ps:List dH) (W:List Int) (off:Int) (w:World) (e:Ending) (w':World):Prop:=Below w.heap.size w w'∧((∃ (c:Int) (f:Nat→dH),c≠0∧gW (newL ps.length f) c∧Fin1 ps W off f∧e=.returned (.tuple #[.slice none 0 0,.int .i64 c])) ∨
 ∃ v f,e=.returned (.tuple #[v,.int .i64 0])∧pU (fun b=>w.heap.size≤b) w' v (newL ps.length f)∧gW (newL ps.length f) 0∧Fin1 ps W off f)
set_option maxRecDepth 100000 in
set_option maxHeartbeats 16000000 in
theorem ZG (s vg vr:Value) (ps:List dH) (W rs:List Int) (w:World) (hs:kZ w s ps) (hok:um ps) (hw:Whole ps W) (hg:iC Vo w vg (dW ps W ps.length)) (hr:fQ w vr rs)
  (hl:rs.length=(dW ps W ps.length).length) (h2:∀ k,k<rs.length→0≤rs.getD k 0∧rs.getD k 0≤2) :
  Calls Tryz.prog 10 #[s,vg,vr,.int .i64 (lH ps.length W ps.length)] w (QN ps W (lH ps.length W ps.length) w):=by
 obtain ⟨sa,sc,rfl,hs1,hs2⟩:=hs.form
 obtain ⟨ga,gc,rfl,hg1,hg2⟩:=hg.form
 obtain ⟨ra,rc,rfl,hr1,hr2⟩:=hr.form
 unfold maxLen at hs2 hg2 hr2
 obtain ⟨hn2,MG⟩:=hok.1
 have OB:=hid hok
 have HW:=hid hw
 have HS:=hid hs
 have HG:=hid hg
 have HR:=hid hr
 have H2:=hid h2
 have HL:=hid hl
 have HGs:=hid (jd hw ps.length (Nat.le_refl _))
 have acX:=hid (Ew hw)
 have HGL:=hid (zf ps W ps.length)
 have WI:Hid (∀ i,i<ps.length→Small (aZ ps i)):=hid (fun i hi=>(hok.2.1 i hi).1)
 have Qi:Hid (∀ i,i<ps.length→(aZ ps i).bZ.length≤20):=hid (fun i hi=>(hok.2.1 i hi).2.1)
 clear hs hok hw hg hr h2
 obtain ⟨G,hG⟩:∃ G,G=dW ps W ps.length:=⟨_,rfl⟩
 obtain ⟨off,hoff⟩:∃ off,off=lH ps.length W ps.length:=⟨_,rfl⟩
 have HFe:Hid (∀ f,Ey ps G f→off = -1→Fin1 ps W off f):=hid (fun f hm he=>by subst hG; subst hoff; rw [he]; exact Zw HW.out MG hm he)
 have HFo:Hid (∀ f,Ey ps G f→∀ i:Nat,i<ps.length→off=i→Fin1 ps W off (rests f i)):=hid (fun f hm i hi he=>by subst hG; subst hoff; rw [he]; exact acT HW.out MG hm i hi he)
 have JQ:Hid (∀ w',Below w.heap.size w w'→Calls Tryz.prog 32 #[.slice sa ps.length sc,.slice ga G.length gc,.slice ra rs.length rc,.int .i64 off] w' fun e w''=>e=.returned (.int .i64 0)∧Below w'.heap.size w' w''):=hid (fun w' hb=>by
  subst hG; subst hoff
  exact FP _ _ _ ps W rs w' (iC.below HS.out hb (Nat.le_refl _)) OB.out HW.out (iC.below HG.out hb (Nat.le_refl _)) (fQ.below HR.out hb (Nat.le_refl _)) HL.out H2.out)
 rw [← hG] at hl HG HGs HGL hg1
 rw [← hG,← hoff]
 rw [← hoff] at acX
 clear hG hoff
 rw [hl] at hr1 HR H2 JQ ⊢
 have hle:G.length≤ps.length:=HGL.out
 have HLr:=hid hl
 clear HL hl
 go_enter Tryz.func10,Tryz.ntmps10
 go_upto_region 2 with (go_at_call 29; refine (rG _ ps _ HS.out).mono ?_; rintro e w1 ⟨cc,rfl,vK,hbl⟩; have HC:=hid (SX OB.out vK); have HB1:=hid hbl; clear vK hbl)
 obtain rfl:cc=0:=HC.out
 go_upto_region 5 with (go_at_call 32; refine (JQ.out _ HB1.out).mono ?_; rintro e w2 ⟨rfl,hbl⟩; have HB2:=hid (HB1.out.trans (hbl.mono HB1.out.size)); clear hbl)
 have avu:=HB2.out.size
 go_upto_region 8 with (go_at_call 33; refine (QM _ ps _ (iC.below HS.out HB2.out (Nat.le_refl _)) hn2 MG).mono ?_; rintro e w3 ⟨ob,oc,vo,rfl,ho1,ho2,hob,hb,hcl,hvo⟩; have HB3:=hid hb; have HCl:=hid hcl; have HVo:=hid hvo; clear hb hcl hvo)
 unfold maxLen at ho2
 obtain ⟨bb,hbb⟩:∃ bb,bb=w2.heap.size:=⟨_,rfl⟩
 rw [← hbb] at HB3 hob
 have avv:bb≤w2.heap.size:=by omega
 have avw:w2.heap.size≤bb:=by omega
 clear hbb
 go_wp2_with fail
 go_loopw [36,13] (fun v36 v13 wr=>∃ (k:Nat) (ZH:Value) (v:Nat→Value),ZH=v13∧k≤ps.length∧v36=.int .i64 k∧Hid (Cells wr ob ps.length (aZ ps) v)∧Hid (fF bb wr [ob] k v (fun i=>(aZ ps i).bZ))∧Hid (∀ i,k≤i→v i=vo i)∧Hid (Below bb w2 wr)) (fun v _ _=>ps.length - (intOf v).toNat)
 case atStart=>exact ⟨0,_,vo,rfl,Nat.zero_le _,rfl,HCl,hid (fF.zero bb vo _ HCl.out.lt),hid (fun _ _=>rfl),HB3⟩
 case round =>
  obtain ⟨k,ZH,v,rfl,hk,rfl,HC1,VY,HV1,HB⟩:=hrel
  have hsr:=HB.out.size
  have acZ:=HC1.out.lt
  by_cases hlt:k<ps.length
  ·have hvk:=HV1.out k (Nat.le_refl _)
   have hrd:=fQ.below (HVo.out k hlt) HB.out (by omega)
   have cv:=HC1.out.c1 k hlt
   have fv:=HC1.out.fr (k * 4+1)
   rw [hvk] at cv
   obtain ⟨ka,kc,hka,hk1,hk2⟩:=hrd.form
   have hkl:=Qi.out k hlt
   rw [hka] at cv hrd
   have HRk:=hid hrd
   have HOn:Hid (∀ w' x,Below wr.heap.size wr w'→w'.ownsRow wr.heap.size 3 1 x (aZ ps k).bZ.length (ints (aZ ps k).bZ)→fF bb w' [ob] (k+1) (bT v k x) (fun i=>(aZ ps i).bZ)):=hid (fun w' x hb ho=>VY.out.new hb (by omega) ho rfl)
   have HVn:Hid (∀ x i,k+1≤i→bT v k x i=vo i):=hid (fun x i hi=>by rw [aW _ _ (by omega)]; exact HV1.out i (by omega))
   clear hvk hrd HV1 hka
   go_upto_region 11 with (fail)
   go_wp2_with (go_at_call 22; refine (lJ _ _ _ HRk.out (by omega)).mono ?_; rintro e w4 ⟨vx,rfl,hox,hbx⟩; obtain ⟨xa,xc,rfl⟩:=aG hox; have cv4:=(hbx.cell (p:=⟨ob,k * 4+1,none⟩) acZ).trans cv; have fv4:=(hbx.frozen (p:=⟨ob,k * 4+1,none⟩) acZ).trans fv; have avy:ob<w4.heap.size:=Nat.lt_of_lt_of_le acZ hbx.size; have HO4:=hid ((HOn.out _ _ hbx hox).set ob (k * 4+1) (List.mem_singleton.2 rfl) (.slice xa (aZ ps k).bZ.length xc)); have HC4:=hid ((HC1.out.stays hbx).same k hlt (.slice xa (aZ ps k).bZ.length xc)); have HB4:=hid ((HB.out.trans (hbx.mono (by omega))).setCell (p:=⟨ob,k * 4+1,none⟩) (by exact hob) (.slice xa (aZ ps k).bZ.length xc)); clear hox hbx HOn)
   go_roundw
   case rel=>exact ⟨k+1,_,_,rfl,by omega,by go_num,HC4,HO4,hid (HVn.out _),HB4⟩
   case measure=>simp [intOf]; omega
  ·obtain rfl:k=ps.length:=by omega
   have hws:=HB.out.size
   go_wp2_with fail
   obtain ⟨wo,rfl⟩:∃ wo:World,wo=wr:=⟨_,rfl⟩
   clear HV1
   go_loopw [52,14,15,16,17] (fun v52 v14 v15 v16 v17 wr=>∃ (k:Nat) (p14 p15 p16 p17:Value) (f:Nat→dH) (v:Nat→Value),p14=v14∧p15=v15∧p16=v16∧p17=v17∧k≤G.length∧v52=.int .i64 k∧Hid (Cells wr ob ps.length f v)∧Hid (fF bb wr [ob] ps.length v (fun i=>(f i).bZ))∧Hid (Ey ps (G.take k) f)∧Hid (Below bb w2 wr)) (fun v _ _ _ _ _=>G.length - (intOf v).toNat)
   case atStart=>exact ⟨0,_,_,_,_,aZ ps,v,rfl,rfl,rfl,rfl,Nat.zero_le _,rfl,HC1,VY,hid (Ey.start ps WI.out),HB⟩
   case round =>
    obtain ⟨k,p14,p15,p16,p17,f,v,rfl,rfl,rfl,rfl,hk,rfl,HC,HO,HM,HB⟩:=hrel
    have hsr:=HB.out.size
    have acZ:=HC.out.lt
    by_cases hlt:k<G.length
    ·have hww:=HB2.out.trans (HB.out.mono (show w.heap.size≤bb by omega))
     obtain ⟨gg,og,rfl,hgg,hcl⟩:=iC.some (iC.below HG.out hww (Nat.le_refl _)) (by omega)
     obtain ⟨cs,hcs,hj⟩:=hcl k hlt
     obtain ⟨i,j,hij,hin,hjn,hne,-⟩:=HGs.out _ (List.getElem_mem hlt)
     have HT:Hid (G.take (k+1)=G.take k++[((i:Int),(j:Int))]):=hid (by rw [List.take_add_one,List.getElem?_eq_getElem hlt,hij]; rfl)
     rw [hij] at hcs
     obtain rfl:cs=[.int .i64 (i:Int),.int .i64 (j:Int)]:=hcs
     have c1:wr.cell? ⟨gg,og+k * 2,none⟩=some (.int .i64 (i:Int)):=hj 0 (by decide)
     have c2:wr.cell? ⟨gg,og+k * 2+1,none⟩=some (.int .i64 (j:Int)):=hj 1 (by decide)
     clear hcl hij hj
     have hlr:=HLr.out
     obtain ⟨rg,ro,rc2,har,-,-,hrg,hrc⟩:=HR.out.some (by omega)
     rw [hlr] at har hrc
     clear hlr
     simp only [Value.slice.injEq] at har
     obtain ⟨rfl,-,rfl⟩:=har
     have cr:=(hww.cell (p:=⟨rg,ro+k,none⟩) hrg).trans (hrc k (by omega))
     obtain ⟨hr0,hr3⟩:=H2.out k hlt
     clear hrc hww
     generalize rs.getD k 0=rk at *
     obtain ⟨aoL,ajr⟩:=HM.out.sc i hin
     obtain ⟨avz,aoM⟩:=HM.out.sc j hjn
     obtain ⟨aoN,aoO⟩:=HM.out.col i hin
     obtain ⟨aoP,aoQ⟩:=HM.out.col j hjn
     have hoi:(f i).bZ.length≤100:=by
      have h1:=Qi.out i hin
      have h2:=Aj (i:Int) (G.take k)
      rw [HM.out.bZ i hin,List.length_append,uQ]
      rw [List.length_take] at h2
      omega
     have hoj:(f j).bZ.length≤100:=by
      have h1:=Qi.out j hjn
      have h2:=Aj (j:Int) (G.take k)
      rw [HM.out.bZ j hjn,List.length_append,uQ]
      rw [List.length_take] at h2
      omega
     rw [List.length_take] at ajr aoM aoN aoO aoP aoQ
     have Ib:=hid (HM.out.step i j hin hjn hne rk hr0 hr3)
     rw [← HT.out,← ZE f i j rk hne] at Ib
     clear HM
     go_upto_region 16 with (fail)
     obtain ⟨pb,hpb⟩:∃ pb,pb=wr.heap.size:=⟨_,rfl⟩
     rw [← hpb]
     have HP:=hid (Box.new' wr pb [.int .i64 (i:Int),.int .i64 (j:Int)] 31 hpb.symm)
     have kF:=hid (HB.out.alloc (by omega) (.cells #[.int .i64 (i:Int),.int .i64 (j:Int)] 31))
     have HCp:=hid (HC.out.stays ((Below.refl wr.heap.size wr).alloc (Nat.le_refl _) (.cells #[.int .i64 (i:Int),.int .i64 (j:Int)] 31)))
     have HOp:=hid (HO.out.fresh (.cells #[.int .i64 (i:Int),.int .i64 (j:Int)] 31))
     rw [← hpb] at HOp
     have crp:=eG cr (.cells #[.int .i64 (i:Int),.int .i64 (j:Int)] 31)
     have hbp:bb≤pb:=by omega
     have avA:rg≠ob:=by omega
     have ajs:pb≠ob:=by omega
     clear HB HC HO cr c1 c2 hpb
     generalize wr.alloc (.cells #[.int .i64 (i:Int),.int .i64 (j:Int)] 31)=wp at *
     have hin':(i:Int)<(ps.length:Int):=by omega
     have avC:(j:Int)<(ps.length:Int):=by omega
     have hq:wp.cell? ⟨pb,0,none⟩=some (.int .i64 (i:Int))∧wp.cell? ⟨pb,1,none⟩=some (.int .i64 (j:Int)):=⟨HP.out.cell 0 rfl,HP.out.cell 1 rfl⟩
     refine wp_region_noPanic ?_
     refine bI (S:=(fun w'=>w'.cell? ⟨pb,0,none⟩=some (.int .i64 (i:Int))∧w'.cell? ⟨pb,1,none⟩=some (.int .i64 (j:Int)))) (L:=[]) (by kernel_rfl) hq (fun hHeld=>?_)
     refine aC 0 ?_
     refine aC 1 ?_
     refine aC 4 ?_
     refine aC 5 ?_
     refine dV 2 ?_
     refine dV 6 ?_
     refine aC 3 ?_
     refine aC 7 ?_
     refine aC 8 ?_
     refine aC 9 ?_
     refine jC ?_
     clear hHeld
     have HPd:=hid (HP.out.drew)
     have Pn:=hid (below_drewN kF.out 1)
     have HCd:=hid (HCp.out.stays (below_drewN (Below.refl _ _) 1))
     have QL:=hid (HOp.out.stays (below_drewN (Below.refl _ _) 1))
     have crd:wp.drew.cell? ⟨rg,ro+k,none⟩=some (.int .i64 rk):=crp
     change Hid (Below bb w2 wp.drew) at Pn
     change Hid (Cells wp.drew ob ps.length f v) at HCd
     change Hid (fF bb wp.drew [pb,ob] ps.length v fun i=>(f i).bZ) at QL
     clear HP kF HCp HOp crp hq
     go_upto_region 17 with (fail)
     generalize wp.drew=wa at *
     have qs:wa.drew.cell? ⟨ob,i * 4,none⟩=some (.int .i64 (f i).score)∧wa.drew.cell? ⟨rg,ro+k,none⟩=some (.int .i64 rk):=⟨HCd.out.c0 i hin,crd⟩
     have fs:wa.drew.frozen? ⟨ob,i * 4,none⟩=false:=HCd.out.fr (i * 4)
     have W1:IntKind.i64.wrap ((f i).score+rk)=(f i).score+rk:=IntWalk.i64_in _ (by omega)
     have afS:ob<wa.drew.heap.size:=HCd.out.lt
     refine wp_region_noPanic ?_
     refine bI (S:=(fun w'=>w'.cell? ⟨ob,i * 4,none⟩=some (.int .i64 (f i).score)∧w'.cell? ⟨rg,ro+k,none⟩=some (.int .i64 rk))) (L:=[11]) (by kernel_rfl) qs (fun hHeld=>?_)
     refine aC 0 ?_
     refine aC 4 ?_
     refine aC 5 ?_
     refine aC 1 ?_
     refine aC 6 ?_
     refine aC 2 ?_
     refine dV 7 ?_
     refine dV 3 ?_
     refine aC 8 ?_
     refine aC 9 ?_
     refine aC 10 ?_
     refine rP 11 fun K hK=>?_
     have d1:=qs.1
     go_simp
     refine aQ ?_
     intro IY e17
     have ajt:Hid (Box IY pb [.int .i64 (i:Int),.int .i64 (j:Int)] 31):=hid (by rw [e17]; exact (HPd.out.drew).far ⟨ob,i * 4,none⟩ _ ajs)
     have aju:Hid (Below bb w2 IY):=hid (by rw [e17]; exact (below_drewN Pn.out 1).setCell (p:=⟨ob,i * 4,none⟩) (by exact hob) _)
     have ZI:Hid (Cells IY ob ps.length (pl1 f i rk) v):=hid (by rw [e17]; exact (HCd.out.stays (below_drewN (Below.refl _ _) 1)).score i hin _)
     have ajv:Hid (fF bb IY [pb,ob] ps.length v (fun i=>(f i).bZ)):=hid (by rw [e17]; exact (QL.out.stays (below_drewN (Below.refl _ _) 1)).set ob (i * 4) (by simp) _)
     have ajw:IY.cell? ⟨rg,ro+k,none⟩=some (.int .i64 rk):=by rw [e17]; exact (World.cell?_setCell_other wa ⟨ob,i * 4,none⟩ ⟨rg,ro+k,none⟩ _ (by simp only [ne_eq,Addr.mk.injEq,and_true]; omega)).trans qs.2
     clear e17 d1
     refine hK.out _ _ ?_
     clear hK K
     refine jC ?_
     clear hHeld qs fs HPd Pn HCd QL crd afS W1
     have hji:j≠i:=fun e=>hne e.symm
     go_upto_region 18 with (fail)
     have qs:IY.drew.cell? ⟨ob,j * 4,none⟩=some (.int .i64 (f j).score)∧IY.drew.cell? ⟨rg,ro+k,none⟩=some (.int .i64 rk):=⟨by
      have:=ZI.out.c0 j hjn
      unfold pl1 at this
      rw [aW _ _ hji] at this
      exact this,ajw⟩
     have fs:IY.drew.frozen? ⟨ob,j * 4,none⟩=false:=ZI.out.fr (j * 4)
     have W2:IntKind.i64.wrap (2 - rk)=2 - rk:=IntWalk.i64_in _ (by omega)
     have W3:IntKind.i64.wrap ((f j).score+(2 - rk))=(f j).score+(2 - rk):=IntWalk.i64_in _ (by omega)
     have afS:ob<IY.drew.heap.size:=ZI.out.lt
     refine wp_region_noPanic ?_
     refine bI (S:=(fun w'=>w'.cell? ⟨ob,j * 4,none⟩=some (.int .i64 (f j).score)∧w'.cell? ⟨rg,ro+k,none⟩=some (.int .i64 rk))) (L:=[12]) (by kernel_rfl) qs (fun hHeld=>?_)
     refine aC 0 ?_
     refine aC 4 ?_
     refine aC 5 ?_
     refine aC 1 ?_
     refine aC 6 ?_
     refine aC 2 ?_
     refine dV 7 ?_
     refine dV 3 ?_
     refine aC 8 ?_
     refine aC 9 ?_
     refine aC 10 ?_
     refine aC 11 ?_
     refine rP 12 fun K hK=>?_
     have d1:=qs.1
     go_simp
     refine aQ ?_
     intro rJ e18
     have ajx:Hid (Box rJ pb [.int .i64 (i:Int),.int .i64 (j:Int)] 31):=hid (by rw [e18]; exact (ajt.out.drew).far ⟨ob,j * 4,none⟩ _ ajs)
     have ajy:Hid (Below bb w2 rJ):=hid (by rw [e18]; exact (below_drewN aju.out 1).setCell (p:=⟨ob,j * 4,none⟩) (by exact hob) _)
     have ajz:Hid (Cells rJ ob ps.length (pl2 f i j rk) v):=hid (by rw [e18]; exact (ZI.out.stays (below_drewN (Below.refl _ _) 1)).score j hjn _)
     have ac0:Hid (fF bb rJ [pb,ob] ps.length v (fun i=>(f i).bZ)):=hid (by rw [e18]; exact (ajv.out.stays (below_drewN (Below.refl _ _) 1)).set ob (j * 4) (by simp) _)
     clear e18 d1
     refine hK.out _ _ ?_
     clear hK K
     refine jC ?_
     clear hHeld qs fs ajt aju ZI ajv ajw afS W2 W3
     obtain ⟨ai,ci,hvi⟩:=aG (ac0.out.own i hin)
     obtain ⟨aj,cj,hvj⟩:=aG (ac0.out.own j hjn)
     try simp only at hvi hvj
     go_upto_region 19 with (fail)
     go_cut [88] from 88 to 109 (fun v88 wx=>∃ (o88 ni nj:Value),o88=v88∧Hid (Cells wx ob ps.length (JC f i j rk) (bT (bT v i ni) j nj))∧Hid (fF bb wx [ob] ps.length (bT (bT v i ni) j nj) (fun z=>(pl5 f i j rk z).bZ))∧Hid (Below bb w2 wx))
     case first =>
      have BP0:Box rJ.drew pb [.int .i64 (i:Int),.int .i64 (j:Int)] 31:=ajx.out.drew
      have CL0:Cells rJ.drew ob ps.length (pl2 f i j rk) v:=ajz.out.stays (below_drewN (Below.refl _ _) 1)
      have RW0:fF bb rJ.drew [pb,ob] ps.length v (fun z=>(f z).bZ):=ac0.out.stays (below_drewN (Below.refl _ _) 1)
      have LB0:Below bb w2 rJ.drew:=below_drewN ajy.out 1
      have BK:=hid hvi
      have EF:=hid hvj
      have q1:=CL0.c1 i hin
      have q2:=CL0.c1 j hjn
      rw [hvi] at q1
      rw [hvj] at q2
      obtain ⟨i0,hi,hz0,hz1,hz2⟩:=info_parts info3
      have HI:=hid hi
      have HZ0:=hid hz0
      have HZ1:=hid hz1
      have HZ2:=hid hz2
      have qq:=And.intro (BP0.cell 0 rfl) (And.intro (BP0.cell 1 rfl) (And.intro q1 q2))
      have BL0:bb≤rJ.drew.heap.size:=by have:=LB0.size; omega
      clear hi hz0 hz1 hz2 q1 q2 ajx ajz ac0 ajy hvi hvj
      refine wp_region_noPanic ?_
      refine bI (S:=(fun w'=>w'.cell? ⟨pb,0,none⟩=some (.int .i64 (i:Int))∧w'.cell? ⟨pb,1,none⟩=some (.int .i64 (j:Int))∧w'.cell? ⟨ob,i * 4+1,none⟩=some (.slice ai (f i).bZ.length ci)∧w'.cell? ⟨ob,j * 4+1,none⟩=some (.slice aj (f j).bZ.length cj))) (L:=[20,23]) (by kernel_rfl) qq (fun hHeld=>?_)
      refine aC 0 ?_
      refine aC 1 ?_
      refine aC 2 ?_
      refine aC 6 ?_
      refine aC 10 ?_
      refine aC 14 ?_
      refine aC 3 ?_
      refine dV 7 ?_
      refine aC 11 ?_
      refine dV 15 ?_
      refine aC 4 ?_
      refine aC 12 ?_
      refine dV 5 ?_
      refine dV 13 ?_
      refine Tv (rs:=[8,16]) ?_
      refine (aU.cons (by first | (simp only [List.getElem?_toArray,List.getElem?_cons_zero,List.getElem?_cons_succ] <;> rfl) | rfl) (fun K hK=>?_) (aU.cons (by first | (simp only [List.getElem?_toArray,List.getElem?_cons_zero,List.getElem?_cons_succ] <;> rfl) | rfl) (fun K hK=>?_) aU.nil))
      ·skip
       go_simp
       refine aQ ?_
       intro y8 e8
       have BP8:Box y8 pb [.int .i64 (i:Int),.int .i64 (j:Int)] 31:=by rw [e8]; exact BP0.alloc _
       have CL8:Cells y8 ob ps.length (pl2 f i j rk) v:=by rw [e8]; exact CL0.stays ((Below.refl _ _).alloc (Nat.le_refl _) _)
       have ZJ:fF bb y8 [rJ.drew.heap.size,pb,ob] ps.length v (fun z=>(f z).bZ):=by rw [e8]; exact RW0.fresh _
       have LB8:Below bb w2 y8:=by rw [e8]; exact LB0.alloc BL0 _
       have N8:Box y8 rJ.drew.heap.size [.int .i64 (j:Int)] 3:=by rw [e8]; exact Box.new rJ.drew _ _
       have BL8:bb≤y8.heap.size:=by have:=LB8.size; omega
       clear e8
       refine hK.out _ _ ⟨BP8.cell 0 rfl,BP8.cell 1 rfl,(by have:=CL8.c1 i hin; rw [BK.out] at this; exact this),(by have:=CL8.c1 j hjn; rw [EF.out] at this; exact this)⟩ (fun hHeld=>?_)
       clear hK K
       refine Tv (rs:=[9,16]) ?_
       refine (aU.cons (by first | (simp only [List.getElem?_toArray,List.getElem?_cons_zero,List.getElem?_cons_succ] <;> rfl) | rfl) (fun K hK=>?_) (aU.cons (by first | (simp only [List.getElem?_toArray,List.getElem?_cons_zero,List.getElem?_cons_succ] <;> rfl) | rfl) (fun K hK=>?_) aU.nil))
       ·skip
        rw [if_pos (by rfl)]
        have ZK:y8.ownsRow bb 3 1 (.slice ai (f i).bZ.length ci) (f i).bZ.length (ints (f i).bZ):=ZJ.at i hin BK.out rfl
        refine wp_append_lies _ _ _ 22 rfl bb 3 i0 (.int .i64 0) 1 8 Tryz.underlying22 HI.out HZ0.out HZ1.out HZ2.out rfl (by decide) (.slice ai (f i).bZ.length ci) (f i).bZ.length (ints (f i).bZ) rfl ZK ⟨rJ.drew.heap.size,0,none⟩ 1 1 [.int .i64 (j:Int)] rfl rfl (uU N8) gQ (by decide) (by unfold maxLen; omega) (by omega) BL8 y8.heap.size rfl ?_
        intro g9 c9 y9 QO JE hq9 hl9
        have ZL:=BP8.grown JE (ZJ.ne i hin BK.out (by simp))
        have ZM:=CL8.kept JE (ZJ.ne i hin BK.out (by simp))
        have ZN:fF bb y9 [rJ.drew.heap.size,pb,ob] ps.length (bT v i (.slice (some ⟨g9,0,none⟩) ((f i).bZ.length+1) c9)) (bT (fun z=>(f z).bZ) i ((f i).bZ++[(j:Int)])):=ZJ.Vs i hin BK.out rfl QO JE hq9
        have J6:=Below.grown LB8 JE BL8 (fun q hq=>(ZK.lt q hq).1)
        have BL9:bb≤y9.heap.size:=by have:=J6.size; omega
        clear QO JE hq9 hl9 ZK
        refine hK.out _ _ ⟨ZL.cell 0 rfl,ZL.cell 1 rfl,(by have:=ZM.c1 i hin; rw [BK.out] at this; exact this),(by have:=ZM.c1 j hjn; rw [EF.out] at this; exact this)⟩ (fun hHeld=>?_)
        clear hK K
        refine fH 16 fun K hK=>?_
        go_simp
        refine aQ ?_
        intro vM e16
        have EG:Box vM pb [.int .i64 (i:Int),.int .i64 (j:Int)] 31:=by rw [e16]; exact ZL.alloc _
        have EH:Cells vM ob ps.length (pl2 f i j rk) v:=by rw [e16]; exact ZM.stays ((Below.refl _ _).alloc (Nat.le_refl _) _)
        have BL:fF bb vM [y9.heap.size,rJ.drew.heap.size,pb,ob] ps.length (bT v i (.slice (some ⟨g9,0,none⟩) ((f i).bZ.length+1) c9)) (bT (fun z=>(f z).bZ) i ((f i).bZ++[(j:Int)])):=by rw [e16]; exact ZN.fresh _
        have NH:Below bb w2 vM:=by rw [e16]; exact J6.alloc BL9 _
        have N16:Box vM y9.heap.size [.int .i64 (i:Int)] 3:=by rw [e16]; exact Box.new y9 _ _
        have QS:bb≤vM.heap.size:=by have:=NH.size; omega
        clear e16
        refine hK.out _ _ ⟨EG.cell 0 rfl,EG.cell 1 rfl,(by have:=EH.c1 i hin; rw [BK.out] at this; exact this),(by have:=EH.c1 j hjn; rw [EF.out] at this; exact this)⟩ (fun hHeld=>?_)
        clear hK K
        refine fH 17 fun K hK=>?_
        rw [if_pos (by rfl)]
        have EI:vM.ownsRow bb 3 1 (.slice aj (f j).bZ.length cj) (f j).bZ.length (ints (f j).bZ):=BL.at j hjn ((aW _ _ hji).trans EF.out) (aW _ _ hji)
        refine wp_append_lies _ _ _ 22 rfl bb 3 i0 (.int .i64 0) 1 8 Tryz.underlying22 HI.out HZ0.out HZ1.out HZ2.out rfl (by decide) (.slice aj (f j).bZ.length cj) (f j).bZ.length (ints (f j).bZ) rfl EI ⟨y9.heap.size,0,none⟩ 1 1 [.int .i64 (i:Int)] rfl rfl (uU N16) gQ (by decide) (by unfold maxLen; omega) (by omega) QS vM.heap.size rfl ?_
        intro g17 c17 y17 NI uw NJ ZO
        have NK:=EG.grown uw (BL.ne j hjn ((aW _ _ hji).trans EF.out) (by simp))
        have uy:=EH.kept uw (BL.ne j hjn ((aW _ _ hji).trans EF.out) (by simp))
        have ZP:fF bb y17 [y9.heap.size,rJ.drew.heap.size,pb,ob] ps.length (bT (bT v i (.slice (some ⟨g9,0,none⟩) ((f i).bZ.length+1) c9)) j (.slice (some ⟨g17,0,none⟩) ((f j).bZ.length+1) c17)) (bT (bT (fun z=>(f z).bZ) i ((f i).bZ++[(j:Int)])) j ((f j).bZ++[(i:Int)])):=BL.Vs j hjn ((aW _ _ hji).trans EF.out) (aW _ _ hji) NI uw NJ
        have yG:=Below.grown NH uw QS (fun q hq=>(EI.lt q hq).1)
        have ajC:bb≤y17.heap.size:=by have:=yG.size; omega
        clear NI uw NJ ZO EI
        refine hK.out _ _ ⟨NK.cell 0 rfl,NK.cell 1 rfl,(by have:=uy.c1 i hin; rw [BK.out] at this; exact this),(by have:=uy.c1 j hjn; rw [EF.out] at this; exact this)⟩ (fun hHeld=>?_)
        clear hK K
        refine aC 18 ?_
        refine aC 19 ?_
        refine rP 20 fun K hK=>?_
        have d1:=uy.c1 i hin
        have BA:=uy.fr (i * 4+1)
        go_simp
        refine aQ ?_
        intro y20 e20
        have EJ:Cells y20 ob ps.length (pl3 f i j rk) (bT v i (.slice (some ⟨g9,0,none⟩) ((f i).bZ.length+1) c9)):=by rw [e20]; exact uy.bZ i hin _ _
        have ZQ:fF bb y20 [y9.heap.size,rJ.drew.heap.size,pb,ob] ps.length (bT (bT v i (.slice (some ⟨g9,0,none⟩) ((f i).bZ.length+1) c9)) j (.slice (some ⟨g17,0,none⟩) ((f j).bZ.length+1) c17)) (bT (bT (fun z=>(f z).bZ) i ((f i).bZ++[(j:Int)])) j ((f j).bZ++[(i:Int)])):=by rw [e20]; exact ZP.set ob (i * 4+1) (by simp) _
        have ZR:Below bb w2 y20:=by rw [e20]; exact yG.setCell (p:=⟨ob,i * 4+1,none⟩) (by exact hob) _
        clear e20 d1 BA
        refine hK.out _ _ ?_
        clear hK K
        refine aC 21 ?_
        refine aC 22 ?_
        refine rP 23 fun K hK=>?_
        have d1:=EJ.c1 j hjn
        have BA:=EJ.fr (j * 4+1)
        go_simp
        refine aQ ?_
        intro y23 e23
        have NM:Cells y23 ob ps.length (JC f i j rk) (bT (bT v i (.slice (some ⟨g9,0,none⟩) ((f i).bZ.length+1) c9)) j (.slice (some ⟨g17,0,none⟩) ((f j).bZ.length+1) c17)):=by rw [e23]; exact EJ.bZ j hjn _ _
        have NP:fF bb y23 [y9.heap.size,rJ.drew.heap.size,pb,ob] ps.length (bT (bT v i (.slice (some ⟨g9,0,none⟩) ((f i).bZ.length+1) c9)) j (.slice (some ⟨g17,0,none⟩) ((f j).bZ.length+1) c17)) (bT (bT (fun z=>(f z).bZ) i ((f i).bZ++[(j:Int)])) j ((f j).bZ++[(i:Int)])):=by rw [e23]; exact ZQ.set ob (j * 4+1) (by simp) _
        have NQ:Below bb w2 y23:=by rw [e23]; exact ZR.setCell (p:=⟨ob,j * 4+1,none⟩) (by exact hob) _
        clear e23 d1 BA
        refine hK.out _ _ ?_
        clear hK K
        refine jC ?_
        have Rw:=hid ((NP.less (bs':=[ob]) (by simp)).to rfl (JD f i j rk hne))
        have HF2:=hid NM
        have HF3:=hid NQ
        clear NP NM NQ hHeld
        go_wp2_with fail
        go_meet
        exact ⟨_,_,_,rfl,HF2,Rw,HF3⟩
       ·skip
        go_simp
        refine aQ ?_
        intro vM e16
        have EG:Box vM pb [.int .i64 (i:Int),.int .i64 (j:Int)] 31:=by rw [e16]; exact BP8.alloc _
        have EH:Cells vM ob ps.length (pl2 f i j rk) v:=by rw [e16]; exact CL8.stays ((Below.refl _ _).alloc (Nat.le_refl _) _)
        have BL:fF bb vM [y8.heap.size,rJ.drew.heap.size,pb,ob] ps.length v (fun z=>(f z).bZ):=by rw [e16]; exact ZJ.fresh _
        have NH:Below bb w2 vM:=by rw [e16]; exact LB8.alloc BL8 _
        have N16:Box vM y8.heap.size [.int .i64 (i:Int)] 3:=by rw [e16]; exact Box.new y8 _ _
        have ajD:Box vM rJ.drew.heap.size [.int .i64 (j:Int)] 3:=by rw [e16]; exact N8.alloc _
        have QS:bb≤vM.heap.size:=by have:=NH.size; omega
        clear e16
        refine hK.out _ _ ⟨EG.cell 0 rfl,EG.cell 1 rfl,(by have:=EH.c1 i hin; rw [BK.out] at this; exact this),(by have:=EH.c1 j hjn; rw [EF.out] at this; exact this)⟩ (fun hHeld=>?_)
        clear hK K
        refine fH 9 fun K hK=>?_
        rw [if_pos (by rfl)]
        have ZK:vM.ownsRow bb 3 1 (.slice ai (f i).bZ.length ci) (f i).bZ.length (ints (f i).bZ):=BL.at i hin BK.out rfl
        refine wp_append_lies _ _ _ 22 rfl bb 3 i0 (.int .i64 0) 1 8 Tryz.underlying22 HI.out HZ0.out HZ1.out HZ2.out rfl (by decide) (.slice ai (f i).bZ.length ci) (f i).bZ.length (ints (f i).bZ) rfl ZK ⟨rJ.drew.heap.size,0,none⟩ 1 1 [.int .i64 (j:Int)] rfl rfl (uU ajD) gQ (by decide) (by unfold maxLen; omega) (by omega) QS vM.heap.size rfl ?_
        intro g9 c9 y9 QO JE hq9 hl9
        have ZL:=EG.grown JE (BL.ne i hin BK.out (by simp))
        have ZM:=EH.kept JE (BL.ne i hin BK.out (by simp))
        have ZN:fF bb y9 [y8.heap.size,rJ.drew.heap.size,pb,ob] ps.length (bT v i (.slice (some ⟨g9,0,none⟩) ((f i).bZ.length+1) c9)) (bT (fun z=>(f z).bZ) i ((f i).bZ++[(j:Int)])):=BL.Vs i hin BK.out rfl QO JE hq9
        have J6:=Below.grown NH JE QS (fun q hq=>(ZK.lt q hq).1)
        have ZT:=N16.grown JE (BL.ne i hin BK.out (by simp))
        have BL9:bb≤y9.heap.size:=by have:=J6.size; omega
        clear QO JE hq9 hl9 ZK
        refine hK.out _ _ ⟨ZL.cell 0 rfl,ZL.cell 1 rfl,(by have:=ZM.c1 i hin; rw [BK.out] at this; exact this),(by have:=ZM.c1 j hjn; rw [EF.out] at this; exact this)⟩ (fun hHeld=>?_)
        clear hK K
        refine fH 17 fun K hK=>?_
        rw [if_pos (by rfl)]
        have EI:y9.ownsRow bb 3 1 (.slice aj (f j).bZ.length cj) (f j).bZ.length (ints (f j).bZ):=ZN.at j hjn ((aW _ _ hji).trans EF.out) (aW _ _ hji)
        refine wp_append_lies _ _ _ 22 rfl bb 3 i0 (.int .i64 0) 1 8 Tryz.underlying22 HI.out HZ0.out HZ1.out HZ2.out rfl (by decide) (.slice aj (f j).bZ.length cj) (f j).bZ.length (ints (f j).bZ) rfl EI ⟨y8.heap.size,0,none⟩ 1 1 [.int .i64 (i:Int)] rfl rfl (uU ZT) gQ (by decide) (by unfold maxLen; omega) (by omega) BL9 y9.heap.size rfl ?_
        intro g17 c17 y17 NI uw NJ ZO
        have NK:=ZL.grown uw (ZN.ne j hjn ((aW _ _ hji).trans EF.out) (by simp))
        have uy:=ZM.kept uw (ZN.ne j hjn ((aW _ _ hji).trans EF.out) (by simp))
        have ZP:fF bb y17 [y8.heap.size,rJ.drew.heap.size,pb,ob] ps.length (bT (bT v i (.slice (some ⟨g9,0,none⟩) ((f i).bZ.length+1) c9)) j (.slice (some ⟨g17,0,none⟩) ((f j).bZ.length+1) c17)) (bT (bT (fun z=>(f z).bZ) i ((f i).bZ++[(j:Int)])) j ((f j).bZ++[(i:Int)])):=ZN.Vs j hjn ((aW _ _ hji).trans EF.out) (aW _ _ hji) NI uw NJ
        have yG:=Below.grown J6 uw BL9 (fun q hq=>(EI.lt q hq).1)
        have ajC:bb≤y17.heap.size:=by have:=yG.size; omega
        clear NI uw NJ ZO EI
        refine hK.out _ _ ⟨NK.cell 0 rfl,NK.cell 1 rfl,(by have:=uy.c1 i hin; rw [BK.out] at this; exact this),(by have:=uy.c1 j hjn; rw [EF.out] at this; exact this)⟩ (fun hHeld=>?_)
        clear hK K
        refine aC 18 ?_
        refine aC 19 ?_
        refine rP 20 fun K hK=>?_
        have d1:=uy.c1 i hin
        have BA:=uy.fr (i * 4+1)
        go_simp
        refine aQ ?_
        intro y20 e20
        have EJ:Cells y20 ob ps.length (pl3 f i j rk) (bT v i (.slice (some ⟨g9,0,none⟩) ((f i).bZ.length+1) c9)):=by rw [e20]; exact uy.bZ i hin _ _
        have ZQ:fF bb y20 [y8.heap.size,rJ.drew.heap.size,pb,ob] ps.length (bT (bT v i (.slice (some ⟨g9,0,none⟩) ((f i).bZ.length+1) c9)) j (.slice (some ⟨g17,0,none⟩) ((f j).bZ.length+1) c17)) (bT (bT (fun z=>(f z).bZ) i ((f i).bZ++[(j:Int)])) j ((f j).bZ++[(i:Int)])):=by rw [e20]; exact ZP.set ob (i * 4+1) (by simp) _
        have ZR:Below bb w2 y20:=by rw [e20]; exact yG.setCell (p:=⟨ob,i * 4+1,none⟩) (by exact hob) _
        clear e20 d1 BA
        refine hK.out _ _ ?_
        clear hK K
        refine aC 21 ?_
        refine aC 22 ?_
        refine rP 23 fun K hK=>?_
        have d1:=EJ.c1 j hjn
        have BA:=EJ.fr (j * 4+1)
        go_simp
        refine aQ ?_
        intro y23 e23
        have NM:Cells y23 ob ps.length (JC f i j rk) (bT (bT v i (.slice (some ⟨g9,0,none⟩) ((f i).bZ.length+1) c9)) j (.slice (some ⟨g17,0,none⟩) ((f j).bZ.length+1) c17)):=by rw [e23]; exact EJ.bZ j hjn _ _
        have NP:fF bb y23 [y8.heap.size,rJ.drew.heap.size,pb,ob] ps.length (bT (bT v i (.slice (some ⟨g9,0,none⟩) ((f i).bZ.length+1) c9)) j (.slice (some ⟨g17,0,none⟩) ((f j).bZ.length+1) c17)) (bT (bT (fun z=>(f z).bZ) i ((f i).bZ++[(j:Int)])) j ((f j).bZ++[(i:Int)])):=by rw [e23]; exact ZQ.set ob (j * 4+1) (by simp) _
        have NQ:Below bb w2 y23:=by rw [e23]; exact ZR.setCell (p:=⟨ob,j * 4+1,none⟩) (by exact hob) _
        clear e23 d1 BA
        refine hK.out _ _ ?_
        clear hK K
        refine jC ?_
        have Rw:=hid ((NP.less (bs':=[ob]) (by simp)).to rfl (JD f i j rk hne))
        have HF2:=hid NM
        have HF3:=hid NQ
        clear NP NM NQ hHeld
        go_wp2_with fail
        go_meet
        exact ⟨_,_,_,rfl,HF2,Rw,HF3⟩
      ·skip
       go_simp
       refine aQ ?_
       intro vM e16
       have EG:Box vM pb [.int .i64 (i:Int),.int .i64 (j:Int)] 31:=by rw [e16]; exact BP0.alloc _
       have EH:Cells vM ob ps.length (pl2 f i j rk) v:=by rw [e16]; exact CL0.stays ((Below.refl _ _).alloc (Nat.le_refl _) _)
       have BL:fF bb vM [rJ.drew.heap.size,pb,ob] ps.length v (fun z=>(f z).bZ):=by rw [e16]; exact RW0.fresh _
       have NH:Below bb w2 vM:=by rw [e16]; exact LB0.alloc BL0 _
       have N16:Box vM rJ.drew.heap.size [.int .i64 (i:Int)] 3:=by rw [e16]; exact Box.new rJ.drew _ _
       have QS:bb≤vM.heap.size:=by have:=NH.size; omega
       clear e16
       refine hK.out _ _ ⟨EG.cell 0 rfl,EG.cell 1 rfl,(by have:=EH.c1 i hin; rw [BK.out] at this; exact this),(by have:=EH.c1 j hjn; rw [EF.out] at this; exact this)⟩ (fun hHeld=>?_)
       clear hK K
       refine fH 8 fun K hK=>?_
       go_simp
       refine aQ ?_
       intro y8 e8
       have BP8:Box y8 pb [.int .i64 (i:Int),.int .i64 (j:Int)] 31:=by rw [e8]; exact EG.alloc _
       have CL8:Cells y8 ob ps.length (pl2 f i j rk) v:=by rw [e8]; exact EH.stays ((Below.refl _ _).alloc (Nat.le_refl _) _)
       have ZJ:fF bb y8 [vM.heap.size,rJ.drew.heap.size,pb,ob] ps.length v (fun z=>(f z).bZ):=by rw [e8]; exact BL.fresh _
       have LB8:Below bb w2 y8:=by rw [e8]; exact NH.alloc QS _
       have N8:Box y8 vM.heap.size [.int .i64 (j:Int)] 3:=by rw [e8]; exact Box.new vM _ _
       have ajE:Box y8 rJ.drew.heap.size [.int .i64 (i:Int)] 3:=by rw [e8]; exact N16.alloc _
       have BL8:bb≤y8.heap.size:=by have:=LB8.size; omega
       clear e8
       refine hK.out _ _ ⟨BP8.cell 0 rfl,BP8.cell 1 rfl,(by have:=CL8.c1 i hin; rw [BK.out] at this; exact this),(by have:=CL8.c1 j hjn; rw [EF.out] at this; exact this)⟩ (fun hHeld=>?_)
       clear hK K
       refine fH 9 fun K hK=>?_
       rw [if_pos (by rfl)]
       have ZK:y8.ownsRow bb 3 1 (.slice ai (f i).bZ.length ci) (f i).bZ.length (ints (f i).bZ):=ZJ.at i hin BK.out rfl
       refine wp_append_lies _ _ _ 22 rfl bb 3 i0 (.int .i64 0) 1 8 Tryz.underlying22 HI.out HZ0.out HZ1.out HZ2.out rfl (by decide) (.slice ai (f i).bZ.length ci) (f i).bZ.length (ints (f i).bZ) rfl ZK ⟨vM.heap.size,0,none⟩ 1 1 [.int .i64 (j:Int)] rfl rfl (uU N8) gQ (by decide) (by unfold maxLen; omega) (by omega) BL8 y8.heap.size rfl ?_
       intro g9 c9 y9 QO JE hq9 hl9
       have ZL:=BP8.grown JE (ZJ.ne i hin BK.out (by simp))
       have ZM:=CL8.kept JE (ZJ.ne i hin BK.out (by simp))
       have ZN:fF bb y9 [vM.heap.size,rJ.drew.heap.size,pb,ob] ps.length (bT v i (.slice (some ⟨g9,0,none⟩) ((f i).bZ.length+1) c9)) (bT (fun z=>(f z).bZ) i ((f i).bZ++[(j:Int)])):=ZJ.Vs i hin BK.out rfl QO JE hq9
       have J6:=Below.grown LB8 JE BL8 (fun q hq=>(ZK.lt q hq).1)
       have ZT:=ajE.grown JE (ZJ.ne i hin BK.out (by simp))
       have BL9:bb≤y9.heap.size:=by have:=J6.size; omega
       clear QO JE hq9 hl9 ZK
       refine hK.out _ _ ⟨ZL.cell 0 rfl,ZL.cell 1 rfl,(by have:=ZM.c1 i hin; rw [BK.out] at this; exact this),(by have:=ZM.c1 j hjn; rw [EF.out] at this; exact this)⟩ (fun hHeld=>?_)
       clear hK K
       refine fH 17 fun K hK=>?_
       rw [if_pos (by rfl)]
       have EI:y9.ownsRow bb 3 1 (.slice aj (f j).bZ.length cj) (f j).bZ.length (ints (f j).bZ):=ZN.at j hjn ((aW _ _ hji).trans EF.out) (aW _ _ hji)
       refine wp_append_lies _ _ _ 22 rfl bb 3 i0 (.int .i64 0) 1 8 Tryz.underlying22 HI.out HZ0.out HZ1.out HZ2.out rfl (by decide) (.slice aj (f j).bZ.length cj) (f j).bZ.length (ints (f j).bZ) rfl EI ⟨rJ.drew.heap.size,0,none⟩ 1 1 [.int .i64 (i:Int)] rfl rfl (uU ZT) gQ (by decide) (by unfold maxLen; omega) (by omega) BL9 y9.heap.size rfl ?_
       intro g17 c17 y17 NI uw NJ ZO
       have NK:=ZL.grown uw (ZN.ne j hjn ((aW _ _ hji).trans EF.out) (by simp))
       have uy:=ZM.kept uw (ZN.ne j hjn ((aW _ _ hji).trans EF.out) (by simp))
       have ZP:fF bb y17 [vM.heap.size,rJ.drew.heap.size,pb,ob] ps.length (bT (bT v i (.slice (some ⟨g9,0,none⟩) ((f i).bZ.length+1) c9)) j (.slice (some ⟨g17,0,none⟩) ((f j).bZ.length+1) c17)) (bT (bT (fun z=>(f z).bZ) i ((f i).bZ++[(j:Int)])) j ((f j).bZ++[(i:Int)])):=ZN.Vs j hjn ((aW _ _ hji).trans EF.out) (aW _ _ hji) NI uw NJ
       have yG:=Below.grown J6 uw BL9 (fun q hq=>(EI.lt q hq).1)
       have ajC:bb≤y17.heap.size:=by have:=yG.size; omega
       clear NI uw NJ ZO EI
       refine hK.out _ _ ⟨NK.cell 0 rfl,NK.cell 1 rfl,(by have:=uy.c1 i hin; rw [BK.out] at this; exact this),(by have:=uy.c1 j hjn; rw [EF.out] at this; exact this)⟩ (fun hHeld=>?_)
       clear hK K
       refine aC 18 ?_
       refine aC 19 ?_
       refine rP 20 fun K hK=>?_
       have d1:=uy.c1 i hin
       have BA:=uy.fr (i * 4+1)
       go_simp
       refine aQ ?_
       intro y20 e20
       have EJ:Cells y20 ob ps.length (pl3 f i j rk) (bT v i (.slice (some ⟨g9,0,none⟩) ((f i).bZ.length+1) c9)):=by rw [e20]; exact uy.bZ i hin _ _
       have ZQ:fF bb y20 [vM.heap.size,rJ.drew.heap.size,pb,ob] ps.length (bT (bT v i (.slice (some ⟨g9,0,none⟩) ((f i).bZ.length+1) c9)) j (.slice (some ⟨g17,0,none⟩) ((f j).bZ.length+1) c17)) (bT (bT (fun z=>(f z).bZ) i ((f i).bZ++[(j:Int)])) j ((f j).bZ++[(i:Int)])):=by rw [e20]; exact ZP.set ob (i * 4+1) (by simp) _
       have ZR:Below bb w2 y20:=by rw [e20]; exact yG.setCell (p:=⟨ob,i * 4+1,none⟩) (by exact hob) _
       clear e20 d1 BA
       refine hK.out _ _ ?_
       clear hK K
       refine aC 21 ?_
       refine aC 22 ?_
       refine rP 23 fun K hK=>?_
       have d1:=EJ.c1 j hjn
       have BA:=EJ.fr (j * 4+1)
       go_simp
       refine aQ ?_
       intro y23 e23
       have NM:Cells y23 ob ps.length (JC f i j rk) (bT (bT v i (.slice (some ⟨g9,0,none⟩) ((f i).bZ.length+1) c9)) j (.slice (some ⟨g17,0,none⟩) ((f j).bZ.length+1) c17)):=by rw [e23]; exact EJ.bZ j hjn _ _
       have NP:fF bb y23 [vM.heap.size,rJ.drew.heap.size,pb,ob] ps.length (bT (bT v i (.slice (some ⟨g9,0,none⟩) ((f i).bZ.length+1) c9)) j (.slice (some ⟨g17,0,none⟩) ((f j).bZ.length+1) c17)) (bT (bT (fun z=>(f z).bZ) i ((f i).bZ++[(j:Int)])) j ((f j).bZ++[(i:Int)])):=by rw [e23]; exact ZQ.set ob (j * 4+1) (by simp) _
       have NQ:Below bb w2 y23:=by rw [e23]; exact ZR.setCell (p:=⟨ob,j * 4+1,none⟩) (by exact hob) _
       clear e23 d1 BA
       refine hK.out _ _ ?_
       clear hK K
       refine jC ?_
       have Rw:=hid ((NP.less (bs':=[ob]) (by simp)).to rfl (JD f i j rk hne))
       have HF2:=hid NM
       have HF3:=hid NQ
       clear NP NM NQ hHeld
       go_wp2_with fail
       go_meet
       exact ⟨_,_,_,rfl,HF2,Rw,HF3⟩
     case rest =>
      obtain ⟨o88,ni,nj,rfl,ZU,ajF,XL⟩:=hcut
      have avE:=ZU.out.lt
      have q2:=ZU.out.c2 i hin
      rw [NG] at q2
      have f2:=ZU.out.fr (i * 4+2)
      have W4:IntKind.i64.wrap ((f i).colour+1)=(f i).colour+1:=IntWalk.i64_in _ (by omega)
      go_upto_region 21 with (fail)
      have ZV:Hid (Cells (wc.setCell ⟨ob,i * 4+2,none⟩ (.int .i64 ((f i).colour+1))) ob ps.length (pl4 f i j rk) (bT (bT v i ni) j nj)):=hid (ZU.out.colour i hin _)
      have ajG:=hid (ajF.out.set ob (i * 4+2) (by simp) (.int .i64 ((f i).colour+1)))
      have ajH:=hid (XL.out.setCell (p:=⟨ob,i * 4+2,none⟩) (by exact hob) (.int .i64 ((f i).colour+1)))
      clear ZU ajF XL q2 f2 W4
      generalize wc.setCell ⟨ob,i * 4+2,none⟩ (.int .i64 ((f i).colour+1))=wd at *
      have avF:=ZV.out.lt
      have q3:=ZV.out.c2 j hjn
      rw [acY f i j rk hne] at q3
      have f3:=ZV.out.fr (j * 4+2)
      have W5:IntKind.i64.wrap ((f j).colour - 1)=(f j).colour - 1:=IntWalk.i64_in _ (by omega)
      go_upto_region 22 with (fail)
      have aoT:Hid (Cells (wd.setCell ⟨ob,j * 4+2,none⟩ (.int .i64 ((f j).colour - 1))) ob ps.length (pl5 f i j rk) (bT (bT v i ni) j nj)):=hid (ZV.out.colour j hjn _)
      have aoU:=hid (ajG.out.set ob (j * 4+2) (by simp) (.int .i64 ((f j).colour - 1)))
      have aoV:=hid (ajH.out.setCell (p:=⟨ob,j * 4+2,none⟩) (by exact hob) (.int .i64 ((f j).colour - 1)))
      clear ZV ajG ajH q3 f3 W5
      generalize wd.setCell ⟨ob,j * 4+2,none⟩ (.int .i64 ((f j).colour - 1))=we at *
      go_wp2_with fail
      go_roundw
      case rel=>exact ⟨k+1,_,_,_,_,_,_,rfl,rfl,rfl,rfl,by omega,by go_num,aoT,aoU,Ib,aoV⟩
      case measure=>simp [intOf]; omega
    ·obtain rfl:k=G.length:=by omega
     rw [List.take_length] at HM
     have afU:=HB2.out.trans (HB.out.mono (show w.heap.size≤bb by omega))
     rcases acX.out with ⟨he,-,-⟩ | ⟨i,hin,he,-,-,-,-⟩
     ·have HFin:=hid (HFe.out f HM.out he)
      have dL:=hid afU
      have HRx:Hid (pU (fun b=>w.heap.size≤b) wr (.slice (some ⟨ob,0,none⟩) ps.length oc) (newL ps.length f)):=hid (HC.out.ad5 HO.out ho1 (by unfold maxLen; exact ho2) (fun b hb=>by show w.heap.size≤b; omega) hob)
      subst he
      clear afU HC HO HM HB
      go_upto_region 26 with (fail)
      go_upto_region 27 with (go_at_call 29; refine (rG _ _ _ HRx.out.sw).mono ?_; rintro e w9 ⟨cc,rfl,vK,hbl⟩; have ZW:=hid vK; have bF:=hid (dL.out.trans (hbl.mono dL.out.size)); have HR9:=hid (HRx.out.below hbl (Nat.le_refl _)); clear vK hbl)
      by_cases hcc:cc=0
      ·subst hcc
       go_wp2_with fail
       refine bodyPost_ret (v:=.tuple #[.slice (some ⟨ob,0,none⟩) ps.length oc,.int .i64 0]) (by simp [results,Tryz.results10,go_sem]) rfl ?_
       exact ⟨bF.out,.inr ⟨_,_,rfl,HR9.out,ZW.out,HFin.out⟩⟩
      ·go_wp2_with fail
       refine bodyPost_ret (v:=.tuple #[.slice none 0 0,.int .i64 cc]) (by simp [results,Tryz.results10,go_sem]) rfl ?_
       exact ⟨bF.out,.inl ⟨cc,_,hcc,ZW.out,HFin.out,rfl⟩⟩
     ·have HFin:=hid (HFo.out f HM.out i hin he)
      subst he
      obtain ⟨aoL,ajr⟩:=HM.out.sc i hin
      have q0:=HC.out.c0 i hin
      have q3:=HC.out.c3 i hin
      have f0:=HC.out.fr (i * 4)
      have f3:=HC.out.fr (i * 4+3)
      have W5:IntKind.i64.wrap ((f i).score+2)=(f i).score+2:=IntWalk.i64_in _ (by omega)
      have t1:(i:Int)<(ps.length:Int):=by omega
      have t3:0≤(i:Int):=by omega
      go_upto_region 26 with (fail)
      have dL:=hid (HB2.out.trans (((HB.out.setCell (p:=⟨ob,i * 4,none⟩) (by exact hob) (.int .i64 ((f i).score+2))).setCell (p:=⟨ob,i * 4+3,none⟩) (by exact hob) (.bool true)).mono (show w.heap.size≤bb by omega)))
      have HCx:=(HC.out.score i hin ((f i).score+2)).dX i hin true
      rw [ZF] at HCx
      have HOx:=(((HO.out.set ob (i * 4) (by simp) (.int .i64 ((f i).score+2))).set ob (i * 4+3) (by simp) (.bool true)).to rfl (Vt f i))
      have HRx:Hid (pU (fun b=>w.heap.size≤b) ((wr.setCell ⟨ob,i * 4,none⟩ (.int .i64 ((f i).score+2))).setCell ⟨ob,i * 4+3,none⟩ (.bool true)) (.slice (some ⟨ob,0,none⟩) ps.length oc) (newL ps.length (rests f i))):=hid (HCx.ad5 HOx ho1 (by unfold maxLen; exact ho2) (fun b hb=>by show w.heap.size≤b; omega) hob)
      clear afU HC HO HM HB HCx HOx q0 q3 f0 f3 W5
      generalize (wr.setCell ⟨ob,i * 4,none⟩ (.int .i64 ((f i).score+2))).setCell ⟨ob,i * 4+3,none⟩ (.bool true)=wr at *
      go_upto_region 27 with (go_at_call 29; refine (rG _ _ _ HRx.out.sw).mono ?_; rintro e w9 ⟨cc,rfl,vK,hbl⟩; have ZW:=hid vK; have bF:=hid (dL.out.trans (hbl.mono dL.out.size)); have HR9:=hid (HRx.out.below hbl (Nat.le_refl _)); clear vK hbl)
      by_cases hcc:cc=0
      ·subst hcc
       go_wp2_with fail
       refine bodyPost_ret (v:=.tuple #[.slice (some ⟨ob,0,none⟩) ps.length oc,.int .i64 0]) (by simp [results,Tryz.results10,go_sem]) rfl ?_
       exact ⟨bF.out,.inr ⟨_,_,rfl,HR9.out,ZW.out,HFin.out⟩⟩
      ·go_wp2_with fail
       refine bodyPost_ret (v:=.tuple #[.slice none 0 0,.int .i64 cc]) (by simp [results,Tryz.results10,go_sem]) rfl ?_
       exact ⟨bF.out,.inl ⟨cc,_,hcc,ZW.out,HFin.out,rfl⟩⟩
theorem Vu (n:Int) (w:World) (h0:2≤n) (h1:n≤32) :
  Calls Tryz.prog 34 #[.int .i64 n] w fun e w'=>e=.returned (.int .i64 0)∧w=w':=by
 go_enter Tryz.func34,Tryz.ntmps34
 go_wp2
 go_ret
 exact ⟨rfl,rfl⟩
def EK (n:Nat):Nat:=if n≤2 then 1 else if n≤4 then 2 else if n≤8 then 3 else if n≤16 then 4 else 5
theorem NS (n:Nat) (w:World) (h0:2≤n) (h1:n≤32) :
  Calls Tryz.prog 78 #[.int .i64 n] w fun e w'=>e=.returned (.int .i64 (EK n))∧w=w':=by
 go_enter Tryz.func78,Tryz.ntmps78
 go_wp2_with fail
 go_loop [3] (fun i=>∃ k:Nat,k≤EK n∧i=.int .i64 k) (fun i=>5 - (intOf i).toNat)
 case atStart=>exact ⟨0,Nat.zero_le _,rfl⟩
 case round =>
  obtain ⟨k,hk,rfl⟩:=hrel
  have hk5:k≤5:=by unfold EK at hk; split at hk <;> (try split at hk) <;> (try split at hk) <;> (try split at hk) <;> omega
  by_cases hlt:k<EK n
  ·have hb:k<5∧2 ^ k<n:=by
    unfold EK at hlt
    have hk4:k=0∨k=1∨k=2∨k=3∨k=4:=by split at hlt <;> (try split at hlt) <;> (try split at hlt) <;> (try split at hlt) <;> omega
    rcases hk4 with rfl | rfl | rfl | rfl | rfl <;> simp <;> (split at hlt <;> (try split at hlt) <;> (try split at hlt) <;> (try split at hlt) <;> omega)
   obtain ⟨hb1,hb2⟩:=hb
   have hk4:k=0∨k=1∨k=2∨k=3∨k=4:=by omega
   rcases hk4 with rfl | rfl | rfl | rfl | rfl
   all_goals
    simp at hb2
    go_wp2_with fail
    go_round
    case rel=>exact ⟨_,hlt,by go_num⟩
    case measure=>simp [intOf]
  ·obtain rfl:k=EK n:=by omega
   have hb:n≤2 ^ EK n:=by unfold EK; split <;> (try split) <;> (try split) <;> (try split) <;> omega
   have hb1:1≤EK n:=by unfold EK; split <;> (try split) <;> (try split) <;> (try split) <;> omega
   generalize hkn:EK n=k at *
   have HKN:=hid hkn
   clear hkn
   have hk4:k=1∨k=2∨k=3∨k=4∨k=5:=by omega
   rcases hk4 with rfl | rfl | rfl | rfl | rfl
   all_goals
    simp at hb
    go_wp2_with fail
    go_ret
    exact ⟨by rw [HKN.out]; rfl,rfl⟩
def Tc (l:List Int) (k:Nat):List Int:=if ((k:Int) % 2 == 1)=true then [2 * (l.length:Int) - 1 - l.getD k 0,l.getD k 0] else [l.getD k 0,2 * (l.length:Int) - 1 - l.getD k 0]
def nJ (l:List Int) (k:Nat):List Int:=(List.range k).flatMap (Tc l)
theorem zl (l:List Int) (k:Nat):nJ l (k+1)=nJ l k++Tc l k:=by
 unfold nJ; rw [List.range_succ,List.flatMap_append]; simp
theorem Bg (l:List Int) (k:Nat):(nJ l k).length=2 * k:=by
 induction k with
 | zero=>rfl
 | succ k ih=>rw [zl,List.length_append,ih]; unfold Tc; split <;> simp <;> omega
def gY:Nat→List Int
 | 0=>[0]
 | k+1=>nJ (gY k) (gY k).length
theorem Bh (k:Nat):(gY k).length=2 ^ k:=by
 induction k with
 | zero=>rfl
 | succ k ih=>rw [gY,Bg,ih,Nat.pow_succ]; omega
def InB (m:Int) (l:List Int):Prop:=∀ i:Nat,0≤l.getD i 0∧l.getD i 0≤m
theorem EL (k:Nat) (hk:k≤5):InB 31 (gY k):=by
 have h:∀ k,k≤5→(gY k).all (fun x=>decide (0≤x) && decide (x≤31))=true:=by
  intro k hk
  have:k=0∨k=1∨k=2∨k=3∨k=4∨k=5:=by omega
  rcases this with rfl | rfl | rfl | rfl | rfl | rfl <;> decide +kernel
 intro i
 by_cases hi:i<(gY k).length
 ·have:=List.all_eq_true.1 (h k hk) _ (List.getElem_mem hi)
  rw [List.getD_eq_getElem?_getD,List.getElem?_eq_getElem hi]
  simpa using this
 ·rw [List.getD_eq_getElem?_getD,List.getElem?_eq_none (by omega)]; simp
def QT (n:Int) (p:Int):Int:=if n≤p then -1 else p
def xC (n:Nat):List Int:=(gY (EK n)).map (QT n)
def wG (n:Int) (l:List Int) (k:Nat):List Int:=(l.take k).map (QT n)++l.drop k
theorem Vw (n:Int) (l:List Int) (k:Nat):(wG n l k).length=l.length:=by
 unfold wG; simp; omega
theorem Ic (n:Int) (l:List Int) (k:Nat) (h:k<l.length):(wG n l k).getD k 0=l.getD k 0:=by
 unfold wG
 rw [List.getD_eq_getElem?_getD,List.getElem?_append_right (by simp; omega)]
 simp [List.getD]
 congr 2
 omega
theorem QU (n:Int) (l:List Int) (k:Nat) (h:k<l.length):wG n l (k+1)=(wG n l k).set k (QT n (l.getD k 0)):=by
 unfold wG
 rw [List.take_succ_eq_append_getElem h,List.map_append,List.set_append_right _ _ (by simp; omega)]
 have e:k - (List.map (QT n) (List.take k l)).length=0:=by simp; omega
 rw [e]
 simp [List.getD,List.getElem?_eq_getElem h]
 rw [List.drop_eq_getElem_cons h]
 rfl
end Go.Proofs.YteablcielclaeaaGreatDoor
