/- TopP, OpenI, TsStE, TsStF, TsStG, TsStH, TsStI. -/
import Derived.Test.YteablcielclaeaaGreatDoorP39
import Derived.ChangeSlices
import Derived.Deep.LoopGhost
namespace Go.Proofs.YteablcielclaeaaGreatDoor
open Go.ChangeShapes Go.WideShapes Go.ChangeAt Go.RowKit
set_option linter.unusedVariables false
open Go.Lib (hid)
structure Fg (B:Nat) (w w':World):Prop where
 size:w.heap.size≤w'.heap.size
 block:∀ b,B≤b→b<w.heap.size→w'.heap[b]?=w.heap[b]?
theorem Fg.refl (B:Nat) (w:World):Fg B w w:=⟨Nat.le_refl _,fun _ _ _=>rfl⟩
theorem Fg.below {B C:Nat} {w w1 w':World} (h:Fg B w w1) (hb:Below C w1 w') (hC:w.heap.size≤C):Fg B w w':=⟨Nat.le_trans h.size hb.size,fun b h1 h2=>(hb.block b (Nat.lt_of_lt_of_le h2 hC)).trans (h.block b h1 h2)⟩
theorem Fg.grown {B:Nat} {w w1 w':World} {row:Option Nat} (h:Fg B w w1) (hg:w1.grownBy w' row) (hr:∀ b,row=some b→b<B∨w.heap.size≤b):Fg B w w':=
 ⟨Nat.le_trans h.size hg.size,fun b h1 h2=>(hg.block b (Nat.lt_of_lt_of_le h2 h.size) (fun e=>by have:=hr b e.symm; omega)).trans (h.block b h1 h2)⟩
theorem Fg.cell {B:Nat} {w w':World} (h:Fg B w w') {p:Addr} {v:Value} (hc:w.cell? p=some v) (hB:B≤p.block):w'.cell? p=some v:=
 (World.cell?_of_block (h.block _ hB (World.block_lt_of_cell? w p hc))).trans hc
theorem aap {B:Nat} {w w':World} {v:Value} {zs:List Int} (h:fQ w v zs) (hk:Fg B w w') (hv:∀ b,v.ownBlock=some b→B≤b):fQ w' v zs:=by
 refine ⟨h.1,?_⟩
 rcases h.2 with h0 | ⟨g,o,c,rfl,h1,h2,hc⟩
 ·exact .inl h0
 ·refine .inr ⟨g,o,c,rfl,h1,h2,fun i hi=>?_⟩
  have hx:=hc i hi
  have hlen:i<(ints zs).length:=by rw [h.1]; exact hi
  rw [List.getElem?_eq_getElem hlen] at hx ⊢
  exact hk.cell hx (hv g rfl)
theorem N9 {α:Type} {el:El α} {B:Nat} {w w':World} {v:Value} {xs:List α} (h:iC el w v xs) (hk:Fg B w w') (hv:∀ b,v.ownBlock=some b→B≤b) (he:∀ x cs,el.E w x cs→el.E w' x cs):iC el w' v xs:=by
 rcases h with h | ⟨g,o,c,rfl,h2,h3,h4,h5⟩
 ·exact .inl h
 ·refine .inr ⟨g,o,c,rfl,h2,h3,Nat.lt_of_lt_of_le h4 hk.size,fun i hi=>?_⟩
  obtain ⟨cs,a,b⟩:=h5 i hi
  exact ⟨cs,he _ _ a,fun j hj=>(World.cell?_of_block (hk.block g (hv g rfl) h4)).trans (b j hj)⟩
theorem VR {B:Nat} {w w':World} {v:Value} {ps:List dH} (h:pU (fun b=>B≤b) w v ps) (hk:Fg B w w'):pU (fun b=>B≤b) w' v ps:=
 ⟨N9 h.1 hk h.2 fun x cs ⟨u,a1,a2,a3⟩=>⟨u,a1,aap a2 hk a3,a3⟩,h.2⟩
theorem Ie (c:List Value) (hc:c.length=4):∀ (n i:Nat),i<n→(((List.replicate n c).flatten.drop (i * 4)).take 4)=c
 | 0,i,h=>by omega
 | n+1,0,_=>by
  rw [List.replicate_succ,List.flatten_cons,Nat.zero_mul,List.drop_zero,← hc,List.take_left]
 | n+1,i+1,h=>by
  rw [List.replicate_succ,List.flatten_cons,show (i+1) * 4=c.length+i * 4 by omega,List.drop_length_add_append]
  exact Ie c hc n i (by omega)
def cell0:List Value:=[.int .i64 0,.slice none 0 0,.int .i64 0,.bool false]
theorem akI:(madeCells (Value.cells (.agg #[.int .i64 0,.slice none 0 0,.int .i64 0,.bool false])) (4 * 4)).toList=(List.replicate 4 cell0).flatten:=by kernel_rfl
theorem akJ:(madeCells (Value.cells (.agg #[.int .i64 0,.slice none 0 0,.int .i64 0,.bool false])) (5 * 4)).toList=(List.replicate 5 cell0).flatten:=by kernel_rfl
theorem akK:(madeCells (Value.cells (.agg #[.int .i64 0,.slice none 0 0,.int .i64 0,.bool false])) (6 * 4)).toList=(List.replicate 6 cell0).flatten:=by kernel_rfl
theorem akL:(madeCells (Value.cells (.agg #[.int .i64 0,.slice none 0 0,.int .i64 0,.bool false])) (7 * 4)).toList=(List.replicate 7 cell0).flatten:=by kernel_rfl
theorem aaq (n:Nat) (h4:4≤n) (h7:n≤7):(madeCells (Value.cells (.agg #[.int .i64 0,.slice none 0 0,.int .i64 0,.bool false])) (n * 4)).toList=(List.replicate n cell0).flatten:=by
 have h:n=4∨n=5∨n=6∨n=7:=by omega
 rcases h with rfl | rfl | rfl | rfl
 ·exact akI
 ·exact akJ
 ·exact akK
 ·exact akL
theorem VT {w:World} {b n:Nat} {v:Value} (h4:4≤n) (h7:n≤7) (h:w.ownsRow b 49 4 v n (madeCells (Value.cells (.agg #[.int .i64 0,.slice none 0 0,.int .i64 0,.bool false])) (n * 4)).toList):pU (fun k=>b≤k) w v (List.replicate n rX):=by
 rw [aaq n h4 h7] at h
 have hl:(List.replicate n rX).length=n:=List.length_replicate
 refine ⟨iC.dB (el:=Zv fun k=>b≤k) (xs:=List.replicate n rX) (by rw [hl]; exact h) (fun i hi=>?_),fun k hk=>(h.lt k hk).1⟩
 rw [hl] at hi
 have e:(List.replicate n rX)[i]'(by rw [hl]; exact hi)=rX:=List.getElem_replicate _
 have e2:=Ie cell0 rfl n i hi
 show (Zv fun k=>b≤k).E w _ (((List.replicate n cell0).flatten.drop (i * 4)).take 4)
 rw [e,e2]
 exact ⟨.slice none 0 0,rfl,Rd.nil _ _,fun k hk=>by cases hk⟩
theorem uV {w:World} {b:Nat} {cs:List Value} {t:TypeId} (h:Box w b cs t):∀ j u,cs[j]?=some u→w.cell? ((⟨b,0,none⟩:Addr).add j)=some u:=by
 intro j u hu
 have e:(⟨b,0,none⟩:Addr).add j=⟨b,j,none⟩:=by unfold Addr.add; split <;> simp_all
 rw [e]
 exact h.cell j hu
theorem Oa {w w':World} {v:Value} {rows:List (List (Int×Int))} {B:Nat} (h:SB w v rows) (hb:Below B w w') (hB:w.heap.size≤B):SB w' v rows:=by
 obtain ⟨vs,h1,h2⟩:=h
 exact ⟨vs,h1.below hb hB,fun j hj=>by obtain ⟨u,hu,hr⟩:=h2 j hj; exact ⟨u,hu,hr.below hb hB⟩⟩
theorem apJ (z:Int):0≤z.tmod 4 % 4∧z.tmod 4 % 4≤3∧-3≤z.tmod 4∧z.tmod 4≤3:=by
 have h : -3≤z.tmod 4∧z.tmod 4≤3:=by
  by_cases hz:0≤z
  ·rw [Int.tmod_eq_emod_of_nonneg hz]; omega
  ·rw [show z = -(-z) by omega,Int.neg_tmod,Int.tmod_eq_emod_of_nonneg (by omega)]; omega
 omega
theorem adh {w:World} {B:Nat} {ba:Option Addr} {c:Nat} {gs:List eX} (h:w.ownsRow B 33 3 (.slice ba gs.length c) gs.length (iq gs)) (j:Nat) (hj:j<gs.length):∃ g,ba=some ⟨g,0,none⟩∧g<w.heap.size∧w.cell? ⟨g,j * 3,none⟩=some (.int .i64 gs[j].fst)∧w.cell? ⟨g,j * 3+1,none⟩=some (.int .i64 gs[j].snd)∧w.cell? ⟨g,j * 3+2,none⟩=some (.int .i64 gs[j].pts):=by
 obtain ⟨g,c',q⟩:=dY h (by omega)
 simp only [Value.slice.injEq] at q
 obtain ⟨rfl,-,rfl⟩:=q
 obtain ⟨q0,q1,q2⟩:=MZ gs j hj
 have hg:=h.lt g rfl
 exact ⟨g,rfl,hg.2,(h.cellAt (j * 3) (by omega)).trans q0,(h.cellAt (j * 3+1) (by omega)).trans q1,(h.cellAt (j * 3+2) (by omega)).trans q2⟩
set_option maxRecDepth 100000 in
set_option maxHeartbeats 16000000 in
theorem Aq (HH:afr) (Nr:SortRowsSaid) (n0:Int) (vr:Value) (NT:List Int) (w:World) (hr:fQ w vr NT) (ht:Tab w.heap.size w) :
  Calls Tryz.prog 4 #[.int .i64 n0,vr] w fun e w'=>e=.returned (.bool true)∧Below w.heap.size w w':=by
 have WB:=hid HH
 have AO:=hid Nr
 have Fz:=hid ht
 obtain ⟨ra,rc,rfl,r1,r2⟩:=hr.form
 unfold maxLen at r2
 obtain ⟨i0,hi,hz0,hz1,hz2⟩:=info_parts ND
 obtain ⟨m1,m2,m3,m4⟩:=apJ n0
 obtain ⟨N,hN⟩:∃ N:Nat,4+n0.tmod 4 % 4=(N:Int):=⟨(4+n0.tmod 4 % 4).toNat,by omega⟩
 have h4:4≤N:=by omega
 have h7:N≤7:=by omega
 have HZ:=hid hr
 clear HH Nr hr ht
 go_enter Tryz.func4,Tryz.ntmps4
 go_wp2_with fail
 refine (JL WB.out w Fz.out).mono ?_
 rintro e w1 ⟨rfl,hb1⟩
 have HB1:=hid hb1
 clear hb1
 go_upto_region 4 with (fail)
 clear hN m1 m2 m3 m4
 go_wp2_with (at_make; refine wpList_make_full _ rfl _ _ 43 rfl w1.heap.size 49 i0 (.agg #[.int .i64 0,.slice none 0 0,.int .i64 0,.bool false]) 4 Tryz.underlying43 hi hz0 hz1 .i64 .i64 N N N rfl rfl rfl rfl (by rw [hz2]; omega) (by unfold maxLen; omega) (Nat.le_refl _) ?_; intro w2 hown hgrow)
 have akM:=hid (VT h4 h7 hown)
 have HB2:=hid (HB1.out.trans ((Below.grown (Below.refl _ w1) hgrow (Nat.le_refl _) (fun q hq=>by cases hq)).mono HB1.out.size))
 have HS2:=hid hgrow.size
 clear hown hgrow hi hz0 hz1 hz2
 have ab3:Hid (w2.ownsRow w2.heap.size 33 3 (.slice none 0 0) 0 (iq [])):=hid (World.ownsRow_nil _ _ _ _)
 go_wp2_with fail
 go_loopw [38,5,6,7,8,9,10,11,12,13,14,15,16,18] (fun v38 v5 v6 v7 v8 v9 v10 v11 v12 v13 v14 v15 v16 v18 wr=>∃ (r:Nat) (ps:List dH) (gs:List eX) (B0:Nat) (o6 o7 o8 o9 o10 o11 Wu ZH ZC o15 o16 VD:Value),o6=v6∧o7=v7∧o8=v8∧o9=v9∧o10=v10∧o11=v11∧Wu=v12∧ZH=v13∧ZC=v14∧o15=v15∧o16=v16∧VD=v18∧r≤3∧v38=.int .i64 r∧Hid (JI N r ps gs)∧Hid (pU (fun b=>B0≤b) wr v5 ps)∧Hid (wr.ownsRow w2.heap.size 33 3 v6 gs.length (iq gs))∧Hid (∀ b,v6.ownBlock=some b→b<B0)∧Hid (B0≤wr.heap.size)∧Hid (gs.length≤4 * r)∧Hid (Below w2.heap.size w2 wr)) (fun v38 _ _ _ _ _ _ _ _ _ _ _ _ _ _=>3 - (intOf v38).toNat)
 case atStart=>exact ⟨0,List.replicate N rX,[],w1.heap.size,_,_,_,_,_,_,_,_,_,_,_,_,rfl,rfl,rfl,rfl,rfl,rfl,rfl,rfl,rfl,rfl,rfl,rfl,Nat.zero_le _,rfl,hid (QV N (by omega) (by omega)),akM,ab3,hid (fun b hb=>by cases hb),HS2,hid (Nat.zero_le _),hid (Below.refl _ _)⟩
 clear akM ab3 HS2
 case round =>
  obtain ⟨r,ps,gs,B0,o6,o7,o8,o9,o10,o11,Wu,ZH,ZC,o15,o16,VD,rfl,rfl,rfl,rfl,rfl,rfl,rfl,rfl,rfl,rfl,rfl,rfl,hr,rfl,HP,OC,HG,HGb,HBs,HGl,Rh⟩:=hrel
  by_cases hr3:r<3
  ·have hri:(r:Int)<3:=by omega
   obtain ⟨la,lc,rfl,l1,l2⟩:=(pU.sw OC.out).form
   unfold maxLen at l2
   have HPL:=hid HP.out.len
   go_wp2_with fail
   refine (Zr _ ps wr OC.out.sw).mono ?_
   rintro e w3 ⟨hb3,hcase⟩
   have HW3:=hid (HB2.out.trans ((Rh.out.trans (hb3.mono Rh.out.size)).mono HB2.out.size))
   rcases hcase with ⟨c,hc,hs,-⟩ | ⟨-,hnone,rfl⟩ | ⟨-,W,v,hsome,hwh,hrd,hvb,rfl⟩
   ·exact absurd (SX HP.out.ok hs) hc
   ·by_cases h0:r=0
    ·exfalso
     have:=HP.out.fst h0
     rw [this] at hnone
     exact QX N h4 h7 hnone
    have hr0:(0:Int)<(r:Int):=by omega
    clear hnone hb3
    go_wp2_with fail
    go_ret
    exact ⟨congrArg (fun b=>Ending.returned (.bool b)) (decide_eq_true (by omega)),HW3.out⟩
   ·obtain ⟨ga,gc,rfl,g1,g2⟩:=hrd.form
    unfold maxLen at g2
    have awf:=hid hb3.size
    have akO:Hid (Fg B0 w3 w3):=hid (Fg.refl _ _)
    have apK:=hid (OC.out.below hb3 (Nat.le_refl _))
    have HG3:=hid (aS HG.out hb3)
    have akP:Hid (∀ b,o6.ownBlock=some b→b<B0∨w3.heap.size≤b):=hid (fun b hb=>.inl (HGb.out b hb))
    have akQ:=hid (Rh.out.trans (hb3.mono Rh.out.size))
    have awg:=hid (Nat.le_trans HBs.out hb3.size)
    have HRG:=hid hrd
    have HVb:Hid (∀ b,(Value.slice ga (dW ps W ps.length).length gc).ownBlock=some b→B0≤b):=hid (fun b hb=>Nat.le_trans HBs.out (hvb b hb))
    have HWh:=hid hwh
    have HFr:=hid (fun k hk xs y hy=>QW HP.out hwh k hk xs y hy)
    have HPk:=hid (fun k hk=>ac5 HP.out hwh k hk)
    have HLn:Hid ((dW ps W ps.length).length≤3):=hid (by have hg:=pF hwh; have:=HPL.out; by_cases h0:0≤lH ps.length W ps.length; rw [if_pos h0] at hg; omega; rw [if_neg h0] at hg; omega)
    obtain ⟨G,hG⟩:∃ G,G=dW ps W ps.length:=⟨_,rfl⟩
    obtain ⟨off,hoff⟩:∃ off,off=lH ps.length W ps.length:=⟨_,rfl⟩
    have HGe:=hid hG
    have HOe:=hid hoff
    rw [← hG] at HRG HVb HFr HPk HLn g1 ⊢
    rw [← hoff]
    generalize (Bf ps).2=cost
    have hln:=HLn.out
    clear hG hoff hrd hvb hwh hb3 hsome OC HG HGb HBs Rh g1
    go_wp2_with fail
    go_loopw [58,6,12,13,14,15,16,18] (fun v58 v6 v12 v13 v14 v15 v16 v18 wr=>∃ (j:Nat) (xs:List Int) (ls:List eX) (o6 Wu ZH ZC o15 o16 VD:Value),o6=v6∧Wu=v12∧ZH=v13∧ZC=v14∧o15=v15∧o16=v16∧VD=v18∧j≤G.length∧v58=.int .i64 j∧Hid (xs.length=j)∧Hid (∀ x∈xs,0≤x∧x≤2)∧Hid (ls=gs++jR (G.take j) xs)∧Hid (wr.ownsRow w2.heap.size 33 3 v6 ls.length (iq ls))∧Hid (wr.ownsRow w2.heap.size 3 1 v12 xs.length (ints xs))∧Hid (v12.ownBlock=none∨v12.ownBlock≠v6.ownBlock)∧Hid (∀ b,v6.ownBlock=some b→b<B0∨w3.heap.size≤b)∧Hid (∀ b,v12.ownBlock=some b→w3.heap.size≤b)∧Hid (Fg B0 w3 wr)∧Hid (Below w2.heap.size w2 wr)) (fun v58 _ _ _ _ _ _ _ _=>G.length - (intOf v58).toNat)
    case atStart=>exact ⟨0,[],gs,_,_,_,_,_,_,_,rfl,rfl,rfl,rfl,rfl,rfl,rfl,Nat.zero_le _,rfl,hid rfl,hid (fun x hx=>by cases hx),hid (by rw [List.take_zero]; exact (List.append_nil gs).symm),HG3,hid (World.ownsRow_nil _ _ _ _),hid (.inl rfl),akP,hid (fun b hb=>by cases hb),akO,akQ⟩
    clear HG3 akP akO akQ
    case round =>
     obtain ⟨j,xs,ls,o6,Wu,ZH,ZC,o15,o16,VD,rfl,rfl,rfl,rfl,rfl,rfl,rfl,hj,rfl,HXl,HXs,HLs,HG,HX,HNe,HGb,HXb,HKp,Rh⟩:=hrel
     by_cases hjt:j<G.length
     ·have hji:(j:Int)<(G.length:Int):=by omega
      obtain ⟨gg,go,hga,hgg,hcs⟩:=iC.some HRG.out (by omega)
      subst hga
      obtain ⟨cs,hE,hcell⟩:=hcs j hjt
      simp only [Vo] at hE hcell
      subst hE
      have c0:=hcell 0 (by decide)
      have c1:=hcell 1 (by decide)
      simp only [List.getElem?_cons_zero,List.getElem?_cons_succ,Nat.add_zero] at c0 c1
      have d0:=HKp.out.cell c0 (HVb.out gg rfl)
      have d1:=HKp.out.cell c1 (HVb.out gg rfl)
      obtain ⟨p0,p1,p2,p3,p4⟩:=HPk.out j hjt
      obtain ⟨⟨pa,pb⟩,hpr⟩:∃ x:Int×Int,G[j]=x:=⟨_,rfl⟩
      have HFj:Hid (∀ y∈ls,¬ ((y.fst=pa∧y.snd=pb)∨(y.fst=pb∧y.snd=pa))):=hid (fun y hy=>by have:=HFr.out j hjt xs y (by rw [← HLs.out]; exact hy); rw [hpr] at this; exact this)
      have HTk:Hid (G.take (j+1)=G.take j++[(pa,pb)]):=hid (by rw [List.take_add_one,List.getElem?_eq_getElem hjt,hpr]; rfl)
      have Vb:Hid ((G.take j).length=xs.length):=hid (by rw [List.length_take,HXl.out]; omega)
      have hll:ls.length≤20:=by rw [HLs.out,List.length_append,rM _ _ Vb.out]; have:=HGl.out; have:=Vb.out; have:=HXl.out; omega
      rw [hpr] at d0 d1 p0 p1 p2 p3 p4
      simp only at d0 d1 p0 p1 p2 p3 p4
      have apM:gg<wr.heap.size:=Nat.lt_of_lt_of_le hgg HKp.out.size
      have hbs:w2.heap.size≤wr.heap.size:=Rh.out.size
      clear c0 c1 hcell hcs hpr hgg
      go_upto_region 16 with (fail)
      have HX0:=hid (Box.new wr [.int .i64 pa,.int .i64 pb] 31)
      have QY:Below wr.heap.size wr (wr.alloc (.cells #[.int .i64 pa,.int .i64 pb] 31)):=(Below.refl _ _).alloc (Nat.le_refl _) _
      have Iq:=hid (Rh.out.trans (QY.mono hbs))
      have HGA:=hid (aS HG.out QY)
      have HXA:=hid (aS HX.out QY)
      have HKA:=hid (HKp.out.below QY HKp.out.size)
      have akS:w2.heap.size≤(wr.alloc (.cells #[.int .i64 pa,.int .i64 pb] 31)).heap.size:=Nat.le_trans hbs QY.size
      obtain ⟨xb,hxb⟩:∃ xb,xb=wr.heap.size:=⟨_,rfl⟩
      have HpG:Hid (some xb≠o6.ownBlock):=hid (fun e=>by have:=(HG.out.lt _ e.symm).2; omega)
      have HpX:Hid (some xb≠Wu.ownBlock):=hid (fun e=>by have:=(HX.out.lt _ e.symm).2; omega)
      rw [← hxb] at HX0
      rw [← hxb]
      clear QY
      generalize (wr.alloc (.cells #[.int .i64 pa,.int .i64 pb] 31))=wA at *
      clear hxb hbs HG HX HKp Rh d0 d1 apM
      go_upto_if 70 with (fail)
      obtain ⟨q,hq⟩:∃ q:Nat,4 * (r:Int)+(j:Int)=(q:Int):=⟨4 * r+j,by omega⟩
      rw [hq]
      go_cut [15] from 59 to 124 (fun v15 wx=>∃ x:Int,v15=.int .i64 x∧0≤x∧x≤2∧wA=wx)
      case first =>
       by_cases hk:q<NT.length
       ·have hki:(q:Int)<(NT.length:Int):=by omega
        obtain ⟨zg,zo,zc2,haz,-,-,hzg,hzc⟩:=HZ.out.some (by omega)
        simp only [Value.slice.injEq] at haz
        obtain ⟨rfl,-,rfl⟩:=haz
        have hww:=HB2.out.trans (Iq.out.mono HB2.out.size)
        have cz:=(hww.cell (p:=⟨zg,zo+q,none⟩) hzg).trans (hzc q hk)
        have awh:zg<wA.heap.size:=by have:=hww.size; omega
        clear hzc hww
        generalize NT.getD q 0=z at *
        obtain ⟨q1,q2,q3,q4⟩:=aoq z
        go_wp2_with fail
        go_meet
        exact ⟨_,rfl,by omega,by omega,rfl⟩
       ·have hki:¬ (q:Int)<(NT.length:Int):=by omega
        go_wp2_with fail
        go_meet
        exact ⟨1,rfl,by decide,by decide,rfl⟩
      case rest =>
       obtain ⟨x,rfl,hx0,hx2,rfl⟩:=hcut
       clear hq
       obtain ⟨ba,bc,rfl⟩:=aG HGA.out
       obtain ⟨ea,ec,rfl⟩:=aG HXA.out
       go_wp2_with fail
       go_loopw [80,18] (fun v80 v18 wr=>∃ (q:Nat) (VD:Value),VD=v18∧q≤ls.length∧v80=.int .i64 q∧Hid (Below wA.heap.size wA wr)) (fun v80 _ _=>ls.length - (intOf v80).toNat)
       case atStart=>exact ⟨0,_,rfl,Nat.zero_le _,rfl,hid (Below.refl _ _)⟩
       case round =>
        obtain ⟨q,VD,rfl,hq,rfl,mD⟩:=hrel
        by_cases hqt:q<ls.length
        ·have hqi:(q:Int)<(ls.length:Int):=by omega
         obtain ⟨bg,rfl,hbg,e0,e1,e2⟩:=adh HGA.out q hqt
         have HNo:=hid (HFj.out ls[q] (List.getElem_mem hqt))
         have f0:=(mD.out.cell (p:=⟨bg,q * 3,none⟩) hbg).trans e0
         have f1:=(mD.out.cell (p:=⟨bg,q * 3+1,none⟩) hbg).trans e1
         have f2:=(mD.out.cell (p:=⟨bg,q * 3+2,none⟩) hbg).trans e2
         have apQ:bg<wr.heap.size:=Nat.lt_of_lt_of_le hbg mD.out.size
         clear e0 e1 e2
         generalize ls[q]=y at *
         obtain ⟨ya,yb,yp⟩:=y
         simp only at f0 f1 f2
         have hno:¬ ((ya=pa∧yb=pb)∨(ya=pb∧yb=pa)):=HNo.out
         clear HNo
         go_upto_region 23 with (fail)
         have HY:=hid (Box.new wr [.int .i64 ya,.int .i64 yb,.int .i64 yp] 33)
         have hXw:Box wr xb [.int .i64 pa,.int .i64 pb] 31:=HX0.out.stays mD.out
         have HXw:=hid (hXw.alloc (.cells #[.int .i64 ya,.int .i64 yb,.int .i64 yp] 33))
         have fM:=hid (mD.out.alloc mD.out.size (.cells #[.int .i64 ya,.int .i64 yb,.int .i64 yp] 33))
         obtain ⟨yy,hyy⟩:∃ yy,yy=wr.heap.size:=⟨_,rfl⟩
         rw [← hyy] at HY
         rw [← hyy]
         clear hXw f0 f1 f2 apQ
         generalize (wr.alloc (.cells #[.int .i64 ya,.int .i64 yb,.int .i64 yp] 33))=wB at *
         clear hyy mD
         have y0:=HY.out.cell 0 rfl
         have y1:=HY.out.cell 1 rfl
         have x0:=HXw.out.cell 0 rfl
         have x1:=HXw.out.cell 1 rfl
         have HR:Hid (∃ (q':Nat) (VD:Value),VD=Value.pointer (some ⟨yy,0,none⟩)∧q'≤ls.length∧Value.int .i64 ((q:Int)+1)=.int .i64 q'∧Hid (Below wA.heap.size wA wB)):=hid ⟨q+1,_,rfl,by omega,by go_num,fM⟩
         by_cases k1:ya=pa
         ·subst k1
          have k2:(yb == pb)=false:=by simp only [beq_eq_false_iff_ne,ne_eq]; exact fun e=>hno (.inl ⟨rfl,e⟩)
          have k3:(ya == pb)=false:=by simp only [beq_eq_false_iff_ne,ne_eq]; exact p4
          clear hno p4
          go_wp2_with fail
          go_roundw
          case rel=>exact HR.out
          case measure=>simp [intOf]; omega
         ·have k0:(ya == pa)=false:=by simpa using k1
          by_cases k3:ya=pb
          ·subst k3
           have k2:(yb == pa)=false:=by simp only [beq_eq_false_iff_ne,ne_eq]; exact fun e=>hno (.inr ⟨rfl,e⟩)
           clear hno p4 k1
           go_wp2_with fail
           go_roundw
           case rel=>exact HR.out
           case measure=>simp [intOf]; omega
          ·have k4:(ya == pb)=false:=by simpa using k3
           clear hno p4 k1 k3
           go_wp2_with fail
           go_roundw
           case rel=>exact HR.out
           case measure=>simp [intOf]; omega
        ·obtain rfl:q=ls.length:=by omega
         have hB1:=mD.out
         have BX1:Box wr xb [.int .i64 pa,.int .i64 pb] 31:=HX0.out.stays hB1
         have OP1:=aS HXA.out hB1
         have OG1:=aS HGA.out hB1
         have KP1:=HKA.out.below hB1 HKA.out.size
         have LB1:=Iq.out.trans (hB1.mono akS)
         go_upto_region 26 with (fail)
         generalize wr=wq at *
         have hd:Below wq.heap.size wq wq.drew:=below_drewN (Below.refl _ _) 1
         have BXz:Box wq.drew xb [.int .i64 pa,.int .i64 pb] 31:=BX1
         have OPz:wq.drew.ownsRow w2.heap.size 3 1 (.slice ea xs.length ec) xs.length (ints xs):=aS OP1 hd
         have OGz:wq.drew.ownsRow w2.heap.size 33 3 (.slice ba ls.length bc) ls.length (iq ls):=aS OG1 hd
         have KPz:Fg B0 w3 wq.drew:=KP1.below hd KP1.size
         have VG:Below w2.heap.size w2 wq.drew:=LB1.trans (hd.mono LB1.size)
         have BLz:w2.heap.size≤wq.drew.heap.size:=VG.size
         obtain ⟨iI,hiI,hI0,hI1,hI2⟩:=info_parts info3
         obtain ⟨iG,hiG,hG0,hG1,hG2⟩:=info_parts acM
         have HII:=hid hiI
         have HI0:=hid hI0
         have HI1:=hid hI1
         have HI2:=hid hI2
         have HIG:=hid hiG
         have HG0:=hid hG0
         have V8:=hid hG1
         have HG2:=hid hG2
         have hxl:xs.length≤10:=by have:=HXl.out; omega
         clear hB1 BX1 OP1 OG1 KP1 LB1 hd mD HX0 HXA HGA HKA Iq akS hiI hI0 hI1 hI2 hiG hG0 hG1 hG2 HFj
         refine wp_region_noPanic ?_
         refine bI (S:=(fun w'=>w'.cell? ⟨xb,0,none⟩=some (.int .i64 pa)∧w'.cell? ⟨xb,1,none⟩=some (.int .i64 pb))) (L:=[]) (by kernel_rfl) ⟨BXz.cell 0 rfl,BXz.cell 1 rfl⟩ (fun hHeld=>?_)
         refine aC 0 ?_
         refine aC 1 ?_
         refine aC 4 ?_
         refine aC 5 ?_
         refine aC 7 ?_
         refine aC 9 ?_
         refine dV 6 ?_
         refine dV 8 ?_
         refine aC 10 ?_
         refine Tv (rs:=[2,11]) ?_
         refine (aU.cons (by first | (simp only [List.getElem?_toArray,List.getElem?_cons_zero,List.getElem?_cons_succ] <;> rfl) | rfl) (fun K hK=>?_) (aU.cons (by first | (simp only [List.getElem?_toArray,List.getElem?_cons_zero,List.getElem?_cons_succ] <;> rfl) | rfl) (fun K hK=>?_) aU.nil))
         ·skip
          go_simp
          refine aQ ?_
          intro y2 e2
          have BX2:Box y2 xb [.int .i64 pa,.int .i64 pb] 31:=by rw [e2]; exact BXz.alloc _
          have OP2:y2.ownsRow w2.heap.size 3 1 (.slice ea xs.length ec) xs.length (ints xs):=by rw [e2]; exact OPz.alloc _
          have OG2:y2.ownsRow w2.heap.size 33 3 (.slice ba ls.length bc) ls.length (iq ls):=by rw [e2]; exact OGz.alloc _
          have LB2:Below w2.heap.size w2 y2:=by rw [e2]; exact VG.alloc BLz _
          have KP2:Fg B0 w3 y2:=by rw [e2]; exact KPz.below ((Below.refl _ _).alloc (Nat.le_refl _) _) KPz.size
          have N2:Box y2 wq.drew.heap.size [.int .i64 x] 3:=by rw [e2]; exact Box.new wq.drew _ _
          have BL2:w2.heap.size≤y2.heap.size:=LB2.size
          clear e2
          refine hK.out _ _ ⟨BX2.cell 0 rfl,BX2.cell 1 rfl⟩ (fun hHeld=>?_)
          clear hK K
          refine Tv (rs:=[3,11]) ?_
          refine (aU.cons (by first | (simp only [List.getElem?_toArray,List.getElem?_cons_zero,List.getElem?_cons_succ] <;> rfl) | rfl) (fun K hK=>?_) (aU.cons (by first | (simp only [List.getElem?_toArray,List.getElem?_cons_zero,List.getElem?_cons_succ] <;> rfl) | rfl) (fun K hK=>?_) aU.nil))
          ·skip
           rw [if_pos (by rfl)]
           refine wp_append_lies _ _ _ 22 rfl w2.heap.size 3 iI (.int .i64 0) 1 8 Tryz.underlying22 HII.out HI0.out HI1.out HI2.out rfl (by decide) (.slice ea xs.length ec) xs.length (ints xs) rfl OP2 ⟨wq.drew.heap.size,0,none⟩ 1 1 [.int .i64 x] rfl rfl (uV N2) gQ (by decide) (by unfold maxLen; omega) (by omega) BL2 y2.heap.size rfl ?_
           intro g3 c3 y3 ho3 hg3 hq3 hl3
           have FV:=BX2.grown hg3 HpX.out
           have OG3:=OG2.kept hg3 (uH HNe.out)
           have OP3:=ho3
           have Fe:=Below.grown LB2 hg3 BL2 (fun q hq=>(OP2.lt q hq).1)
           have KP3:=KP2.grown hg3 (fun b hb=>.inr (HXb.out b hb))
           have NE3:=new_ne hq3 HNe.out (fun b hb=>(OG2.lt b hb).2)
           have GW3:w3.heap.size≤g3:=by rcases hq3 with e | e; exact HXb.out _ e; rw [e]; exact KP2.size
           have BL3:w2.heap.size≤y3.heap.size:=Fe.size
           clear ho3 hg3 hq3 hl3
           refine hK.out _ _ ⟨FV.cell 0 rfl,FV.cell 1 rfl⟩ (fun hHeld=>?_)
           clear hK K
           refine fH 11 fun K hK=>?_
           go_simp
           refine aQ ?_
           intro zu e11
           have zx:Box zu xb [.int .i64 pa,.int .i64 pb] 31:=by rw [e11]; exact FV.alloc _
           have FX:zu.ownsRow w2.heap.size 3 1 (.slice (some ⟨g3,0,none⟩) (xs.length+1) c3) (xs.length+1) (ints xs++[.int .i64 x]):=by rw [e11]; exact OP3.alloc _
           have FY:zu.ownsRow w2.heap.size 33 3 (.slice ba ls.length bc) ls.length (iq ls):=by rw [e11]; exact OG3.alloc _
           have ER:Below w2.heap.size w2 zu:=by rw [e11]; exact Fe.alloc BL3 _
           have ES:Fg B0 w3 zu:=by rw [e11]; exact KP3.below ((Below.refl _ _).alloc (Nat.le_refl _) _) KP3.size
           have N11:Box zu y3.heap.size [.int .i64 pa,.int .i64 pb,.int .i64 x] 33:=by rw [e11]; exact Box.new y3 _ _
           have FZ:w2.heap.size≤zu.heap.size:=ER.size
           clear e11
           refine hK.out _ _ ⟨zx.cell 0 rfl,zx.cell 1 rfl⟩ (fun hHeld=>?_)
           clear hK K
           refine fH 12 fun K hK=>?_
           rw [if_pos (by rfl)]
           refine wp_append_lies _ _ _ 28 rfl w2.heap.size 33 iG (.agg #[.int .i64 0,.int .i64 0,.int .i64 0]) 3 24 Tryz.underlying28 HIG.out HG0.out V8.out HG2.out rfl (by decide) (.slice ba ls.length bc) ls.length (iq ls) rfl FY ⟨y3.heap.size,0,none⟩ 1 1 [.int .i64 pa,.int .i64 pb,.int .i64 x] rfl rfl (uV N11) Ju (by decide) (by unfold maxLen; omega) (by omega) FZ zu.heap.size rfl ?_
           intro g12 c12 y12 yE uz hq12 hl12
           have ET:=zx.grown uz HpG.out
           have Ob:=FX.kept uz (.inr NE3)
           have Oc:=yE
           have Oe:=Below.grown ER uz FZ (fun q hq=>(FY.lt q hq).1)
           have Og:=ES.grown uz (fun b hb=>HGb.out b hb)
           have aau:=TF NE3 hq12 ((FX.lt g3 rfl).2)
           have aav:g12<B0∨w3.heap.size≤g12:=by rcases hq12 with e | e; exact HGb.out _ e; rw [e]; exact .inr ES.size
           clear yE uz hq12 hl12
           refine hK.out _ _ ⟨ET.cell 0 rfl,ET.cell 1 rfl⟩ (fun hHeld=>?_)
           clear hK K
           refine aC 13 ?_
           refine aC 14 ?_
           refine jC ?_
           have aaw:Hid (ls++[⟨pa,pb,x⟩]=gs++jR (G.take (j+1)) (xs++[x])):=hid (by rw [HTk.out,pJ _ _ _ _ Vb.out,← List.append_assoc,← HLs.out])
           have aax:Hid (y12.ownsRow w2.heap.size 33 3 (.slice (some ⟨g12,0,none⟩) (ls.length+1) c12) (ls++[(⟨pa,pb,x⟩:eX)]).length (iq (ls++[⟨pa,pb,x⟩]))):=hid (by rw [List.length_append,← xu]; exact Oc)
           have aay:Hid (y12.ownsRow w2.heap.size 3 1 (.slice (some ⟨g3,0,none⟩) (xs.length+1) c3) (xs++[x]).length (ints (xs++[x]))):=hid (by rw [List.length_append,jG]; exact Ob)
           have aaz:Hid ((Value.slice (some ⟨g3,0,none⟩) (xs.length+1) c3).ownBlock=none∨(Value.slice (some ⟨g3,0,none⟩) (xs.length+1) c3).ownBlock≠(Value.slice (some ⟨g12,0,none⟩) (ls.length+1) c12).ownBlock):=hid (.inr (by simp only [Value.ownBlock,ne_eq,Option.some.injEq]; exact aau))
           have aaA:Hid (∀ b,(Value.slice (some ⟨g12,0,none⟩) (ls.length+1) c12).ownBlock=some b→b<B0∨w3.heap.size≤b):=hid (fun b hb=>by simp only [Value.ownBlock,Option.some.injEq] at hb; subst hb; exact aav)
           have aaB:Hid (∀ b,(Value.slice (some ⟨g3,0,none⟩) (xs.length+1) c3).ownBlock=some b→w3.heap.size≤b):=hid (fun b hb=>by simp only [Value.ownBlock,Option.some.injEq] at hb; subst hb; exact GW3)
           have aaC:Hid (∀ z∈xs++[x],0≤z∧z≤2):=hid (fun z hz=>by rcases List.mem_append.1 hz with h | h; exact HXs.out z h; rw [List.mem_singleton.1 h]; exact ⟨hx0,hx2⟩)
           have aaD:Hid ((xs++[x]).length=j+1):=hid (by rw [List.length_append,HXl.out]; rfl)
           have aaE:=hid Og
           have aaF:=hid Oe
           clear hHeld
           clear BXz OPz OGz VG KPz BLz BX2 OP2 OG2 LB2 KP2 BL2 FV OP3 OG3 Fe KP3 BL3 zx FX FY ER ES FZ ET Ob Oc Oe Og
           go_wp2_with fail
           go_roundw
           case rel=>exact ⟨j+1,xs++[x],ls++[⟨pa,pb,x⟩],_,_,_,_,_,_,_,rfl,rfl,rfl,rfl,rfl,rfl,rfl,by omega,by go_num,aaD,aaC,aaw,aax,aay,aaz,aaA,aaB,aaE,aaF⟩
           case measure=>simp [intOf]; omega
          ·skip
           go_simp
           refine aQ ?_
           intro zu e11
           have zx:Box zu xb [.int .i64 pa,.int .i64 pb] 31:=by rw [e11]; exact BX2.alloc _
           have FX:zu.ownsRow w2.heap.size 3 1 (.slice ea xs.length ec) xs.length (ints xs):=by rw [e11]; exact OP2.alloc _
           have FY:zu.ownsRow w2.heap.size 33 3 (.slice ba ls.length bc) ls.length (iq ls):=by rw [e11]; exact OG2.alloc _
           have ER:Below w2.heap.size w2 zu:=by rw [e11]; exact LB2.alloc BL2 _
           have ES:Fg B0 w3 zu:=by rw [e11]; exact KP2.below ((Below.refl _ _).alloc (Nat.le_refl _) _) KP2.size
           have N11:Box zu y2.heap.size [.int .i64 pa,.int .i64 pb,.int .i64 x] 33:=by rw [e11]; exact Box.new y2 _ _
           have akX:Box zu wq.drew.heap.size [.int .i64 x] 3:=by rw [e11]; exact N2.alloc _
           have FZ:w2.heap.size≤zu.heap.size:=ER.size
           clear e11
           refine hK.out _ _ ⟨zx.cell 0 rfl,zx.cell 1 rfl⟩ (fun hHeld=>?_)
           clear hK K
           refine fH 3 fun K hK=>?_
           rw [if_pos (by rfl)]
           refine wp_append_lies _ _ _ 22 rfl w2.heap.size 3 iI (.int .i64 0) 1 8 Tryz.underlying22 HII.out HI0.out HI1.out HI2.out rfl (by decide) (.slice ea xs.length ec) xs.length (ints xs) rfl FX ⟨wq.drew.heap.size,0,none⟩ 1 1 [.int .i64 x] rfl rfl (uV akX) gQ (by decide) (by unfold maxLen; omega) (by omega) FZ zu.heap.size rfl ?_
           intro g3 c3 y3 ho3 hg3 hq3 hl3
           have FV:=zx.grown hg3 HpX.out
           have OG3:=FY.kept hg3 (uH HNe.out)
           have OP3:=ho3
           have Fe:=Below.grown ER hg3 FZ (fun q hq=>(FX.lt q hq).1)
           have KP3:=ES.grown hg3 (fun b hb=>.inr (HXb.out b hb))
           have NE3:=new_ne hq3 HNe.out (fun b hb=>(FY.lt b hb).2)
           have GW3:w3.heap.size≤g3:=by rcases hq3 with e | e; exact HXb.out _ e; rw [e]; exact ES.size
           have aaG:=N11.grown hg3 (fun e=>by have:=(OP2.lt _ e.symm).2; omega)
           have BL3:w2.heap.size≤y3.heap.size:=Fe.size
           clear ho3 hg3 hq3 hl3
           refine hK.out _ _ ⟨FV.cell 0 rfl,FV.cell 1 rfl⟩ (fun hHeld=>?_)
           clear hK K
           refine fH 12 fun K hK=>?_
           rw [if_pos (by rfl)]
           refine wp_append_lies _ _ _ 28 rfl w2.heap.size 33 iG (.agg #[.int .i64 0,.int .i64 0,.int .i64 0]) 3 24 Tryz.underlying28 HIG.out HG0.out V8.out HG2.out rfl (by decide) (.slice ba ls.length bc) ls.length (iq ls) rfl OG3 ⟨y2.heap.size,0,none⟩ 1 1 [.int .i64 pa,.int .i64 pb,.int .i64 x] rfl rfl (uV aaG) Ju (by decide) (by unfold maxLen; omega) (by omega) BL3 y3.heap.size rfl ?_
           intro g12 c12 y12 yE uz hq12 hl12
           have ET:=FV.grown uz HpG.out
           have Ob:=OP3.kept uz (.inr NE3)
           have Oc:=yE
           have Oe:=Below.grown Fe uz BL3 (fun q hq=>(OG3.lt q hq).1)
           have Og:=KP3.grown uz (fun b hb=>HGb.out b hb)
           have aau:=TF NE3 hq12 ((OP3.lt g3 rfl).2)
           have aav:g12<B0∨w3.heap.size≤g12:=by rcases hq12 with e | e; exact HGb.out _ e; rw [e]; exact .inr KP3.size
           clear yE uz hq12 hl12
           refine hK.out _ _ ⟨ET.cell 0 rfl,ET.cell 1 rfl⟩ (fun hHeld=>?_)
           clear hK K
           refine aC 13 ?_
           refine aC 14 ?_
           refine jC ?_
           have aaw:Hid (ls++[⟨pa,pb,x⟩]=gs++jR (G.take (j+1)) (xs++[x])):=hid (by rw [HTk.out,pJ _ _ _ _ Vb.out,← List.append_assoc,← HLs.out])
           have aax:Hid (y12.ownsRow w2.heap.size 33 3 (.slice (some ⟨g12,0,none⟩) (ls.length+1) c12) (ls++[(⟨pa,pb,x⟩:eX)]).length (iq (ls++[⟨pa,pb,x⟩]))):=hid (by rw [List.length_append,← xu]; exact Oc)
           have aay:Hid (y12.ownsRow w2.heap.size 3 1 (.slice (some ⟨g3,0,none⟩) (xs.length+1) c3) (xs++[x]).length (ints (xs++[x]))):=hid (by rw [List.length_append,jG]; exact Ob)
           have aaz:Hid ((Value.slice (some ⟨g3,0,none⟩) (xs.length+1) c3).ownBlock=none∨(Value.slice (some ⟨g3,0,none⟩) (xs.length+1) c3).ownBlock≠(Value.slice (some ⟨g12,0,none⟩) (ls.length+1) c12).ownBlock):=hid (.inr (by simp only [Value.ownBlock,ne_eq,Option.some.injEq]; exact aau))
           have aaA:Hid (∀ b,(Value.slice (some ⟨g12,0,none⟩) (ls.length+1) c12).ownBlock=some b→b<B0∨w3.heap.size≤b):=hid (fun b hb=>by simp only [Value.ownBlock,Option.some.injEq] at hb; subst hb; exact aav)
           have aaB:Hid (∀ b,(Value.slice (some ⟨g3,0,none⟩) (xs.length+1) c3).ownBlock=some b→w3.heap.size≤b):=hid (fun b hb=>by simp only [Value.ownBlock,Option.some.injEq] at hb; subst hb; exact GW3)
           have aaC:Hid (∀ z∈xs++[x],0≤z∧z≤2):=hid (fun z hz=>by rcases List.mem_append.1 hz with h | h; exact HXs.out z h; rw [List.mem_singleton.1 h]; exact ⟨hx0,hx2⟩)
           have aaD:Hid ((xs++[x]).length=j+1):=hid (by rw [List.length_append,HXl.out]; rfl)
           have aaE:=hid Og
           have aaF:=hid Oe
           clear hHeld
           clear BXz OPz OGz VG KPz BLz BX2 OP2 OG2 LB2 KP2 BL2 zx FX FY ER ES FZ FV OP3 OG3 Fe KP3 BL3 ET Ob Oc Oe Og
           go_wp2_with fail
           go_roundw
           case rel=>exact ⟨j+1,xs++[x],ls++[⟨pa,pb,x⟩],_,_,_,_,_,_,_,rfl,rfl,rfl,rfl,rfl,rfl,rfl,by omega,by go_num,aaD,aaC,aaw,aax,aay,aaz,aaA,aaB,aaE,aaF⟩
           case measure=>simp [intOf]; omega
         ·skip
          go_simp
          refine aQ ?_
          intro zu e11
          have zx:Box zu xb [.int .i64 pa,.int .i64 pb] 31:=by rw [e11]; exact BXz.alloc _
          have FX:zu.ownsRow w2.heap.size 3 1 (.slice ea xs.length ec) xs.length (ints xs):=by rw [e11]; exact OPz.alloc _
          have FY:zu.ownsRow w2.heap.size 33 3 (.slice ba ls.length bc) ls.length (iq ls):=by rw [e11]; exact OGz.alloc _
          have ER:Below w2.heap.size w2 zu:=by rw [e11]; exact VG.alloc BLz _
          have ES:Fg B0 w3 zu:=by rw [e11]; exact KPz.below ((Below.refl _ _).alloc (Nat.le_refl _) _) KPz.size
          have N11:Box zu wq.drew.heap.size [.int .i64 pa,.int .i64 pb,.int .i64 x] 33:=by rw [e11]; exact Box.new wq.drew _ _
          have FZ:w2.heap.size≤zu.heap.size:=ER.size
          clear e11
          refine hK.out _ _ ⟨zx.cell 0 rfl,zx.cell 1 rfl⟩ (fun hHeld=>?_)
          clear hK K
          refine fH 2 fun K hK=>?_
          go_simp
          refine aQ ?_
          intro y2 e2
          have BX2:Box y2 xb [.int .i64 pa,.int .i64 pb] 31:=by rw [e2]; exact zx.alloc _
          have OP2:y2.ownsRow w2.heap.size 3 1 (.slice ea xs.length ec) xs.length (ints xs):=by rw [e2]; exact FX.alloc _
          have OG2:y2.ownsRow w2.heap.size 33 3 (.slice ba ls.length bc) ls.length (iq ls):=by rw [e2]; exact FY.alloc _
          have LB2:Below w2.heap.size w2 y2:=by rw [e2]; exact ER.alloc FZ _
          have KP2:Fg B0 w3 y2:=by rw [e2]; exact ES.below ((Below.refl _ _).alloc (Nat.le_refl _) _) ES.size
          have N2:Box y2 zu.heap.size [.int .i64 x] 3:=by rw [e2]; exact Box.new zu _ _
          have akY:Box y2 wq.drew.heap.size [.int .i64 pa,.int .i64 pb,.int .i64 x] 33:=by rw [e2]; exact N11.alloc _
          have BL2:w2.heap.size≤y2.heap.size:=LB2.size
          clear e2
          refine hK.out _ _ ⟨BX2.cell 0 rfl,BX2.cell 1 rfl⟩ (fun hHeld=>?_)
          clear hK K
          refine fH 3 fun K hK=>?_
          rw [if_pos (by rfl)]
          refine wp_append_lies _ _ _ 22 rfl w2.heap.size 3 iI (.int .i64 0) 1 8 Tryz.underlying22 HII.out HI0.out HI1.out HI2.out rfl (by decide) (.slice ea xs.length ec) xs.length (ints xs) rfl OP2 ⟨zu.heap.size,0,none⟩ 1 1 [.int .i64 x] rfl rfl (uV N2) gQ (by decide) (by unfold maxLen; omega) (by omega) BL2 y2.heap.size rfl ?_
          intro g3 c3 y3 ho3 hg3 hq3 hl3
          have FV:=BX2.grown hg3 HpX.out
          have OG3:=OG2.kept hg3 (uH HNe.out)
          have OP3:=ho3
          have Fe:=Below.grown LB2 hg3 BL2 (fun q hq=>(OP2.lt q hq).1)
          have KP3:=KP2.grown hg3 (fun b hb=>.inr (HXb.out b hb))
          have NE3:=new_ne hq3 HNe.out (fun b hb=>(OG2.lt b hb).2)
          have GW3:w3.heap.size≤g3:=by rcases hq3 with e | e; exact HXb.out _ e; rw [e]; exact KP2.size
          have aaG:=akY.grown hg3 (fun e=>by have:=(OPz.lt _ e.symm).2; omega)
          have BL3:w2.heap.size≤y3.heap.size:=Fe.size
          clear ho3 hg3 hq3 hl3
          refine hK.out _ _ ⟨FV.cell 0 rfl,FV.cell 1 rfl⟩ (fun hHeld=>?_)
          clear hK K
          refine fH 12 fun K hK=>?_
          rw [if_pos (by rfl)]
          refine wp_append_lies _ _ _ 28 rfl w2.heap.size 33 iG (.agg #[.int .i64 0,.int .i64 0,.int .i64 0]) 3 24 Tryz.underlying28 HIG.out HG0.out V8.out HG2.out rfl (by decide) (.slice ba ls.length bc) ls.length (iq ls) rfl OG3 ⟨wq.drew.heap.size,0,none⟩ 1 1 [.int .i64 pa,.int .i64 pb,.int .i64 x] rfl rfl (uV aaG) Ju (by decide) (by unfold maxLen; omega) (by omega) BL3 y3.heap.size rfl ?_
          intro g12 c12 y12 yE uz hq12 hl12
          have ET:=FV.grown uz HpG.out
          have Ob:=OP3.kept uz (.inr NE3)
          have Oc:=yE
          have Oe:=Below.grown Fe uz BL3 (fun q hq=>(OG3.lt q hq).1)
          have Og:=KP3.grown uz (fun b hb=>HGb.out b hb)
          have aau:=TF NE3 hq12 ((OP3.lt g3 rfl).2)
          have aav:g12<B0∨w3.heap.size≤g12:=by rcases hq12 with e | e; exact HGb.out _ e; rw [e]; exact .inr KP3.size
          clear yE uz hq12 hl12
          refine hK.out _ _ ⟨ET.cell 0 rfl,ET.cell 1 rfl⟩ (fun hHeld=>?_)
          clear hK K
          refine aC 13 ?_
          refine aC 14 ?_
          refine jC ?_
          have aaw:Hid (ls++[⟨pa,pb,x⟩]=gs++jR (G.take (j+1)) (xs++[x])):=hid (by rw [HTk.out,pJ _ _ _ _ Vb.out,← List.append_assoc,← HLs.out])
          have aax:Hid (y12.ownsRow w2.heap.size 33 3 (.slice (some ⟨g12,0,none⟩) (ls.length+1) c12) (ls++[(⟨pa,pb,x⟩:eX)]).length (iq (ls++[⟨pa,pb,x⟩]))):=hid (by rw [List.length_append,← xu]; exact Oc)
          have aay:Hid (y12.ownsRow w2.heap.size 3 1 (.slice (some ⟨g3,0,none⟩) (xs.length+1) c3) (xs++[x]).length (ints (xs++[x]))):=hid (by rw [List.length_append,jG]; exact Ob)
          have aaz:Hid ((Value.slice (some ⟨g3,0,none⟩) (xs.length+1) c3).ownBlock=none∨(Value.slice (some ⟨g3,0,none⟩) (xs.length+1) c3).ownBlock≠(Value.slice (some ⟨g12,0,none⟩) (ls.length+1) c12).ownBlock):=hid (.inr (by simp only [Value.ownBlock,ne_eq,Option.some.injEq]; exact aau))
          have aaA:Hid (∀ b,(Value.slice (some ⟨g12,0,none⟩) (ls.length+1) c12).ownBlock=some b→b<B0∨w3.heap.size≤b):=hid (fun b hb=>by simp only [Value.ownBlock,Option.some.injEq] at hb; subst hb; exact aav)
          have aaB:Hid (∀ b,(Value.slice (some ⟨g3,0,none⟩) (xs.length+1) c3).ownBlock=some b→w3.heap.size≤b):=hid (fun b hb=>by simp only [Value.ownBlock,Option.some.injEq] at hb; subst hb; exact GW3)
          have aaC:Hid (∀ z∈xs++[x],0≤z∧z≤2):=hid (fun z hz=>by rcases List.mem_append.1 hz with h | h; exact HXs.out z h; rw [List.mem_singleton.1 h]; exact ⟨hx0,hx2⟩)
          have aaD:Hid ((xs++[x]).length=j+1):=hid (by rw [List.length_append,HXl.out]; rfl)
          have aaE:=hid Og
          have aaF:=hid Oe
          clear hHeld
          clear BXz OPz OGz VG KPz BLz zx FX FY ER ES FZ BX2 OP2 OG2 LB2 KP2 BL2 FV OP3 OG3 Fe KP3 BL3 ET Ob Oc Oe Og
          go_wp2_with fail
          go_roundw
          case rel=>exact ⟨j+1,xs++[x],ls++[⟨pa,pb,x⟩],_,_,_,_,_,_,_,rfl,rfl,rfl,rfl,rfl,rfl,rfl,by omega,by go_num,aaD,aaC,aaw,aax,aay,aaz,aaA,aaB,aaE,aaF⟩
          case measure=>simp [intOf]; omega
     ·obtain rfl:j=G.length:=by omega
      obtain ⟨ba,bc,rfl⟩:=aG HG.out
      obtain ⟨ea,ec,rfl⟩:=aG HX.out
      have hRD:=VR apK.out HKp.out
      have hRG:iC Vo wr (.slice ga G.length gc) G:=N9 HRG.out HKp.out HVb.out (fun _ _ h=>h)
      have hRX:fQ wr (.slice ea xs.length ec) xs:=fQ.dB HX.out
      have agq:=ZG (.slice la ps.length lc) (.slice ga G.length gc) (.slice ea xs.length ec) ps W xs wr hRD.sw HP.out.ok HWh.out (by rw [← HGe.out]; exact hRG) hRX (by rw [← HGe.out]; exact HXl.out) (fun k hk=>HXs.out _ (by rw [List.getD_eq_getElem?_getD,List.getElem?_eq_getElem hk]; exact List.getElem_mem hk))
      rw [← HOe.out] at agq
      have ak0:=hid agq
      have HL2:Hid (ls=gs++jR G xs):=hid (by rw [HLs.out,List.take_length])
      have HLl:Hid (ls.length≤4 * (r+1)):=hid (by rw [HL2.out,List.length_append,rM _ _ HXl.out.symm]; have:=HGl.out; omega)
      clear hRD hRG hRX agq HLs HKp HX HNe HXb HGb
      go_wp2_with fail
      refine ak0.out.mono ?_
      rintro e w5 ⟨hb5,⟨c,f,hc,vK,hfin,rfl⟩ | ⟨v,f,rfl,hrk,vK,hfin⟩⟩
      ·exact absurd (aad HP.out hr3 HWh.out hfin vK) hc
      ·rw [HOe.out] at hfin
       have hpi:=VA HP.out hr3 HWh.out hfin vK xs (by rw [← HGe.out]; exact HXl.out.symm) HXs.out
       rw [← HGe.out,← HL2.out] at hpi
       have HP':=hid hpi
       obtain ⟨va,vc,rfl,v1,v2⟩:=hrk.sw.form
       unfold maxLen at v2
       rw [hpi.len] at hrk v1 ⊢
       have HRK:=hid hrk
       have HG':=hid (aS HG.out hb5)
       have apW:Hid (∀ b,(Value.slice ba ls.length bc).ownBlock=some b→b<wr.heap.size):=hid (fun b hb=>(HG.out.lt b hb).2)
       have apX:=hid hb5.size
       have apY:=hid (Rh.out.trans (hb5.mono Rh.out.size))
       clear hrk hpi hb5 hfin vK ak0 HG Rh
       go_wp2_with fail
       go_roundw
       case rel=>exact ⟨r+1,newL ps.length f,ls,wr.heap.size,_,_,_,_,_,_,_,_,_,_,_,_,rfl,rfl,rfl,rfl,rfl,rfl,rfl,rfl,rfl,rfl,rfl,rfl,by omega,by go_num,HP',HRK,HG',apW,apX,HLl,apY⟩
       case measure=>simp [intOf]; omega
  ·obtain rfl:r=3:=by omega
   obtain ⟨la,lc,rfl,l1,l2⟩:=(pU.sw OC.out).form
   unfold maxLen at l2
   obtain ⟨ba,bc,rfl⟩:=aG HG.out
   have hpl:=HP.out.len
   rw [hpl] at OC l1 ⊢
   have hRS:=OC.out.sw
   obtain ⟨pg,po,rfl,hpg,hpc⟩:=kZ.some hRS (by omega)
   have HPC:=hid hpc
   have HSB:=hid (fun k hk=>VB HP.out (Nat.le_refl 3) k hk)
   have HSC:=hid HP.out.sc
   have WI:=hid HP.out.sum
   have WA:Hid (vJ (N:Int) gs=0):=hid (afH (by omega) (by omega) (by have:=HGl.out; omega) HP.out.gok)
   have HPl:=hid hpl
   clear hpc hRS hpl OC HGb HBs
   obtain ⟨wE,rfl⟩:∃ wE:World,wE=wr:=⟨_,rfl⟩
   go_wp2_with fail
   go_loopw [144,19,21] (fun agr v19 v21 wx=>∃ (k:Nat) (o21:Value),o21=v21∧k≤N∧agr=.int .i64 k∧v19=.int .i64 (dh k (fun i=>FQ (aZ ps i)))∧Hid (Below wE.heap.size wE wx)) (fun agr _ _ _=>N - (intOf agr).toNat)
   case atStart=>exact ⟨0,_,rfl,Nat.zero_le _,rfl,rfl,hid (Below.refl _ _)⟩
   case round =>
    obtain ⟨k,o21,rfl,hk,rfl,rfl,Wy⟩:=hrel
    by_cases hkt:k<N
    ·have hki:(k:Int)<(N:Int):=by omega
     obtain ⟨v,q0,q1,q2,q3,hv⟩:=HPC.out k (by rw [HPl.out]; exact hkt)
     obtain ⟨oa,oc,rfl,-,-⟩:=hv.form
     generalize (aZ ps k).bZ.length=on at *
     have z0:=(Wy.out.cell (p:=⟨pg,po+k * 4,none⟩) hpg).trans q0
     have z1:=(Wy.out.cell (p:=⟨pg,po+k * 4+1,none⟩) hpg).trans q1
     have z2:=(Wy.out.cell (p:=⟨pg,po+k * 4+2,none⟩) hpg).trans q2
     have z3:=(Wy.out.cell (p:=⟨pg,po+k * 4+3,none⟩) hpg).trans q3
     have apZ:pg<wr.heap.size:=Nat.lt_of_lt_of_le hpg Wy.out.size
     have s0:=HSC.out k hkt
     obtain ⟨b1,b2⟩:=HSB.out k (by omega)
     have Gi:Hid (dh (k+1) (fun i=>FQ (aZ ps i))=dh k (fun i=>FQ (aZ ps i))+FQ (aZ ps k)):=hid rfl
     have HSd:Hid (FQ (aZ ps k)=if (aZ ps k).dX then (aZ ps k).score - 2 else (aZ ps k).score):=hid rfl
     clear q0 q1 q2 q3 hv
     obtain ⟨⟨sc,op,co,by'⟩,hpk⟩:∃ p:dH,aZ ps k=p:=⟨_,rfl⟩
     obtain ⟨sm,hsm⟩:∃ x:Int,dh k (fun i=>FQ (aZ ps i))=x:=⟨_,rfl⟩
     rw [hpk] at z0 z2 z3 s0 HSd Gi
     rw [hsm] at b1 b2 Gi ⊢
     simp only at z0 z2 z3 s0 HSd
     clear hpk hsm
     go_upto_region 36 with (fail)
     have HX:=hid (Box.new wr [.int .i64 sc,.slice oa on oc,.int .i64 co,.bool by'] 49)
     have fM:=hid (Wy.out.alloc Wy.out.size (.cells #[.int .i64 sc,.slice oa on oc,.int .i64 co,.bool by'] 49))
     obtain ⟨xb,hxb⟩:∃ xb,xb=wr.heap.size:=⟨_,rfl⟩
     rw [← hxb] at HX
     rw [← hxb]
     clear z0 z1 z2 z3 apZ
     generalize (wr.alloc (.cells #[.int .i64 sc,.slice oa on oc,.int .i64 co,.bool by'] 49))=wB at *
     clear hxb Wy
     have x0:=HX.out.cell 0 rfl
     have x3:=HX.out.cell 3 rfl
     have W1:IntKind.i64.wrap (sm+sc)=sm+sc:=by rw [IntKind.wrap_i64]; omega
     have W2:IntKind.i64.wrap (sm+sc - 2)=sm+sc - 2:=by rw [IntKind.wrap_i64]; omega
     cases by'
     ·have HE:Hid (dh (k+1) (fun i=>FQ (aZ ps i))=sm+sc):=hid (by rw [Gi.out,HSd.out]; rfl)
      clear Gi HSd
      go_wp2_with fail
      go_roundw
      case rel=>exact ⟨k+1,_,rfl,by omega,by go_num,by rw [HE.out],fM⟩
      case measure=>simp [intOf]; omega
     ·have HE:Hid (dh (k+1) (fun i=>FQ (aZ ps i))=sm+sc - 2):=hid (by rw [Gi.out,HSd.out]; show sm+(sc - 2)=_; omega)
      clear Gi HSd
      go_wp2_with fail
      go_roundw
      case rel=>exact ⟨k+1,_,rfl,by omega,by go_num,by rw [HE.out],fM⟩
      case measure=>simp [intOf]; omega
    ·obtain rfl:N=k:=by omega
     rw [WI.out]
     have hro:=ac6 N h4 h7
     unfold aae at hro
     simp only [Bool.and_eq_true,decide_eq_true_eq,List.all_eq_true] at hro
     obtain ⟨⟨⟨⟨r1',r2'⟩,r3'⟩,r4'⟩,r5a,r5b,r5c⟩:=hro
     have HR1:=hid r1'
     have HR2:=hid r2'
     have HR3:=hid r3'
     have HR4:=hid r4'
     have HRa:=hid r5a
     have HRb:=hid r5b
     have RD:=hid r5c
     clear r5a r5b r5c
     have hgs:gs.length≤12:=by have:=HGl.out; omega
     have hRG:G9 wr (.slice ba gs.length bc) gs:=Rd.dB (aS HG.out Wy.out)
     have HRG:=hid hRG
     have HWr:=hid (HB2.out.trans ((Rh.out.trans (Wy.out.mono Rh.out.size)).mono HB2.out.size))
     clear hRG r1' r2' r3' r4' HG Wy Rh WI HP HPC HSB HSC HPl
     go_wp2_with fail
     refine (Va AO.out (N:Int) (.slice ba gs.length bc) gs wr HRG.out (by omega)).mono ?_
     rintro e w6 (⟨hc,-⟩ | ⟨-,gt,tc,rs,rfl,hown,hok,hb6⟩)
     ·exact absurd WA.out hc
     have hrl:rs.length=N:=by have:=hok.len; rwa [Int.toNat_natCast] at this
     rw [hrl]
     have Oo:=hid (HWr.out.trans (hb6.mono HWr.out.size))
     clear hown hok hb6 hrl HWr HRG WA
     go_wp2_with fail
     refine (afx N false w6 (by omega) (by omega)).mono ?_
     rintro e w7 ⟨va,vs,rfl,hm,hb7⟩
     have hsd:=hm.sched
     obtain ⟨xa,xc,rfl⟩:=aG hm.1
     have HSd:=hid hsd
     have TN:=hid (Oo.out.trans (hb7.mono Oo.out.size))
     clear hsd hm hb7 Oo
     go_wp2_with fail
     refine (ac3 N (.slice none 0 0) [] w7 (by omega) (by omega) (Rd.nil _ _) rfl).mono ?_
     rintro e w8 ⟨vk,rfl,ak1,hb8⟩
     obtain ⟨ka,kc,rfl⟩:=aG ak1
     rw [HRa.out,HRb.out]
     have HB8:=hid (TN.out.trans (hb8.mono TN.out.size))
     have JQ:=hid (Qz N false (kY N false) (.slice xa (kY N false).length xc) w8 (by omega) (by omega) (Oa HSd.out hb8 (Nat.le_refl _)) HR2.out HR3.out HR4.out)
     rw [HR1.out] at JQ
     have hkl:(0:Int)<((wI N []).1.length:Int):=by have:=RD.out; omega
     clear ak1 hb8 HSd TN HR1 HR2 HR3 HR4 HRa HRb RD
     generalize (wI N []).1.length=kl at *
     generalize kY N false=rows at *
     go_wp2_with fail
     refine JQ.out.mono ?_
     rintro e w9 ⟨rfl,vW⟩
     have bF:=hid (HB8.out.trans (vW.mono HB8.out.size))
     clear vW JQ
     go_wp2_with fail
     go_ret
     exact ⟨rfl,bF.out⟩
end Go.Proofs.YteablcielclaeaaGreatDoor
namespace Go.Proofs.YteablcielclaeaaGreatDoor
open Go.ChangeShapes Go.WideShapes Go.ChangeAt Go.RowKit
set_option linter.unusedVariables false
section
variable {H:Type} {enc:TypeId×Value→H} {P:Program} {W:World} {r:Reach} {base:Nat} {t e:TypeId} {v:Value} {d:DataW H} {p:List MemPlace}
theorem aaH (hu:P.underlying t=some (.slice e)) (he:P.underlying e=some (.int .i64)) (hc:P.cellsOf e=1) (hv:Value.okWide P W r base t v)
  (h:DataW.Trod enc P W 0 (fun _=>true) true t v d p):∃ zs,fQ W v zs∧∀ z∈zs,(Lit.int .i64 z).wf=true:=by
 obtain ⟨fuel,hf⟩:=h
 rcases Md hu hv with ⟨_,rfl,_⟩ | ⟨g,o,len,cap,rfl⟩
 ·exact ⟨[],Rd.nil _ _,by simp⟩
 ·rcases open_ints hu he hc hf with ⟨hcs,_⟩ | ⟨a,len',cap',zs,hcs,_,hl,hm,hz,_,hcell,hwz⟩
  ·simp [Value.cells] at hcs
  ·simp [Value.cells] at hcs
   obtain ⟨rfl,rfl,rfl⟩:=hcs
   simp only [if_true] at hz
   refine ⟨zs.take len,⟨by simp [ints],.inr ⟨g,o,cap,by simp [hz,hl],by simp [hz,hl],hm,fun i hi=>?_⟩⟩,fun z hzm=>hwz z (List.mem_of_mem_take hzm)⟩
   have hi':i<len:=by simp at hi; omega
   have:=hcell i (by omega)
   rw [lT] at this
   rw [this,dI _ i (by simp; omega)]
   congr 2
   simp [List.getD,hi']
end
end Go.Proofs.YteablcielclaeaaGreatDoor
namespace Go.Proofs.YteablcielclaeaaGreatDoor
open Go.ChangeShapes Go.WideShapes Go.ChangeAt Go.RowKit Go.Shelf Go.Lib Go.Sort
set_option linter.unusedVariables false
variable {P:Program} {α:Type} [Inhabited α] {k:Nat} {enc:α→List Value} {blk off:Nat} {d0:Array α} {w0:World}
end Go.Proofs.YteablcielclaeaaGreatDoor
namespace Go.Proofs.YteablcielclaeaaGreatDoor
open Go.ChangeShapes Go.WideShapes Go.ChangeAt Go.RowKit Go.Shelf Go.Lib Go.Sort
set_option linter.unusedVariables false
variable {P:Program} {α:Type} [Inhabited α] {k:Nat} {enc:α→List Value} {blk off:Nat} {d0:Array α} {w0:World}
end Go.Proofs.YteablcielclaeaaGreatDoor
namespace Go.Proofs.YteablcielclaeaaGreatDoor
open Go.ChangeShapes Go.WideShapes Go.ChangeAt Go.RowKit Go.Shelf Go.Lib Go.Sort
set_option linter.unusedVariables false
variable {P:Program} {α:Type} [Inhabited α] {k:Nat} {enc:α→List Value} {blk off:Nat} {d0:Array α} {w0:World} {cf:α→α→Int}
def zy (d:Array α) (lt:α→α→Bool) (a b:Nat) (enc:α→List Value) (k:Nat) (w0:World) (blk off:Nat) (e:Ending) (w':World):Prop:=e=.returned (.tuple #[])∧∃ d',SWK enc k w0 blk off d' w'∧d'.size=d.size∧PermIn a b d d'∧SortedIn lt a b d'
end Go.Proofs.YteablcielclaeaaGreatDoor
namespace Go.Proofs.YteablcielclaeaaGreatDoor
open Go.ChangeShapes Go.WideShapes Go.ChangeAt Go.RowKit Go.Shelf Go.Lib Go.Sort
set_option linter.unusedVariables false
variable {P:Program} {α:Type} [Inhabited α] {k:Nat} {enc:α→List Value} {blk off:Nat} {d0:Array α} {w0:World} {cf:α→α→Int}
end Go.Proofs.YteablcielclaeaaGreatDoor
namespace Go.Proofs.YteablcielclaeaaGreatDoor
open Go.ChangeShapes Go.WideShapes Go.ChangeAt Go.RowKit Go.Shelf Go.Lib Go.Sort
set_option linter.unusedVariables false
variable {P:Program} {α:Type} [Inhabited α] {k:Nat} {enc:α→List Value} {blk off:Nat} {d0:Array α} {w0:World} {cf:α→α→Int}
end Go.Proofs.YteablcielclaeaaGreatDoor
