/- The contract of moves.Make. -/
import Derived.Test.YteablcielclaeaaGreatDoorC11
namespace Go.Proofs.YteablcielclaeaaGreatDoor
open Go.ChangeShapes Go.WideShapes Go.ChangeAt Go.RowKit
set_option linter.unusedVariables false
open Go.Lib (hid)
theorem Tv (l:List Int) (k:Nat) (z:Int) (i:Nat):(l.set k z).getD i 0=if k=i∧i<l.length then z else l.getD i 0:=by
 rw [List.getD_eq_getElem?_getD,List.getElem?_set,List.getD_eq_getElem?_getD]
 by_cases h:k=i
 ·subst h
  by_cases h2:k<l.length
  ·simp [h2]
  ·simp [h2]
 ·simp [h]
set_option maxRecDepth 100000 in
set_option maxHeartbeats 4000000 in
theorem KW (R:au) (vp vs ve:Value) (p:aV) (vc v0 v1:Value) (m:aA) (w:World) (hp:tJ w p vc v0 v1) (K:oK R p) (F:Fits R p m) :
  Calls Tryz.prog 105 #[(.agg #[.string R.name,.int .i64 R.width,.int .i64 R.height,vp,vs,.bool R.falls,.bool R.keeps,ve,.int .i64 R.blocked,.int .i64 R.quiet,.int .i64 R.aZ]),(.agg #[vc,v0,v1,.int .i64 p.turn,.int .i64 p.quiet]),.agg #[.int .i64 m.src,.int .i64 m.dst,.int .i64 m.piece]] w (KH R p m w):=by
 have HP:=hid hp
 have hlen:=K.len
 have hnp:=K.r.np
 obtain ⟨hd1,hd2⟩:=F.d
 obtain ⟨hs1,hs2⟩:=F.s
 obtain ⟨hk1,hk2⟩:=F.k
 have aqw:=hid K.b0
 have aqx:=hid K.b1
 have SX:=hid (K.cell m.dst.toNat)
 obtain ⟨hq1,hq2⟩:=K.qu
 have hl0:=K.l0
 have hl1:=K.l1
 have Vk:=hid hl0
 have ql:=hid hl1
 obtain ⟨ht0,ht1⟩:0≤p.turn∧p.turn≤1:=by have:=K.tu; omega
 have HHL:Hid ((p.hand p.turn).length=R.pieces.length):=hid (by unfold aV.hand; split <;> omega)
 have HHB:Hid (∀ i,0≤(p.hand p.turn).getD i 0∧(p.hand p.turn).getD i 0≤1000):=hid (fun i=>by
  have hb:∀ c∈p.hand p.turn,0≤c∧c≤1000:=by unfold aV.hand; split; exact K.b0; exact K.b1
  by_cases hi:i<(p.hand p.turn).length
  ·rw [List.getD_eq_getElem?_getD,List.getElem?_eq_getElem hi]; exact hb _ (List.getElem_mem hi)
  ·rw [List.getD_eq_getElem?_getD,List.getElem?_eq_none (by omega)]; simp)
 clear hp hl0 hl1
 go_enter Tryz.func105,Tryz.ntmps105
 go_upto_region 1 with (fail)
 refine akn fun w0 B0 B1 B2 B3 fG hs_=>?_
 have HB:=hid fG
 have hz0:w.heap.size+1+1+1<w0.heap.size:=by omega
 clear hs_ fG
 have EW:=hid (HP.out.below HB.out (Nat.le_refl _))
 have bD:=hid B0
 have kX:=hid B1
 have dW:=hid B2
 have JK:=hid B3
 have a0:=B1.cell 0 rfl
 have a1:=B1.cell 1 rfl
 have a2:=B1.cell 2 rfl
 have a3:=B1.cell 3 rfl
 have a4:=B1.cell 4 rfl
 clear B0 B1 B2 B3
 go_wp2_with fail
 refine (KF p vc v0 v1 w0 EW.out (by omega) (by rw [Vk.out]; omega) (by rw [ql.out]; omega)).mono ?_
 rintro e w1 ⟨xc,x0,x1,rfl,hown,hb1⟩
 have HLC:0<p.cells.length:=by omega
 obtain ⟨gc,cc,rfl⟩:=dY hown.1 HLC
 obtain ⟨g0,mZ,rfl⟩:=dY hown.2.1 (by rw [Vk.out]; omega)
 obtain ⟨g1,ng,rfl⟩:=dY hown.2.2.1 (by rw [ql.out]; omega)
 clear a0 a1 a2 a3 a4
 unfold sH
 go_upto_region 2 with (fail)
 have hs1':=hb1.size
 have bG:Hid (Hold w0.heap.size (w1.alloc (.cells #[(Value.slice (some ⟨gc,0,none⟩) p.cells.length cc),(Value.slice (some ⟨g0,0,none⟩) p.h0.length mZ),(Value.slice (some ⟨g1,0,none⟩) p.h1.length ng),.int .i64 p.turn,.int .i64 p.quiet] 158)) w1.heap.size p.cells (L0 p.turn (p.hand p.turn) p.h0) (L1 p.turn (p.hand p.turn) p.h1) (Value.slice (some ⟨gc,0,none⟩) p.cells.length cc) (Value.slice (some ⟨g0,0,none⟩) p.h0.length mZ) (Value.slice (some ⟨g1,0,none⟩) p.h1.length ng) p.turn p.quiet):=hid (by
  have e0:L0 p.turn (p.hand p.turn) p.h0=p.h0:=by unfold L0 aV.hand; split <;> rfl
  have e1:L1 p.turn (p.hand p.turn) p.h1=p.h1:=by unfold L1 aV.hand; split <;> rfl
  rw [e0,e1]
  exact ⟨Box.new' w1 w1.heap.size [(Value.slice (some ⟨gc,0,none⟩) p.cells.length cc),(Value.slice (some ⟨g0,0,none⟩) p.h0.length mZ),(Value.slice (some ⟨g1,0,none⟩) p.h1.length ng),.int .i64 p.turn,.int .i64 p.quiet] _ rfl,hown.1.alloc _,hown.2.1.alloc _,hown.2.2.1.alloc _,hown.2.2.2.1,hown.2.2.2.2.1,hown.2.2.2.2.2,fun k hk=>by
   rcases hk with hk | hk | hk
   ·have:=(hown.1.lt k hk).2; omega
   ·have:=(hown.2.1.lt k hk).2; omega
   ·have:=(hown.2.2.1.lt k hk).2; omega⟩)
 have bI:Hid (Below w0.heap.size w0 (w1.alloc (.cells #[(Value.slice (some ⟨gc,0,none⟩) p.cells.length cc),(Value.slice (some ⟨g0,0,none⟩) p.h0.length mZ),(Value.slice (some ⟨g1,0,none⟩) p.h1.length ng),.int .i64 p.turn,.int .i64 p.quiet] 158))):=hid (hb1.alloc hs1' _)
 clear hown hb1
 generalize (w1.alloc (.cells #[(Value.slice (some ⟨gc,0,none⟩) p.cells.length cc),(Value.slice (some ⟨g0,0,none⟩) p.h0.length mZ),(Value.slice (some ⟨g1,0,none⟩) p.h1.length ng),.int .i64 p.turn,.int .i64 p.quiet] 158))=w2 at *
 have hgc:=(bG.out.oc.lt gc rfl).2
 have hbc:=(bG.out.oc.lt gc rfl).1
 obtain ⟨gh,ch,agE,hgh,hbh,-,-⟩:=tY bG.out.oh (by rw [HHL.out]; omega)
 have sW:=hid agE
 clear agE
 have hzb:=bG.out.box.lt
 have m0:=(dW.out.below bI.out (by omega)).cell 0 rfl
 have m1:=(dW.out.below bI.out (by omega)).cell 1 rfl
 have m2:=(dW.out.below bI.out (by omega)).cell 2 rfl
 have p3:=(kX.out.below bI.out (by omega)).cell 3 rfl
 have p4:=(kX.out.below bI.out (by omega)).cell 4 rfl
 have r6:=(bD.out.below bI.out (by omega)).cell 6 rfl
 have o0:=bG.out.box.cell 0 rfl
 have oh:=bG.out.ch ht0 ht1
 have o3:=bG.out.box.cell 3 rfl
 have o4:=bG.out.box.cell 4 rfl
 have nJ:=bG.out.box.frozen 3
 have nP:=bG.out.box.frozen 4
 rw [sW.out] at oh
 obtain ⟨gx,cx,ex,hgx,hbx,hcx,hfx⟩:=tY bG.out.oc HLC
 simp only [Value.slice.injEq,Option.some.injEq,Addr.mk.injEq,and_true,true_and] at ex
 obtain ⟨rfl,-⟩:=ex
 have hck:=hcx m.dst.toNat (by omega)
 obtain ⟨akI,hcb2⟩:=SX.out
 obtain ⟨tk,htk⟩:∃ tk,p.cells.getD m.dst.toNat 0=tk:=⟨_,rfl⟩
 rw [htk] at hck akI hcb2
 clear hcx hfx
 have QB:=hid htk
 clear htk
 go_upto_region 3 with (fail)
 clear hck
 have HMC:Hid (dJ p m=(if 0≤m.src then p.cells.set m.src.toNat 0 else p.cells).set m.dst.toNat (2 * m.piece+p.turn+1)):=hid rfl
 have HMH:Hid (bH R p m=(let h1:=if 0≤m.src then p.hand p.turn else (p.hand p.turn).set m.piece.toNat ((p.hand p.turn).getD m.piece.toNat 0 - 1); if 0<tk∧R.keeps=true then h1.set ((tk - 1) / 2).toNat (if 1000<h1.getD ((tk - 1) / 2).toNat 0+1 then 1000 else h1.getD ((tk - 1) / 2).toNat 0+1) else h1)):=hid (by rw [← QB.out]; rfl)
 have HMQ:Hid ((bF R p m).quiet=if 0<tk∨m.src<0 then 0 else if 200<p.quiet+1 then 200 else p.quiet+1):=hid (by rw [← QB.out]; rfl)
 have hhg:R.pieces.length≤(p.hand p.turn).length:=by rw [HHL.out]; exact Nat.le_refl _
 by_cases hs:0≤m.src
 ·have ZG:Hid (dJ p m=(p.cells.set m.src.toNat 0).set m.dst.toNat (2 * m.piece+p.turn+1)):=hid (by rw [HMC.out,if_pos hs])
  obtain ⟨gx,cx,ex,hgx,hbx,hcx,hfx⟩:=tY bG.out.oc HLC
  simp only [Value.slice.injEq,Option.some.injEq,Addr.mk.injEq,and_true,true_and] at ex
  obtain ⟨rfl,-⟩:=ex
  have ck:=hcx m.src.toNat (by omega)
  have cf:=hfx m.src.toNat
  clear hcx hfx
  go_upto_region 6 with (fail)
  clear ck cf
  clear m0 m1 m2 p3 p4 r6 o0 oh o3 o4 nJ nP
  have jG:=hid (bG.out.adp (c:=cc) rfl m.src.toNat 0)
  have gG:=hid (Below.setCell bI.out (p:=⟨gc,m.src.toNat,none⟩) hbc (.int .i64 0))
  clear bG bI
  generalize (w2.setCell ⟨gc,m.src.toNat,none⟩ (.int .i64 0))=w3 at *
  have bG:=jG
  have bI:=gG
  clear jG gG
  have ady:Hid (∀ i,-1≤(p.hand p.turn).getD i 0∧(p.hand p.turn).getD i 0≤1000):=hid (fun i=>by have:=HHB.out i; omega)
  have adz:Hid ((Value.slice (some ⟨gc,0,none⟩) p.cells.length cc)=.slice (some ⟨gc,0,none⟩) (p.cells.set m.src.toNat 0).length cc):=hid (by simp)
  have m0:=(dW.out.below bI.out (by omega)).cell 0 rfl
  have m1:=(dW.out.below bI.out (by omega)).cell 1 rfl
  have m2:=(dW.out.below bI.out (by omega)).cell 2 rfl
  have p3:=(kX.out.below bI.out (by omega)).cell 3 rfl
  have p4:=(kX.out.below bI.out (by omega)).cell 4 rfl
  have r6:=(bD.out.below bI.out (by omega)).cell 6 rfl
  have o0:=bG.out.box.cell 0 rfl
  have oh:=bG.out.ch ht0 ht1
  have o3:=bG.out.box.cell 3 rfl
  have o4:=bG.out.box.cell 4 rfl
  have nJ:=bG.out.box.frozen 3
  have nP:=bG.out.box.frozen 4
  rw [sW.out] at oh
  obtain ⟨gx,cx,ex,hgx,hbx,hcx,hfx⟩:=tY bG.out.oc (by first | omega | (simp; omega))
  simp only [Value.slice.injEq,Option.some.injEq,Addr.mk.injEq,and_true] at ex
  obtain ⟨rfl,-⟩:=ex
  have ck:=hcx m.dst.toNat (by first | omega | (simp; omega))
  have cf:=hfx m.dst.toNat
  clear hcx hfx
  go_upto_region 7 with (fail)
  clear ck cf
  clear m0 m1 m2 p3 p4 r6 o0 oh o3 o4 nJ nP
  have jG:=hid (bG.out.adp adz.out m.dst.toNat (2 * m.piece+p.turn+1))
  have gG:=hid (Below.setCell bI.out (p:=⟨gc,m.dst.toNat,none⟩) hbc (.int .i64 (2 * m.piece+p.turn+1)))
  clear bG bI
  generalize (w3.setCell ⟨gc,m.dst.toNat,none⟩ (.int .i64 (2 * m.piece+p.turn+1)))=w4 at *
  have bG:=jG
  have bI:=gG
  clear jG gG
  by_cases IB:0<tk
  ·cases hkp:R.keeps
   ·have EO:Hid (bH R p m=(p.hand p.turn)):=hid (by rw [HMH.out]; simp [hkp,hs])
    rw [hkp] at bD
    have m0:=(dW.out.below bI.out (by omega)).cell 0 rfl
    have m1:=(dW.out.below bI.out (by omega)).cell 1 rfl
    have m2:=(dW.out.below bI.out (by omega)).cell 2 rfl
    have p3:=(kX.out.below bI.out (by omega)).cell 3 rfl
    have p4:=(kX.out.below bI.out (by omega)).cell 4 rfl
    have r6:=(bD.out.below bI.out (by omega)).cell 6 rfl
    have o0:=bG.out.box.cell 0 rfl
    have oh:=bG.out.ch ht0 ht1
    have o3:=bG.out.box.cell 3 rfl
    have o4:=bG.out.box.cell 4 rfl
    have nJ:=bG.out.box.frozen 3
    have nP:=bG.out.box.frozen 4
    rw [sW.out] at oh
    obtain ⟨mq,La⟩:∃ mq:Int,(if (200:Int)<p.quiet+1 then 200 else p.quiet+1)=mq:=⟨_,rfl⟩
    go_upto_region 11 with (fail)
    clear m0 m1 m2 p3 p4 r6 o0 oh o3 o4 nJ nP
    have HMq:=hid La
    clear La
    have jG:=hid (bG.out.CV mq)
    have gG:=hid (Below.setCell bI.out (p:=⟨w1.heap.size,4,none⟩) hs1' (.int .i64 mq))
    clear bG bI
    generalize (w4.setCell ⟨w1.heap.size,4,none⟩ (.int .i64 mq))=WT at *
    have bG:=jG
    have bI:=gG
    clear jG gG
    have m0:=(dW.out.below bI.out (by omega)).cell 0 rfl
    have m1:=(dW.out.below bI.out (by omega)).cell 1 rfl
    have m2:=(dW.out.below bI.out (by omega)).cell 2 rfl
    have p3:=(kX.out.below bI.out (by omega)).cell 3 rfl
    have p4:=(kX.out.below bI.out (by omega)).cell 4 rfl
    have r6:=(bD.out.below bI.out (by omega)).cell 6 rfl
    have o0:=bG.out.box.cell 0 rfl
    have oh:=bG.out.ch ht0 ht1
    have o3:=bG.out.box.cell 3 rfl
    have o4:=bG.out.box.cell 4 rfl
    have nJ:=bG.out.box.frozen 3
    have nP:=bG.out.box.frozen 4
    rw [sW.out] at oh
    go_upto_region 13 with (fail)
    clear m0 m1 m2 p3 p4 r6 o0 oh o3 o4 nJ nP
    have jG:=hid (bG.out.CV 0)
    have gG:=hid (Below.setCell bI.out (p:=⟨w1.heap.size,4,none⟩) hs1' (.int .i64 0))
    clear bG bI
    generalize (WT.setCell ⟨w1.heap.size,4,none⟩ (.int .i64 0))=wq2 at *
    have bG:=jG
    have bI:=gG
    clear jG gG
    have m0:=(dW.out.below bI.out (by omega)).cell 0 rfl
    have m1:=(dW.out.below bI.out (by omega)).cell 1 rfl
    have m2:=(dW.out.below bI.out (by omega)).cell 2 rfl
    have p3:=(kX.out.below bI.out (by omega)).cell 3 rfl
    have p4:=(kX.out.below bI.out (by omega)).cell 4 rfl
    have r6:=(bD.out.below bI.out (by omega)).cell 6 rfl
    have o0:=bG.out.box.cell 0 rfl
    have oh:=bG.out.ch ht0 ht1
    have o3:=bG.out.box.cell 3 rfl
    have o4:=bG.out.box.cell 4 rfl
    have nJ:=bG.out.box.frozen 3
    have nP:=bG.out.box.frozen 4
    rw [sW.out] at oh
    go_upto_region 14 with (fail)
    clear m0 m1 m2 p3 p4 r6 o0 oh o3 o4 nJ nP
    have jG:=hid (bG.out.Tc (1 - p.turn))
    have gG:=hid (Below.setCell bI.out (p:=⟨w1.heap.size,3,none⟩) hs1' (.int .i64 (1 - p.turn)))
    clear bG bI
    generalize (wq2.setCell ⟨w1.heap.size,3,none⟩ (.int .i64 (1 - p.turn)))=WU at *
    have bG:=jG
    have bI:=gG
    clear jG gG
    have HQ:Hid ((bF R p m).quiet=0):=hid (by rw [HMQ.out,if_pos (.inl IB)])
    have rY:=hid (JK.out.below bI.out (by omega))
    refine wp_region_lit ?_
    refine aB (by rfl) 158 (.tmp 7) (by rfl) w1.heap.size (by rfl) bG.out.box Tryz.underlying158 (by rfl) (by kernel_rfl) ?_
    refine aK (vs:=[(Value.slice (some ⟨gc,0,none⟩) p.cells.length cc),(Value.slice (some ⟨g0,0,none⟩) p.h0.length mZ),(Value.slice (some ⟨g1,0,none⟩) p.h1.length ng),.int .i64 (1 - p.turn),.int .i64 (0)]) (by rfl) 158 (.tmp 6) (.tmp 92) (by rfl) (w.heap.size+1+1+1) (by rfl) (by rfl) rY.out rfl (by kernel_rfl) (by rfl) ?_
    have HS:=hid (rY.out.store (vs:=[(Value.slice (some ⟨gc,0,none⟩) p.cells.length cc),(Value.slice (some ⟨g0,0,none⟩) p.h0.length mZ),(Value.slice (some ⟨g1,0,none⟩) p.h1.length ng),.int .i64 (1 - p.turn),.int .i64 (0)]) rfl)
    have WV:=hid (own_base (aS bG.out.oc (b:=w.heap.size+1+1+1) (by omega) 0 [(Value.slice (some ⟨gc,0,none⟩) p.cells.length cc),(Value.slice (some ⟨g0,0,none⟩) p.h0.length mZ),(Value.slice (some ⟨g1,0,none⟩) p.h1.length ng),.int .i64 (1 - p.turn),.int .i64 (0)]) (show w.heap.size≤w0.heap.size by omega))
    have HR0:=hid (own_base (aS bG.out.o0 (b:=w.heap.size+1+1+1) (by omega) 0 [(Value.slice (some ⟨gc,0,none⟩) p.cells.length cc),(Value.slice (some ⟨g0,0,none⟩) p.h0.length mZ),(Value.slice (some ⟨g1,0,none⟩) p.h1.length ng),.int .i64 (1 - p.turn),.int .i64 (0)]) (show w.heap.size≤w0.heap.size by omega))
    have HR1:=hid (own_base (aS bG.out.o1 (b:=w.heap.size+1+1+1) (by omega) 0 [(Value.slice (some ⟨gc,0,none⟩) p.cells.length cc),(Value.slice (some ⟨g0,0,none⟩) p.h0.length mZ),(Value.slice (some ⟨g1,0,none⟩) p.h1.length ng),.int .i64 (1 - p.turn),.int .i64 (0)]) (show w.heap.size≤w0.heap.size by omega))
    have Io:=hid (below_setCells (aj HB.out bI.out HB.out.size) (show w.heap.size≤w.heap.size+1+1+1 by omega) 0 [(Value.slice (some ⟨gc,0,none⟩) p.cells.length cc),(Value.slice (some ⟨g0,0,none⟩) p.h0.length mZ),(Value.slice (some ⟨g1,0,none⟩) p.h1.length ng),.int .i64 (1 - p.turn),.int .i64 (0)])
    generalize (WU.setCells (w.heap.size+1+1+1) 0 [(Value.slice (some ⟨gc,0,none⟩) p.cells.length cc),(Value.slice (some ⟨g0,0,none⟩) p.h0.length mZ),(Value.slice (some ⟨g1,0,none⟩) p.h1.length ng),.int .i64 (1 - p.turn),.int .i64 (0)])=wf at *
    go_wp2_with fail
    exact bodyPost_ret (dD rfl (by rfl) HS.out Tryz.underlying158 (by rfl) (by kernel_rfl)) rfl ⟨_,_,_,by unfold sH; rw [HQ.out]; rfl,⟨by show World.ownsRow _ _ _ _ _ (dJ p m).length (ints (dJ p m)); rw [ZG.out]; exact WV.out,by show World.ownsRow _ _ _ _ _ (if p.turn=0 then bH R p m else p.h0).length (ints (if p.turn=0 then bH R p m else p.h0)); rw [EO.out]; exact HR0.out,by show World.ownsRow _ _ _ _ _ (if p.turn=0 then p.h1 else bH R p m).length (ints (if p.turn=0 then p.h1 else bH R p m)); rw [EO.out]; exact HR1.out,bG.out.c0,bG.out.c1,bG.out.QF⟩,Io.out⟩
   ·rw [hkp] at bD
    have WW:Hid ((if p.turn=0 then (Value.slice (some ⟨g0,0,none⟩) p.h0.length mZ) else (Value.slice (some ⟨g1,0,none⟩) p.h1.length ng))=.slice (some ⟨gh,0,none⟩) ((p.hand p.turn)).length ch):=hid (by first | exact sW.out | (rw [sW.out]; simp))
    have m0:=(dW.out.below bI.out (by omega)).cell 0 rfl
    have m1:=(dW.out.below bI.out (by omega)).cell 1 rfl
    have m2:=(dW.out.below bI.out (by omega)).cell 2 rfl
    have p3:=(kX.out.below bI.out (by omega)).cell 3 rfl
    have p4:=(kX.out.below bI.out (by omega)).cell 4 rfl
    have r6:=(bD.out.below bI.out (by omega)).cell 6 rfl
    have o0:=bG.out.box.cell 0 rfl
    have oh:=bG.out.ch ht0 ht1
    have o3:=bG.out.box.cell 3 rfl
    have o4:=bG.out.box.cell 4 rfl
    have nJ:=bG.out.box.frozen 3
    have nP:=bG.out.box.frozen 4
    rw [sW.out] at oh
    obtain ⟨gx,cx,ex,hgx,hbx,hcx,hfx⟩:=tY bG.out.oh (by first | omega | (simp; omega))
    rw [sW.out] at ex
    simp only [Value.slice.injEq,Option.some.injEq,Addr.mk.injEq,and_true,true_and] at ex
    obtain ⟨rfl,-⟩:=ex
    have hidx:((tk - 1) / 2).toNat<((p.hand p.turn)).length:=by first | omega | (simp; omega)
    have ck:=hcx ((tk - 1) / 2).toNat hidx
    have cf:w4.drew.frozen? ⟨gh,((tk - 1) / 2).toNat,none⟩=false:=hfx ((tk - 1) / 2).toNat
    clear hcx hfx
    obtain ⟨xh,hxh⟩:∃ xh,((p.hand p.turn)).getD ((tk - 1) / 2).toNat 0=xh:=⟨_,rfl⟩
    rw [hxh] at ck
    have hxb : -1≤xh∧xh≤1000:=by rw [← hxh]; exact ady.out _
    obtain ⟨akJ,akK⟩:=hxb
    have HXH:=hid hxh
    clear hxh
    obtain ⟨mn,hmn⟩:∃ mn:Int,(if (1000:Int)<xh+1 then 1000 else xh+1)=mn:=⟨_,rfl⟩
    go_upto_region 9 with (fail)
    have ht2:p.turn<2:=by omega
    have hi0:0≤(tk - 1) / 2:=by omega
    have hi1:(tk - 1) / 2<(((p.hand p.turn).length:Nat):Int):=by omega
    have hwr:IntKind.i64.wrap (xh+1)=xh+1:=IntWalk.i64_in _ (by omega)
    have ck0:w4.drew.cell? ⟨gh,((tk - 1) / 2).toNat,none⟩=some (.int .i64 xh):=ck
    refine wp_region_noPanic ?_
    refine bU (S:=(fun w'=>w'.cell? ⟨w.heap.size+1,3,none⟩=some (.int .i64 p.turn)∧w'.cell? ⟨w1.heap.size,1+p.turn.toNat,none⟩=some (.slice (some ⟨gh,0,none⟩) (p.hand p.turn).length ch)∧w'.cell? ⟨gh,((tk - 1) / 2).toNat,none⟩=some (.int .i64 xh))) (L:=[17]) (by kernel_rfl) ⟨p3,oh,ck0⟩ (fun hHeld=>?_)
    refine aJ 0 ?_
    refine aJ 2 ?_
    refine aJ 5 ?_
    refine aJ 6 ?_
    refine aJ 8 ?_
    refine aJ 11 ?_
    refine eH 1 ?_
    refine eH 7 ?_
    refine aJ 3 ?_
    refine aJ 9 ?_
    refine eH 4 ?_
    refine eH 10 ?_
    refine aJ 12 ?_
    refine eH 13 ?_
    refine aJ 14 ?_
    refine aJ 15 ?_
    refine aJ 16 ?_
    refine xU 17 fun K hK=>?_
    go_simp
    refine bg ?_
    intro w8 e8
    have jG:=hid (bG.out.setH WW.out ((tk - 1) / 2).toNat (mn)).drew
    have gG:=hid (aP (Below.setCell bI.out (p:=⟨gh,((tk - 1) / 2).toNat,none⟩) hbh (.int .i64 (mn))))
    rw [← e8] at jG gG
    clear bG bI e8
    have bG:=jG
    have bI:=gG
    clear jG gG
    refine hK.out _ _ ?_
    clear hK K
    refine kW ?_
    clear hHeld ck ck0 cf ht2 hi0 hi1 hwr
    clear m0 m1 m2 p3 p4 r6 o0 oh o3 o4 nJ nP
    have HMN:=hid hmn
    clear hmn
    go_upto_region 10 with (fail)
    have EO:Hid (bH R p m=((p.hand p.turn)).set ((tk - 1) / 2).toNat mn):=hid (by rw [HMH.out]; simp only [hkp,hs,IB,if_true,and_self]; rw [HXH.out,HMN.out])
    have m0:=(dW.out.below bI.out (by omega)).cell 0 rfl
    have m1:=(dW.out.below bI.out (by omega)).cell 1 rfl
    have m2:=(dW.out.below bI.out (by omega)).cell 2 rfl
    have p3:=(kX.out.below bI.out (by omega)).cell 3 rfl
    have p4:=(kX.out.below bI.out (by omega)).cell 4 rfl
    have r6:=(bD.out.below bI.out (by omega)).cell 6 rfl
    have o0:=bG.out.box.cell 0 rfl
    have oh:=bG.out.ch ht0 ht1
    have o3:=bG.out.box.cell 3 rfl
    have o4:=bG.out.box.cell 4 rfl
    have nJ:=bG.out.box.frozen 3
    have nP:=bG.out.box.frozen 4
    rw [sW.out] at oh
    obtain ⟨mq,La⟩:∃ mq:Int,(if (200:Int)<p.quiet+1 then 200 else p.quiet+1)=mq:=⟨_,rfl⟩
    go_upto_region 11 with (fail)
    clear m0 m1 m2 p3 p4 r6 o0 oh o3 o4 nJ nP
    have HMq:=hid La
    clear La
    have jG:=hid (bG.out.CV mq)
    have gG:=hid (Below.setCell bI.out (p:=⟨w1.heap.size,4,none⟩) hs1' (.int .i64 mq))
    clear bG bI
    generalize (w8.setCell ⟨w1.heap.size,4,none⟩ (.int .i64 mq))=WT at *
    have bG:=jG
    have bI:=gG
    clear jG gG
    have m0:=(dW.out.below bI.out (by omega)).cell 0 rfl
    have m1:=(dW.out.below bI.out (by omega)).cell 1 rfl
    have m2:=(dW.out.below bI.out (by omega)).cell 2 rfl
    have p3:=(kX.out.below bI.out (by omega)).cell 3 rfl
    have p4:=(kX.out.below bI.out (by omega)).cell 4 rfl
    have r6:=(bD.out.below bI.out (by omega)).cell 6 rfl
    have o0:=bG.out.box.cell 0 rfl
    have oh:=bG.out.ch ht0 ht1
    have o3:=bG.out.box.cell 3 rfl
    have o4:=bG.out.box.cell 4 rfl
    have nJ:=bG.out.box.frozen 3
    have nP:=bG.out.box.frozen 4
    rw [sW.out] at oh
    go_upto_region 13 with (fail)
    clear m0 m1 m2 p3 p4 r6 o0 oh o3 o4 nJ nP
    have jG:=hid (bG.out.CV 0)
    have gG:=hid (Below.setCell bI.out (p:=⟨w1.heap.size,4,none⟩) hs1' (.int .i64 0))
    clear bG bI
    generalize (WT.setCell ⟨w1.heap.size,4,none⟩ (.int .i64 0))=wq2 at *
    have bG:=jG
    have bI:=gG
    clear jG gG
    have m0:=(dW.out.below bI.out (by omega)).cell 0 rfl
    have m1:=(dW.out.below bI.out (by omega)).cell 1 rfl
    have m2:=(dW.out.below bI.out (by omega)).cell 2 rfl
    have p3:=(kX.out.below bI.out (by omega)).cell 3 rfl
    have p4:=(kX.out.below bI.out (by omega)).cell 4 rfl
    have r6:=(bD.out.below bI.out (by omega)).cell 6 rfl
    have o0:=bG.out.box.cell 0 rfl
    have oh:=bG.out.ch ht0 ht1
    have o3:=bG.out.box.cell 3 rfl
    have o4:=bG.out.box.cell 4 rfl
    have nJ:=bG.out.box.frozen 3
    have nP:=bG.out.box.frozen 4
    rw [sW.out] at oh
    go_upto_region 14 with (fail)
    clear m0 m1 m2 p3 p4 r6 o0 oh o3 o4 nJ nP
    have jG:=hid (bG.out.Tc (1 - p.turn))
    have gG:=hid (Below.setCell bI.out (p:=⟨w1.heap.size,3,none⟩) hs1' (.int .i64 (1 - p.turn)))
    clear bG bI
    generalize (wq2.setCell ⟨w1.heap.size,3,none⟩ (.int .i64 (1 - p.turn)))=WU at *
    have bG:=jG
    have bI:=gG
    clear jG gG
    have HQ:Hid ((bF R p m).quiet=0):=hid (by rw [HMQ.out,if_pos (.inl IB)])
    have rY:=hid (JK.out.below bI.out (by omega))
    refine wp_region_lit ?_
    refine aB (by rfl) 158 (.tmp 7) (by rfl) w1.heap.size (by rfl) bG.out.box Tryz.underlying158 (by rfl) (by kernel_rfl) ?_
    refine aK (vs:=[(Value.slice (some ⟨gc,0,none⟩) p.cells.length cc),(Value.slice (some ⟨g0,0,none⟩) p.h0.length mZ),(Value.slice (some ⟨g1,0,none⟩) p.h1.length ng),.int .i64 (1 - p.turn),.int .i64 (0)]) (by rfl) 158 (.tmp 6) (.tmp 92) (by rfl) (w.heap.size+1+1+1) (by rfl) (by rfl) rY.out rfl (by kernel_rfl) (by rfl) ?_
    have HS:=hid (rY.out.store (vs:=[(Value.slice (some ⟨gc,0,none⟩) p.cells.length cc),(Value.slice (some ⟨g0,0,none⟩) p.h0.length mZ),(Value.slice (some ⟨g1,0,none⟩) p.h1.length ng),.int .i64 (1 - p.turn),.int .i64 (0)]) rfl)
    have WV:=hid (own_base (aS bG.out.oc (b:=w.heap.size+1+1+1) (by omega) 0 [(Value.slice (some ⟨gc,0,none⟩) p.cells.length cc),(Value.slice (some ⟨g0,0,none⟩) p.h0.length mZ),(Value.slice (some ⟨g1,0,none⟩) p.h1.length ng),.int .i64 (1 - p.turn),.int .i64 (0)]) (show w.heap.size≤w0.heap.size by omega))
    have HR0:=hid (own_base (aS bG.out.o0 (b:=w.heap.size+1+1+1) (by omega) 0 [(Value.slice (some ⟨gc,0,none⟩) p.cells.length cc),(Value.slice (some ⟨g0,0,none⟩) p.h0.length mZ),(Value.slice (some ⟨g1,0,none⟩) p.h1.length ng),.int .i64 (1 - p.turn),.int .i64 (0)]) (show w.heap.size≤w0.heap.size by omega))
    have HR1:=hid (own_base (aS bG.out.o1 (b:=w.heap.size+1+1+1) (by omega) 0 [(Value.slice (some ⟨gc,0,none⟩) p.cells.length cc),(Value.slice (some ⟨g0,0,none⟩) p.h0.length mZ),(Value.slice (some ⟨g1,0,none⟩) p.h1.length ng),.int .i64 (1 - p.turn),.int .i64 (0)]) (show w.heap.size≤w0.heap.size by omega))
    have Io:=hid (below_setCells (aj HB.out bI.out HB.out.size) (show w.heap.size≤w.heap.size+1+1+1 by omega) 0 [(Value.slice (some ⟨gc,0,none⟩) p.cells.length cc),(Value.slice (some ⟨g0,0,none⟩) p.h0.length mZ),(Value.slice (some ⟨g1,0,none⟩) p.h1.length ng),.int .i64 (1 - p.turn),.int .i64 (0)])
    generalize (WU.setCells (w.heap.size+1+1+1) 0 [(Value.slice (some ⟨gc,0,none⟩) p.cells.length cc),(Value.slice (some ⟨g0,0,none⟩) p.h0.length mZ),(Value.slice (some ⟨g1,0,none⟩) p.h1.length ng),.int .i64 (1 - p.turn),.int .i64 (0)])=wf at *
    go_wp2_with fail
    exact bodyPost_ret (dD rfl (by rfl) HS.out Tryz.underlying158 (by rfl) (by kernel_rfl)) rfl ⟨_,_,_,by unfold sH; rw [HQ.out]; rfl,⟨by show World.ownsRow _ _ _ _ _ (dJ p m).length (ints (dJ p m)); rw [ZG.out]; exact WV.out,by show World.ownsRow _ _ _ _ _ (if p.turn=0 then bH R p m else p.h0).length (ints (if p.turn=0 then bH R p m else p.h0)); rw [EO.out]; exact HR0.out,by show World.ownsRow _ _ _ _ _ (if p.turn=0 then p.h1 else bH R p m).length (ints (if p.turn=0 then p.h1 else bH R p m)); rw [EO.out]; exact HR1.out,bG.out.c0,bG.out.c1,bG.out.QF⟩,Io.out⟩
  ·have EO:Hid (bH R p m=(p.hand p.turn)):=hid (by rw [HMH.out]; simp [IB,hs])
   have m0:=(dW.out.below bI.out (by omega)).cell 0 rfl
   have m1:=(dW.out.below bI.out (by omega)).cell 1 rfl
   have m2:=(dW.out.below bI.out (by omega)).cell 2 rfl
   have p3:=(kX.out.below bI.out (by omega)).cell 3 rfl
   have p4:=(kX.out.below bI.out (by omega)).cell 4 rfl
   have r6:=(bD.out.below bI.out (by omega)).cell 6 rfl
   have o0:=bG.out.box.cell 0 rfl
   have oh:=bG.out.ch ht0 ht1
   have o3:=bG.out.box.cell 3 rfl
   have o4:=bG.out.box.cell 4 rfl
   have nJ:=bG.out.box.frozen 3
   have nP:=bG.out.box.frozen 4
   rw [sW.out] at oh
   obtain ⟨mq,La⟩:∃ mq:Int,(if (200:Int)<p.quiet+1 then 200 else p.quiet+1)=mq:=⟨_,rfl⟩
   go_upto_region 11 with (fail)
   clear m0 m1 m2 p3 p4 r6 o0 oh o3 o4 nJ nP
   have HMq:=hid La
   clear La
   have jG:=hid (bG.out.CV mq)
   have gG:=hid (Below.setCell bI.out (p:=⟨w1.heap.size,4,none⟩) hs1' (.int .i64 mq))
   clear bG bI
   generalize (w4.setCell ⟨w1.heap.size,4,none⟩ (.int .i64 mq))=WT at *
   have bG:=jG
   have bI:=gG
   clear jG gG
   have m0:=(dW.out.below bI.out (by omega)).cell 0 rfl
   have m1:=(dW.out.below bI.out (by omega)).cell 1 rfl
   have m2:=(dW.out.below bI.out (by omega)).cell 2 rfl
   have p3:=(kX.out.below bI.out (by omega)).cell 3 rfl
   have p4:=(kX.out.below bI.out (by omega)).cell 4 rfl
   have r6:=(bD.out.below bI.out (by omega)).cell 6 rfl
   have o0:=bG.out.box.cell 0 rfl
   have oh:=bG.out.ch ht0 ht1
   have o3:=bG.out.box.cell 3 rfl
   have o4:=bG.out.box.cell 4 rfl
   have nJ:=bG.out.box.frozen 3
   have nP:=bG.out.box.frozen 4
   rw [sW.out] at oh
   go_upto_region 13 with (fail)
   clear m0 m1 m2 p3 p4 r6 o0 oh o3 o4 nJ nP
   have m0:=(dW.out.below bI.out (by omega)).cell 0 rfl
   have m1:=(dW.out.below bI.out (by omega)).cell 1 rfl
   have m2:=(dW.out.below bI.out (by omega)).cell 2 rfl
   have p3:=(kX.out.below bI.out (by omega)).cell 3 rfl
   have p4:=(kX.out.below bI.out (by omega)).cell 4 rfl
   have r6:=(bD.out.below bI.out (by omega)).cell 6 rfl
   have o0:=bG.out.box.cell 0 rfl
   have oh:=bG.out.ch ht0 ht1
   have o3:=bG.out.box.cell 3 rfl
   have o4:=bG.out.box.cell 4 rfl
   have nJ:=bG.out.box.frozen 3
   have nP:=bG.out.box.frozen 4
   rw [sW.out] at oh
   go_upto_region 14 with (fail)
   clear m0 m1 m2 p3 p4 r6 o0 oh o3 o4 nJ nP
   have jG:=hid (bG.out.Tc (1 - p.turn))
   have gG:=hid (Below.setCell bI.out (p:=⟨w1.heap.size,3,none⟩) hs1' (.int .i64 (1 - p.turn)))
   clear bG bI
   generalize (WT.setCell ⟨w1.heap.size,3,none⟩ (.int .i64 (1 - p.turn)))=WU at *
   have bG:=jG
   have bI:=gG
   clear jG gG
   have HQ:Hid ((bF R p m).quiet=mq):=hid (by rw [HMQ.out,if_neg (by omega),HMq.out])
   have rY:=hid (JK.out.below bI.out (by omega))
   refine wp_region_lit ?_
   refine aB (by rfl) 158 (.tmp 7) (by rfl) w1.heap.size (by rfl) bG.out.box Tryz.underlying158 (by rfl) (by kernel_rfl) ?_
   refine aK (vs:=[(Value.slice (some ⟨gc,0,none⟩) p.cells.length cc),(Value.slice (some ⟨g0,0,none⟩) p.h0.length mZ),(Value.slice (some ⟨g1,0,none⟩) p.h1.length ng),.int .i64 (1 - p.turn),.int .i64 (mq)]) (by rfl) 158 (.tmp 6) (.tmp 92) (by rfl) (w.heap.size+1+1+1) (by rfl) (by rfl) rY.out rfl (by kernel_rfl) (by rfl) ?_
   have HS:=hid (rY.out.store (vs:=[(Value.slice (some ⟨gc,0,none⟩) p.cells.length cc),(Value.slice (some ⟨g0,0,none⟩) p.h0.length mZ),(Value.slice (some ⟨g1,0,none⟩) p.h1.length ng),.int .i64 (1 - p.turn),.int .i64 (mq)]) rfl)
   have WV:=hid (own_base (aS bG.out.oc (b:=w.heap.size+1+1+1) (by omega) 0 [(Value.slice (some ⟨gc,0,none⟩) p.cells.length cc),(Value.slice (some ⟨g0,0,none⟩) p.h0.length mZ),(Value.slice (some ⟨g1,0,none⟩) p.h1.length ng),.int .i64 (1 - p.turn),.int .i64 (mq)]) (show w.heap.size≤w0.heap.size by omega))
   have HR0:=hid (own_base (aS bG.out.o0 (b:=w.heap.size+1+1+1) (by omega) 0 [(Value.slice (some ⟨gc,0,none⟩) p.cells.length cc),(Value.slice (some ⟨g0,0,none⟩) p.h0.length mZ),(Value.slice (some ⟨g1,0,none⟩) p.h1.length ng),.int .i64 (1 - p.turn),.int .i64 (mq)]) (show w.heap.size≤w0.heap.size by omega))
   have HR1:=hid (own_base (aS bG.out.o1 (b:=w.heap.size+1+1+1) (by omega) 0 [(Value.slice (some ⟨gc,0,none⟩) p.cells.length cc),(Value.slice (some ⟨g0,0,none⟩) p.h0.length mZ),(Value.slice (some ⟨g1,0,none⟩) p.h1.length ng),.int .i64 (1 - p.turn),.int .i64 (mq)]) (show w.heap.size≤w0.heap.size by omega))
   have Io:=hid (below_setCells (aj HB.out bI.out HB.out.size) (show w.heap.size≤w.heap.size+1+1+1 by omega) 0 [(Value.slice (some ⟨gc,0,none⟩) p.cells.length cc),(Value.slice (some ⟨g0,0,none⟩) p.h0.length mZ),(Value.slice (some ⟨g1,0,none⟩) p.h1.length ng),.int .i64 (1 - p.turn),.int .i64 (mq)])
   generalize (WU.setCells (w.heap.size+1+1+1) 0 [(Value.slice (some ⟨gc,0,none⟩) p.cells.length cc),(Value.slice (some ⟨g0,0,none⟩) p.h0.length mZ),(Value.slice (some ⟨g1,0,none⟩) p.h1.length ng),.int .i64 (1 - p.turn),.int .i64 (mq)])=wf at *
   go_wp2_with fail
   exact bodyPost_ret (dD rfl (by rfl) HS.out Tryz.underlying158 (by rfl) (by kernel_rfl)) rfl ⟨_,_,_,by unfold sH; rw [HQ.out]; rfl,⟨by show World.ownsRow _ _ _ _ _ (dJ p m).length (ints (dJ p m)); rw [ZG.out]; exact WV.out,by show World.ownsRow _ _ _ _ _ (if p.turn=0 then bH R p m else p.h0).length (ints (if p.turn=0 then bH R p m else p.h0)); rw [EO.out]; exact HR0.out,by show World.ownsRow _ _ _ _ _ (if p.turn=0 then p.h1 else bH R p m).length (ints (if p.turn=0 then p.h1 else bH R p m)); rw [EO.out]; exact HR1.out,bG.out.c0,bG.out.c1,bG.out.QF⟩,Io.out⟩
 ·have ZG:Hid (dJ p m=p.cells.set m.dst.toNat (2 * m.piece+p.turn+1)):=hid (by rw [HMC.out,if_neg hs])
  clear m0 m1 m2 p3 p4 r6 o0 oh o3 o4 nJ nP
  have WW:Hid ((if p.turn=0 then (Value.slice (some ⟨g0,0,none⟩) p.h0.length mZ) else (Value.slice (some ⟨g1,0,none⟩) p.h1.length ng))=.slice (some ⟨gh,0,none⟩) (p.hand p.turn).length ch):=hid (by first | exact sW.out | (rw [sW.out]; simp))
  have m0:=(dW.out.below bI.out (by omega)).cell 0 rfl
  have m1:=(dW.out.below bI.out (by omega)).cell 1 rfl
  have m2:=(dW.out.below bI.out (by omega)).cell 2 rfl
  have p3:=(kX.out.below bI.out (by omega)).cell 3 rfl
  have p4:=(kX.out.below bI.out (by omega)).cell 4 rfl
  have r6:=(bD.out.below bI.out (by omega)).cell 6 rfl
  have o0:=bG.out.box.cell 0 rfl
  have oh:=bG.out.ch ht0 ht1
  have o3:=bG.out.box.cell 3 rfl
  have o4:=bG.out.box.cell 4 rfl
  have nJ:=bG.out.box.frozen 3
  have nP:=bG.out.box.frozen 4
  rw [sW.out] at oh
  obtain ⟨gx,cx,ex,hgx,hbx,hcx,hfx⟩:=tY bG.out.oh (by first | omega | (simp; omega))
  rw [sW.out] at ex
  simp only [Value.slice.injEq,Option.some.injEq,Addr.mk.injEq,and_true,true_and] at ex
  obtain ⟨rfl,-⟩:=ex
  have hidx:(m.piece).toNat<(p.hand p.turn).length:=by first | omega | (simp; omega)
  have ck:=hcx (m.piece).toNat hidx
  have cf:=hfx (m.piece).toNat
  clear hcx hfx
  obtain ⟨xp,hxp⟩:∃ xp,(p.hand p.turn).getD (m.piece).toNat 0=xp:=⟨_,rfl⟩
  rw [hxp] at ck
  have hxb:0≤xp∧xp≤1000:=by rw [← hxp]; exact HHB.out _
  obtain ⟨aqy,aqz⟩:=hxb
  have HXP:=hid hxp
  clear hxp
  go_upto_region 5 with (fail)
  go_region
  clear ck cf
  clear m0 m1 m2 p3 p4 r6 o0 oh o3 o4 nJ nP
  have jG:=hid ((bG.out.setH WW.out (m.piece).toNat (xp - 1)).drew)
  have gG:=hid (aP (Below.setCell bI.out (p:=⟨gh,(m.piece).toNat,none⟩) hbh (.int .i64 (xp - 1))))
  clear bG bI
  generalize (w2.setCell ⟨gh,(m.piece).toNat,none⟩ (.int .i64 (xp - 1))).drew=w3 at *
  have bG:=jG
  have bI:=gG
  clear jG gG
  go_upto_region 6 with (fail)
  have ady:Hid (∀ i,-1≤((p.hand p.turn).set m.piece.toNat (xp - 1)).getD i 0∧((p.hand p.turn).set m.piece.toNat (xp - 1)).getD i 0≤1000):=hid (fun i=>by rw [Tv]; split; omega; have:=HHB.out i; omega)
  have adz:Hid ((Value.slice (some ⟨gc,0,none⟩) p.cells.length cc)=.slice (some ⟨gc,0,none⟩) (p.cells).length cc):=hid (by simp)
  have m0:=(dW.out.below bI.out (by omega)).cell 0 rfl
  have m1:=(dW.out.below bI.out (by omega)).cell 1 rfl
  have m2:=(dW.out.below bI.out (by omega)).cell 2 rfl
  have p3:=(kX.out.below bI.out (by omega)).cell 3 rfl
  have p4:=(kX.out.below bI.out (by omega)).cell 4 rfl
  have r6:=(bD.out.below bI.out (by omega)).cell 6 rfl
  have o0:=bG.out.box.cell 0 rfl
  have oh:=bG.out.ch ht0 ht1
  have o3:=bG.out.box.cell 3 rfl
  have o4:=bG.out.box.cell 4 rfl
  have nJ:=bG.out.box.frozen 3
  have nP:=bG.out.box.frozen 4
  rw [sW.out] at oh
  obtain ⟨gx,cx,ex,hgx,hbx,hcx,hfx⟩:=tY bG.out.oc (by first | omega | (simp; omega))
  simp only [Value.slice.injEq,Option.some.injEq,Addr.mk.injEq,and_true,true_and] at ex
  obtain ⟨rfl,-⟩:=ex
  have ck:=hcx m.dst.toNat (by first | omega | (simp; omega))
  have cf:=hfx m.dst.toNat
  clear hcx hfx
  go_upto_region 7 with (fail)
  clear ck cf
  clear m0 m1 m2 p3 p4 r6 o0 oh o3 o4 nJ nP
  have jG:=hid (bG.out.adp adz.out m.dst.toNat (2 * m.piece+p.turn+1))
  have gG:=hid (Below.setCell bI.out (p:=⟨gc,m.dst.toNat,none⟩) hbc (.int .i64 (2 * m.piece+p.turn+1)))
  clear bG bI
  generalize (w3.setCell ⟨gc,m.dst.toNat,none⟩ (.int .i64 (2 * m.piece+p.turn+1)))=w4 at *
  have bG:=jG
  have bI:=gG
  clear jG gG
  by_cases IB:0<tk
  ·cases hkp:R.keeps
   ·have EO:Hid (bH R p m=((p.hand p.turn).set m.piece.toNat (xp - 1))):=hid (by rw [HMH.out,← HXP.out]; simp [hkp,hs])
    rw [hkp] at bD
    have m0:=(dW.out.below bI.out (by omega)).cell 0 rfl
    have m1:=(dW.out.below bI.out (by omega)).cell 1 rfl
    have m2:=(dW.out.below bI.out (by omega)).cell 2 rfl
    have p3:=(kX.out.below bI.out (by omega)).cell 3 rfl
    have p4:=(kX.out.below bI.out (by omega)).cell 4 rfl
    have r6:=(bD.out.below bI.out (by omega)).cell 6 rfl
    have o0:=bG.out.box.cell 0 rfl
    have oh:=bG.out.ch ht0 ht1
    have o3:=bG.out.box.cell 3 rfl
    have o4:=bG.out.box.cell 4 rfl
    have nJ:=bG.out.box.frozen 3
    have nP:=bG.out.box.frozen 4
    rw [sW.out] at oh
    obtain ⟨mq,La⟩:∃ mq:Int,(if (200:Int)<p.quiet+1 then 200 else p.quiet+1)=mq:=⟨_,rfl⟩
    go_upto_region 11 with (fail)
    clear m0 m1 m2 p3 p4 r6 o0 oh o3 o4 nJ nP
    have HMq:=hid La
    clear La
    have jG:=hid (bG.out.CV mq)
    have gG:=hid (Below.setCell bI.out (p:=⟨w1.heap.size,4,none⟩) hs1' (.int .i64 mq))
    clear bG bI
    generalize (w4.setCell ⟨w1.heap.size,4,none⟩ (.int .i64 mq))=WT at *
    have bG:=jG
    have bI:=gG
    clear jG gG
    have m0:=(dW.out.below bI.out (by omega)).cell 0 rfl
    have m1:=(dW.out.below bI.out (by omega)).cell 1 rfl
    have m2:=(dW.out.below bI.out (by omega)).cell 2 rfl
    have p3:=(kX.out.below bI.out (by omega)).cell 3 rfl
    have p4:=(kX.out.below bI.out (by omega)).cell 4 rfl
    have r6:=(bD.out.below bI.out (by omega)).cell 6 rfl
    have o0:=bG.out.box.cell 0 rfl
    have oh:=bG.out.ch ht0 ht1
    have o3:=bG.out.box.cell 3 rfl
    have o4:=bG.out.box.cell 4 rfl
    have nJ:=bG.out.box.frozen 3
    have nP:=bG.out.box.frozen 4
    rw [sW.out] at oh
    go_upto_region 13 with (fail)
    clear m0 m1 m2 p3 p4 r6 o0 oh o3 o4 nJ nP
    have jG:=hid (bG.out.CV 0)
    have gG:=hid (Below.setCell bI.out (p:=⟨w1.heap.size,4,none⟩) hs1' (.int .i64 0))
    clear bG bI
    generalize (WT.setCell ⟨w1.heap.size,4,none⟩ (.int .i64 0))=wq2 at *
    have bG:=jG
    have bI:=gG
    clear jG gG
    have m0:=(dW.out.below bI.out (by omega)).cell 0 rfl
    have m1:=(dW.out.below bI.out (by omega)).cell 1 rfl
    have m2:=(dW.out.below bI.out (by omega)).cell 2 rfl
    have p3:=(kX.out.below bI.out (by omega)).cell 3 rfl
    have p4:=(kX.out.below bI.out (by omega)).cell 4 rfl
    have r6:=(bD.out.below bI.out (by omega)).cell 6 rfl
    have o0:=bG.out.box.cell 0 rfl
    have oh:=bG.out.ch ht0 ht1
    have o3:=bG.out.box.cell 3 rfl
    have o4:=bG.out.box.cell 4 rfl
    have nJ:=bG.out.box.frozen 3
    have nP:=bG.out.box.frozen 4
    rw [sW.out] at oh
    go_upto_region 14 with (fail)
    clear m0 m1 m2 p3 p4 r6 o0 oh o3 o4 nJ nP
    have jG:=hid (bG.out.Tc (1 - p.turn))
    have gG:=hid (Below.setCell bI.out (p:=⟨w1.heap.size,3,none⟩) hs1' (.int .i64 (1 - p.turn)))
    clear bG bI
    generalize (wq2.setCell ⟨w1.heap.size,3,none⟩ (.int .i64 (1 - p.turn)))=WU at *
    have bG:=jG
    have bI:=gG
    clear jG gG
    have HQ:Hid ((bF R p m).quiet=0):=hid (by rw [HMQ.out,if_pos (.inl IB)])
    have rY:=hid (JK.out.below bI.out (by omega))
    refine wp_region_lit ?_
    refine aB (by rfl) 158 (.tmp 7) (by rfl) w1.heap.size (by rfl) bG.out.box Tryz.underlying158 (by rfl) (by kernel_rfl) ?_
    refine aK (vs:=[(Value.slice (some ⟨gc,0,none⟩) p.cells.length cc),(Value.slice (some ⟨g0,0,none⟩) p.h0.length mZ),(Value.slice (some ⟨g1,0,none⟩) p.h1.length ng),.int .i64 (1 - p.turn),.int .i64 (0)]) (by rfl) 158 (.tmp 6) (.tmp 92) (by rfl) (w.heap.size+1+1+1) (by rfl) (by rfl) rY.out rfl (by kernel_rfl) (by rfl) ?_
    have HS:=hid (rY.out.store (vs:=[(Value.slice (some ⟨gc,0,none⟩) p.cells.length cc),(Value.slice (some ⟨g0,0,none⟩) p.h0.length mZ),(Value.slice (some ⟨g1,0,none⟩) p.h1.length ng),.int .i64 (1 - p.turn),.int .i64 (0)]) rfl)
    have WV:=hid (own_base (aS bG.out.oc (b:=w.heap.size+1+1+1) (by omega) 0 [(Value.slice (some ⟨gc,0,none⟩) p.cells.length cc),(Value.slice (some ⟨g0,0,none⟩) p.h0.length mZ),(Value.slice (some ⟨g1,0,none⟩) p.h1.length ng),.int .i64 (1 - p.turn),.int .i64 (0)]) (show w.heap.size≤w0.heap.size by omega))
    have HR0:=hid (own_base (aS bG.out.o0 (b:=w.heap.size+1+1+1) (by omega) 0 [(Value.slice (some ⟨gc,0,none⟩) p.cells.length cc),(Value.slice (some ⟨g0,0,none⟩) p.h0.length mZ),(Value.slice (some ⟨g1,0,none⟩) p.h1.length ng),.int .i64 (1 - p.turn),.int .i64 (0)]) (show w.heap.size≤w0.heap.size by omega))
    have HR1:=hid (own_base (aS bG.out.o1 (b:=w.heap.size+1+1+1) (by omega) 0 [(Value.slice (some ⟨gc,0,none⟩) p.cells.length cc),(Value.slice (some ⟨g0,0,none⟩) p.h0.length mZ),(Value.slice (some ⟨g1,0,none⟩) p.h1.length ng),.int .i64 (1 - p.turn),.int .i64 (0)]) (show w.heap.size≤w0.heap.size by omega))
    have Io:=hid (below_setCells (aj HB.out bI.out HB.out.size) (show w.heap.size≤w.heap.size+1+1+1 by omega) 0 [(Value.slice (some ⟨gc,0,none⟩) p.cells.length cc),(Value.slice (some ⟨g0,0,none⟩) p.h0.length mZ),(Value.slice (some ⟨g1,0,none⟩) p.h1.length ng),.int .i64 (1 - p.turn),.int .i64 (0)])
    generalize (WU.setCells (w.heap.size+1+1+1) 0 [(Value.slice (some ⟨gc,0,none⟩) p.cells.length cc),(Value.slice (some ⟨g0,0,none⟩) p.h0.length mZ),(Value.slice (some ⟨g1,0,none⟩) p.h1.length ng),.int .i64 (1 - p.turn),.int .i64 (0)])=wf at *
    go_wp2_with fail
    exact bodyPost_ret (dD rfl (by rfl) HS.out Tryz.underlying158 (by rfl) (by kernel_rfl)) rfl ⟨_,_,_,by unfold sH; rw [HQ.out]; rfl,⟨by show World.ownsRow _ _ _ _ _ (dJ p m).length (ints (dJ p m)); rw [ZG.out]; exact WV.out,by show World.ownsRow _ _ _ _ _ (if p.turn=0 then bH R p m else p.h0).length (ints (if p.turn=0 then bH R p m else p.h0)); rw [EO.out]; exact HR0.out,by show World.ownsRow _ _ _ _ _ (if p.turn=0 then p.h1 else bH R p m).length (ints (if p.turn=0 then p.h1 else bH R p m)); rw [EO.out]; exact HR1.out,bG.out.c0,bG.out.c1,bG.out.QF⟩,Io.out⟩
   ·rw [hkp] at bD
    have WW:Hid ((if p.turn=0 then (Value.slice (some ⟨g0,0,none⟩) p.h0.length mZ) else (Value.slice (some ⟨g1,0,none⟩) p.h1.length ng))=.slice (some ⟨gh,0,none⟩) (((p.hand p.turn).set m.piece.toNat (xp - 1))).length ch):=hid (by first | exact sW.out | (rw [sW.out]; simp))
    have m0:=(dW.out.below bI.out (by omega)).cell 0 rfl
    have m1:=(dW.out.below bI.out (by omega)).cell 1 rfl
    have m2:=(dW.out.below bI.out (by omega)).cell 2 rfl
    have p3:=(kX.out.below bI.out (by omega)).cell 3 rfl
    have p4:=(kX.out.below bI.out (by omega)).cell 4 rfl
    have r6:=(bD.out.below bI.out (by omega)).cell 6 rfl
    have o0:=bG.out.box.cell 0 rfl
    have oh:=bG.out.ch ht0 ht1
    have o3:=bG.out.box.cell 3 rfl
    have o4:=bG.out.box.cell 4 rfl
    have nJ:=bG.out.box.frozen 3
    have nP:=bG.out.box.frozen 4
    rw [sW.out] at oh
    obtain ⟨gx,cx,ex,hgx,hbx,hcx,hfx⟩:=tY bG.out.oh (by first | omega | (simp; omega))
    rw [sW.out] at ex
    simp only [Value.slice.injEq,Option.some.injEq,Addr.mk.injEq,and_true] at ex
    obtain ⟨rfl,-⟩:=ex
    have hidx:((tk - 1) / 2).toNat<(((p.hand p.turn).set m.piece.toNat (xp - 1))).length:=by first | omega | (simp; omega)
    have ck:=hcx ((tk - 1) / 2).toNat hidx
    have cf:w4.drew.frozen? ⟨gh,((tk - 1) / 2).toNat,none⟩=false:=hfx ((tk - 1) / 2).toNat
    clear hcx hfx
    obtain ⟨xh,hxh⟩:∃ xh,(((p.hand p.turn).set m.piece.toNat (xp - 1))).getD ((tk - 1) / 2).toNat 0=xh:=⟨_,rfl⟩
    rw [hxh] at ck
    have hxb : -1≤xh∧xh≤1000:=by rw [← hxh]; exact ady.out _
    obtain ⟨akJ,akK⟩:=hxb
    have HXH:=hid hxh
    clear hxh
    obtain ⟨mn,hmn⟩:∃ mn:Int,(if (1000:Int)<xh+1 then 1000 else xh+1)=mn:=⟨_,rfl⟩
    go_upto_region 9 with (fail)
    have ht2:p.turn<2:=by omega
    have hi0:0≤(tk - 1) / 2:=by omega
    have hi1:(tk - 1) / 2<(((p.hand p.turn).length:Nat):Int):=by omega
    have hwr:IntKind.i64.wrap (xh+1)=xh+1:=IntWalk.i64_in _ (by omega)
    have ck0:w4.drew.cell? ⟨gh,((tk - 1) / 2).toNat,none⟩=some (.int .i64 xh):=ck
    refine wp_region_noPanic ?_
    refine bU (S:=(fun w'=>w'.cell? ⟨w.heap.size+1,3,none⟩=some (.int .i64 p.turn)∧w'.cell? ⟨w1.heap.size,1+p.turn.toNat,none⟩=some (.slice (some ⟨gh,0,none⟩) (p.hand p.turn).length ch)∧w'.cell? ⟨gh,((tk - 1) / 2).toNat,none⟩=some (.int .i64 xh))) (L:=[17]) (by kernel_rfl) ⟨p3,oh,ck0⟩ (fun hHeld=>?_)
    refine aJ 0 ?_
    refine aJ 2 ?_
    refine aJ 5 ?_
    refine aJ 6 ?_
    refine aJ 8 ?_
    refine aJ 11 ?_
    refine eH 1 ?_
    refine eH 7 ?_
    refine aJ 3 ?_
    refine aJ 9 ?_
    refine eH 4 ?_
    refine eH 10 ?_
    refine aJ 12 ?_
    refine eH 13 ?_
    refine aJ 14 ?_
    refine aJ 15 ?_
    refine aJ 16 ?_
    refine xU 17 fun K hK=>?_
    go_simp
    refine bg ?_
    intro w8 e8
    have jG:=hid (bG.out.setH WW.out ((tk - 1) / 2).toNat (mn)).drew
    have gG:=hid (aP (Below.setCell bI.out (p:=⟨gh,((tk - 1) / 2).toNat,none⟩) hbh (.int .i64 (mn))))
    rw [← e8] at jG gG
    clear bG bI e8
    have bG:=jG
    have bI:=gG
    clear jG gG
    refine hK.out _ _ ?_
    clear hK K
    refine kW ?_
    clear hHeld ck ck0 cf ht2 hi0 hi1 hwr
    clear m0 m1 m2 p3 p4 r6 o0 oh o3 o4 nJ nP
    have HMN:=hid hmn
    clear hmn
    go_upto_region 10 with (fail)
    have EO:Hid (bH R p m=(((p.hand p.turn).set m.piece.toNat (xp - 1))).set ((tk - 1) / 2).toNat mn):=hid (by rw [HMH.out]; simp only [hkp,hs,IB,if_true,if_false,and_self]; rw [HXP.out]; rw [HXH.out,HMN.out])
    have m0:=(dW.out.below bI.out (by omega)).cell 0 rfl
    have m1:=(dW.out.below bI.out (by omega)).cell 1 rfl
    have m2:=(dW.out.below bI.out (by omega)).cell 2 rfl
    have p3:=(kX.out.below bI.out (by omega)).cell 3 rfl
    have p4:=(kX.out.below bI.out (by omega)).cell 4 rfl
    have r6:=(bD.out.below bI.out (by omega)).cell 6 rfl
    have o0:=bG.out.box.cell 0 rfl
    have oh:=bG.out.ch ht0 ht1
    have o3:=bG.out.box.cell 3 rfl
    have o4:=bG.out.box.cell 4 rfl
    have nJ:=bG.out.box.frozen 3
    have nP:=bG.out.box.frozen 4
    rw [sW.out] at oh
    obtain ⟨mq,La⟩:∃ mq:Int,(if (200:Int)<p.quiet+1 then 200 else p.quiet+1)=mq:=⟨_,rfl⟩
    go_upto_region 11 with (fail)
    clear m0 m1 m2 p3 p4 r6 o0 oh o3 o4 nJ nP
    have HMq:=hid La
    clear La
    have jG:=hid (bG.out.CV mq)
    have gG:=hid (Below.setCell bI.out (p:=⟨w1.heap.size,4,none⟩) hs1' (.int .i64 mq))
    clear bG bI
    generalize (w8.setCell ⟨w1.heap.size,4,none⟩ (.int .i64 mq))=WT at *
    have bG:=jG
    have bI:=gG
    clear jG gG
    have m0:=(dW.out.below bI.out (by omega)).cell 0 rfl
    have m1:=(dW.out.below bI.out (by omega)).cell 1 rfl
    have m2:=(dW.out.below bI.out (by omega)).cell 2 rfl
    have p3:=(kX.out.below bI.out (by omega)).cell 3 rfl
    have p4:=(kX.out.below bI.out (by omega)).cell 4 rfl
    have r6:=(bD.out.below bI.out (by omega)).cell 6 rfl
    have o0:=bG.out.box.cell 0 rfl
    have oh:=bG.out.ch ht0 ht1
    have o3:=bG.out.box.cell 3 rfl
    have o4:=bG.out.box.cell 4 rfl
    have nJ:=bG.out.box.frozen 3
    have nP:=bG.out.box.frozen 4
    rw [sW.out] at oh
    go_upto_region 13 with (fail)
    clear m0 m1 m2 p3 p4 r6 o0 oh o3 o4 nJ nP
    have jG:=hid (bG.out.CV 0)
    have gG:=hid (Below.setCell bI.out (p:=⟨w1.heap.size,4,none⟩) hs1' (.int .i64 0))
    clear bG bI
    generalize (WT.setCell ⟨w1.heap.size,4,none⟩ (.int .i64 0))=wq2 at *
    have bG:=jG
    have bI:=gG
    clear jG gG
    have m0:=(dW.out.below bI.out (by omega)).cell 0 rfl
    have m1:=(dW.out.below bI.out (by omega)).cell 1 rfl
    have m2:=(dW.out.below bI.out (by omega)).cell 2 rfl
    have p3:=(kX.out.below bI.out (by omega)).cell 3 rfl
    have p4:=(kX.out.below bI.out (by omega)).cell 4 rfl
    have r6:=(bD.out.below bI.out (by omega)).cell 6 rfl
    have o0:=bG.out.box.cell 0 rfl
    have oh:=bG.out.ch ht0 ht1
    have o3:=bG.out.box.cell 3 rfl
    have o4:=bG.out.box.cell 4 rfl
    have nJ:=bG.out.box.frozen 3
    have nP:=bG.out.box.frozen 4
    rw [sW.out] at oh
    go_upto_region 14 with (fail)
    clear m0 m1 m2 p3 p4 r6 o0 oh o3 o4 nJ nP
    have jG:=hid (bG.out.Tc (1 - p.turn))
    have gG:=hid (Below.setCell bI.out (p:=⟨w1.heap.size,3,none⟩) hs1' (.int .i64 (1 - p.turn)))
    clear bG bI
    generalize (wq2.setCell ⟨w1.heap.size,3,none⟩ (.int .i64 (1 - p.turn)))=WU at *
    have bG:=jG
    have bI:=gG
    clear jG gG
    have HQ:Hid ((bF R p m).quiet=0):=hid (by rw [HMQ.out,if_pos (.inl IB)])
    have rY:=hid (JK.out.below bI.out (by omega))
    refine wp_region_lit ?_
    refine aB (by rfl) 158 (.tmp 7) (by rfl) w1.heap.size (by rfl) bG.out.box Tryz.underlying158 (by rfl) (by kernel_rfl) ?_
    refine aK (vs:=[(Value.slice (some ⟨gc,0,none⟩) p.cells.length cc),(Value.slice (some ⟨g0,0,none⟩) p.h0.length mZ),(Value.slice (some ⟨g1,0,none⟩) p.h1.length ng),.int .i64 (1 - p.turn),.int .i64 (0)]) (by rfl) 158 (.tmp 6) (.tmp 92) (by rfl) (w.heap.size+1+1+1) (by rfl) (by rfl) rY.out rfl (by kernel_rfl) (by rfl) ?_
    have HS:=hid (rY.out.store (vs:=[(Value.slice (some ⟨gc,0,none⟩) p.cells.length cc),(Value.slice (some ⟨g0,0,none⟩) p.h0.length mZ),(Value.slice (some ⟨g1,0,none⟩) p.h1.length ng),.int .i64 (1 - p.turn),.int .i64 (0)]) rfl)
    have WV:=hid (own_base (aS bG.out.oc (b:=w.heap.size+1+1+1) (by omega) 0 [(Value.slice (some ⟨gc,0,none⟩) p.cells.length cc),(Value.slice (some ⟨g0,0,none⟩) p.h0.length mZ),(Value.slice (some ⟨g1,0,none⟩) p.h1.length ng),.int .i64 (1 - p.turn),.int .i64 (0)]) (show w.heap.size≤w0.heap.size by omega))
    have HR0:=hid (own_base (aS bG.out.o0 (b:=w.heap.size+1+1+1) (by omega) 0 [(Value.slice (some ⟨gc,0,none⟩) p.cells.length cc),(Value.slice (some ⟨g0,0,none⟩) p.h0.length mZ),(Value.slice (some ⟨g1,0,none⟩) p.h1.length ng),.int .i64 (1 - p.turn),.int .i64 (0)]) (show w.heap.size≤w0.heap.size by omega))
    have HR1:=hid (own_base (aS bG.out.o1 (b:=w.heap.size+1+1+1) (by omega) 0 [(Value.slice (some ⟨gc,0,none⟩) p.cells.length cc),(Value.slice (some ⟨g0,0,none⟩) p.h0.length mZ),(Value.slice (some ⟨g1,0,none⟩) p.h1.length ng),.int .i64 (1 - p.turn),.int .i64 (0)]) (show w.heap.size≤w0.heap.size by omega))
    have Io:=hid (below_setCells (aj HB.out bI.out HB.out.size) (show w.heap.size≤w.heap.size+1+1+1 by omega) 0 [(Value.slice (some ⟨gc,0,none⟩) p.cells.length cc),(Value.slice (some ⟨g0,0,none⟩) p.h0.length mZ),(Value.slice (some ⟨g1,0,none⟩) p.h1.length ng),.int .i64 (1 - p.turn),.int .i64 (0)])
    generalize (WU.setCells (w.heap.size+1+1+1) 0 [(Value.slice (some ⟨gc,0,none⟩) p.cells.length cc),(Value.slice (some ⟨g0,0,none⟩) p.h0.length mZ),(Value.slice (some ⟨g1,0,none⟩) p.h1.length ng),.int .i64 (1 - p.turn),.int .i64 (0)])=wf at *
    go_wp2_with fail
    exact bodyPost_ret (dD rfl (by rfl) HS.out Tryz.underlying158 (by rfl) (by kernel_rfl)) rfl ⟨_,_,_,by unfold sH; rw [HQ.out]; rfl,⟨by show World.ownsRow _ _ _ _ _ (dJ p m).length (ints (dJ p m)); rw [ZG.out]; exact WV.out,by show World.ownsRow _ _ _ _ _ (if p.turn=0 then bH R p m else p.h0).length (ints (if p.turn=0 then bH R p m else p.h0)); rw [EO.out]; exact HR0.out,by show World.ownsRow _ _ _ _ _ (if p.turn=0 then p.h1 else bH R p m).length (ints (if p.turn=0 then p.h1 else bH R p m)); rw [EO.out]; exact HR1.out,bG.out.c0,bG.out.c1,bG.out.QF⟩,Io.out⟩
  ·have EO:Hid (bH R p m=((p.hand p.turn).set m.piece.toNat (xp - 1))):=hid (by rw [HMH.out,← HXP.out]; simp [IB,hs])
   have m0:=(dW.out.below bI.out (by omega)).cell 0 rfl
   have m1:=(dW.out.below bI.out (by omega)).cell 1 rfl
   have m2:=(dW.out.below bI.out (by omega)).cell 2 rfl
   have p3:=(kX.out.below bI.out (by omega)).cell 3 rfl
   have p4:=(kX.out.below bI.out (by omega)).cell 4 rfl
   have r6:=(bD.out.below bI.out (by omega)).cell 6 rfl
   have o0:=bG.out.box.cell 0 rfl
   have oh:=bG.out.ch ht0 ht1
   have o3:=bG.out.box.cell 3 rfl
   have o4:=bG.out.box.cell 4 rfl
   have nJ:=bG.out.box.frozen 3
   have nP:=bG.out.box.frozen 4
   rw [sW.out] at oh
   obtain ⟨mq,La⟩:∃ mq:Int,(if (200:Int)<p.quiet+1 then 200 else p.quiet+1)=mq:=⟨_,rfl⟩
   go_upto_region 11 with (fail)
   clear m0 m1 m2 p3 p4 r6 o0 oh o3 o4 nJ nP
   have HMq:=hid La
   clear La
   have jG:=hid (bG.out.CV mq)
   have gG:=hid (Below.setCell bI.out (p:=⟨w1.heap.size,4,none⟩) hs1' (.int .i64 mq))
   clear bG bI
   generalize (w4.setCell ⟨w1.heap.size,4,none⟩ (.int .i64 mq))=WT at *
   have bG:=jG
   have bI:=gG
   clear jG gG
   have m0:=(dW.out.below bI.out (by omega)).cell 0 rfl
   have m1:=(dW.out.below bI.out (by omega)).cell 1 rfl
   have m2:=(dW.out.below bI.out (by omega)).cell 2 rfl
   have p3:=(kX.out.below bI.out (by omega)).cell 3 rfl
   have p4:=(kX.out.below bI.out (by omega)).cell 4 rfl
   have r6:=(bD.out.below bI.out (by omega)).cell 6 rfl
   have o0:=bG.out.box.cell 0 rfl
   have oh:=bG.out.ch ht0 ht1
   have o3:=bG.out.box.cell 3 rfl
   have o4:=bG.out.box.cell 4 rfl
   have nJ:=bG.out.box.frozen 3
   have nP:=bG.out.box.frozen 4
   rw [sW.out] at oh
   go_upto_region 13 with (fail)
   clear m0 m1 m2 p3 p4 r6 o0 oh o3 o4 nJ nP
   have jG:=hid (bG.out.CV 0)
   have gG:=hid (Below.setCell bI.out (p:=⟨w1.heap.size,4,none⟩) hs1' (.int .i64 0))
   clear bG bI
   generalize (WT.setCell ⟨w1.heap.size,4,none⟩ (.int .i64 0))=wq2 at *
   have bG:=jG
   have bI:=gG
   clear jG gG
   have m0:=(dW.out.below bI.out (by omega)).cell 0 rfl
   have m1:=(dW.out.below bI.out (by omega)).cell 1 rfl
   have m2:=(dW.out.below bI.out (by omega)).cell 2 rfl
   have p3:=(kX.out.below bI.out (by omega)).cell 3 rfl
   have p4:=(kX.out.below bI.out (by omega)).cell 4 rfl
   have r6:=(bD.out.below bI.out (by omega)).cell 6 rfl
   have o0:=bG.out.box.cell 0 rfl
   have oh:=bG.out.ch ht0 ht1
   have o3:=bG.out.box.cell 3 rfl
   have o4:=bG.out.box.cell 4 rfl
   have nJ:=bG.out.box.frozen 3
   have nP:=bG.out.box.frozen 4
   rw [sW.out] at oh
   go_upto_region 14 with (fail)
   clear m0 m1 m2 p3 p4 r6 o0 oh o3 o4 nJ nP
   have jG:=hid (bG.out.Tc (1 - p.turn))
   have gG:=hid (Below.setCell bI.out (p:=⟨w1.heap.size,3,none⟩) hs1' (.int .i64 (1 - p.turn)))
   clear bG bI
   generalize (wq2.setCell ⟨w1.heap.size,3,none⟩ (.int .i64 (1 - p.turn)))=WU at *
   have bG:=jG
   have bI:=gG
   clear jG gG
   have HQ:Hid ((bF R p m).quiet=0):=hid (by rw [HMQ.out,if_pos (.inr (by omega))])
   have rY:=hid (JK.out.below bI.out (by omega))
   refine wp_region_lit ?_
   refine aB (by rfl) 158 (.tmp 7) (by rfl) w1.heap.size (by rfl) bG.out.box Tryz.underlying158 (by rfl) (by kernel_rfl) ?_
   refine aK (vs:=[(Value.slice (some ⟨gc,0,none⟩) p.cells.length cc),(Value.slice (some ⟨g0,0,none⟩) p.h0.length mZ),(Value.slice (some ⟨g1,0,none⟩) p.h1.length ng),.int .i64 (1 - p.turn),.int .i64 (0)]) (by rfl) 158 (.tmp 6) (.tmp 92) (by rfl) (w.heap.size+1+1+1) (by rfl) (by rfl) rY.out rfl (by kernel_rfl) (by rfl) ?_
   have HS:=hid (rY.out.store (vs:=[(Value.slice (some ⟨gc,0,none⟩) p.cells.length cc),(Value.slice (some ⟨g0,0,none⟩) p.h0.length mZ),(Value.slice (some ⟨g1,0,none⟩) p.h1.length ng),.int .i64 (1 - p.turn),.int .i64 (0)]) rfl)
   have WV:=hid (own_base (aS bG.out.oc (b:=w.heap.size+1+1+1) (by omega) 0 [(Value.slice (some ⟨gc,0,none⟩) p.cells.length cc),(Value.slice (some ⟨g0,0,none⟩) p.h0.length mZ),(Value.slice (some ⟨g1,0,none⟩) p.h1.length ng),.int .i64 (1 - p.turn),.int .i64 (0)]) (show w.heap.size≤w0.heap.size by omega))
   have HR0:=hid (own_base (aS bG.out.o0 (b:=w.heap.size+1+1+1) (by omega) 0 [(Value.slice (some ⟨gc,0,none⟩) p.cells.length cc),(Value.slice (some ⟨g0,0,none⟩) p.h0.length mZ),(Value.slice (some ⟨g1,0,none⟩) p.h1.length ng),.int .i64 (1 - p.turn),.int .i64 (0)]) (show w.heap.size≤w0.heap.size by omega))
   have HR1:=hid (own_base (aS bG.out.o1 (b:=w.heap.size+1+1+1) (by omega) 0 [(Value.slice (some ⟨gc,0,none⟩) p.cells.length cc),(Value.slice (some ⟨g0,0,none⟩) p.h0.length mZ),(Value.slice (some ⟨g1,0,none⟩) p.h1.length ng),.int .i64 (1 - p.turn),.int .i64 (0)]) (show w.heap.size≤w0.heap.size by omega))
   have Io:=hid (below_setCells (aj HB.out bI.out HB.out.size) (show w.heap.size≤w.heap.size+1+1+1 by omega) 0 [(Value.slice (some ⟨gc,0,none⟩) p.cells.length cc),(Value.slice (some ⟨g0,0,none⟩) p.h0.length mZ),(Value.slice (some ⟨g1,0,none⟩) p.h1.length ng),.int .i64 (1 - p.turn),.int .i64 (0)])
   generalize (WU.setCells (w.heap.size+1+1+1) 0 [(Value.slice (some ⟨gc,0,none⟩) p.cells.length cc),(Value.slice (some ⟨g0,0,none⟩) p.h0.length mZ),(Value.slice (some ⟨g1,0,none⟩) p.h1.length ng),.int .i64 (1 - p.turn),.int .i64 (0)])=wf at *
   go_wp2_with fail
   exact bodyPost_ret (dD rfl (by rfl) HS.out Tryz.underlying158 (by rfl) (by kernel_rfl)) rfl ⟨_,_,_,by unfold sH; rw [HQ.out]; rfl,⟨by show World.ownsRow _ _ _ _ _ (dJ p m).length (ints (dJ p m)); rw [ZG.out]; exact WV.out,by show World.ownsRow _ _ _ _ _ (if p.turn=0 then bH R p m else p.h0).length (ints (if p.turn=0 then bH R p m else p.h0)); rw [EO.out]; exact HR0.out,by show World.ownsRow _ _ _ _ _ (if p.turn=0 then p.h1 else bH R p m).length (ints (if p.turn=0 then p.h1 else bH R p m)); rw [EO.out]; exact HR1.out,bG.out.c0,bG.out.c1,bG.out.QF⟩,Io.out⟩
end Go.Proofs.YteablcielclaeaaGreatDoor
