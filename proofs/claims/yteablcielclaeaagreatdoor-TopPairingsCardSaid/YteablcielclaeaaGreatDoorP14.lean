/- The contract of moves.Make. -/
import Derived.Test.YteablcielclaeaaGreatDoorP11
namespace Go.Proofs.YteablcielclaeaaGreatDoor
open Go.ChangeShapes Go.WideShapes Go.ChangeAt Go.RowKit
set_option linter.unusedVariables false
open Go.Lib (hid)
theorem TY (l:List Int) (k:Nat) (z:Int) (i:Nat):(l.set k z).getD i 0=if k=i∧i<l.length then z else l.getD i 0:=by
 rw [List.getD_eq_getElem?_getD,List.getElem?_set,List.getD_eq_getElem?_getD]
 by_cases h:k=i
 ·subst h
  by_cases h2:k<l.length
  ·simp [h2]
  ·simp [h2]
 ·simp [h]
set_option maxRecDepth 100000 in
set_option maxHeartbeats 4000000 in
theorem Ll (R:aA) (vp vs ve:Value) (p:bf) (vc v0 v1:Value) (m:aB) (w:World) (hp:sH w p vc v0 v1) (K:qg R p) (F:Fits R p m) :
  Calls Tryz.prog 105 #[(.agg #[.string R.name,.int .i64 R.width,.int .i64 R.height,vp,vs,.bool R.falls,.bool R.keeps,ve,.int .i64 R.blocked,.int .i64 R.quiet,.int .i64 R.bC]),(.agg #[vc,v0,v1,.int .i64 p.turn,.int .i64 p.quiet]),.agg #[.int .i64 m.src,.int .i64 m.dst,.int .i64 m.piece]] w (KR R p m w):=by
 have HP:=hid hp
 have hlen:=K.len
 have hnp:=K.r.np
 obtain ⟨hd1,hd2⟩:=F.d
 obtain ⟨hs1,hs2⟩:=F.s
 obtain ⟨hk1,hk2⟩:=F.k
 have atX:=hid K.b0
 have atY:=hid K.b1
 have TK:=hid (K.cell m.dst.toNat)
 obtain ⟨hq1,hq2⟩:=K.qu
 have hl0:=K.l0
 have hl1:=K.l1
 have Xe:=hid hl0
 have yt:=hid hl1
 obtain ⟨ht0,ht1⟩:0≤p.turn∧p.turn≤1:=by have:=K.tu; omega
 have HHL:Hid ((p.hand p.turn).length=R.pieces.length):=hid (by unfold bf.hand; split <;> omega)
 have HHB:Hid (∀ i,0≤(p.hand p.turn).getD i 0∧(p.hand p.turn).getD i 0≤1000):=hid (fun i=>by
  have hb:∀ c∈p.hand p.turn,0≤c∧c≤1000:=by unfold bf.hand; split; exact K.b0; exact K.b1
  by_cases hi:i<(p.hand p.turn).length
  ·rw [List.getD_eq_getElem?_getD,List.getElem?_eq_getElem hi]; exact hb _ (List.getElem_mem hi)
  ·rw [List.getD_eq_getElem?_getD,List.getElem?_eq_none (by omega)]; simp)
 clear hp hl0 hl1
 go_enter Tryz.func105,Tryz.ntmps105
 go_upto_region 1 with (fail)
 refine amB fun w0 B0 B1 B2 B3 fJ hs_=>?_
 have HB:=hid fJ
 have hz0:w.heap.size+1+1+1<w0.heap.size:=by omega
 clear hs_ fJ
 have Fq:=hid (HP.out.below HB.out (Nat.le_refl _))
 have bn:=hid B0
 have kF:=hid B1
 have eF:=hid B2
 have JV:=hid B3
 have a0:=B1.cell 0 rfl
 have a1:=B1.cell 1 rfl
 have a2:=B1.cell 2 rfl
 have a3:=B1.cell 3 rfl
 have a4:=B1.cell 4 rfl
 clear B0 B1 B2 B3
 go_wp2_with fail
 refine (KQ p vc v0 v1 w0 Fq.out (by omega) (by rw [Xe.out]; omega) (by rw [yt.out]; omega)).mono ?_
 rintro e w1 ⟨xc,x0,x1,rfl,hown,hb1⟩
 have HLC:0<p.cells.length:=by omega
 obtain ⟨gc,cc,rfl⟩:=dY hown.1 HLC
 obtain ⟨g0,mV,rfl⟩:=dY hown.2.1 (by rw [Xe.out]; omega)
 obtain ⟨g1,mW,rfl⟩:=dY hown.2.2.1 (by rw [yt.out]; omega)
 clear a0 a1 a2 a3 a4
 unfold sG
 go_upto_region 2 with (fail)
 have hs1':=hb1.size
 have bD:Hid (Hold w0.heap.size (w1.alloc (.cells #[(Value.slice (some ⟨gc,0,none⟩) p.cells.length cc),(Value.slice (some ⟨g0,0,none⟩) p.h0.length mV),(Value.slice (some ⟨g1,0,none⟩) p.h1.length mW),.int .i64 p.turn,.int .i64 p.quiet] 158)) w1.heap.size p.cells (L0 p.turn (p.hand p.turn) p.h0) (L1 p.turn (p.hand p.turn) p.h1) (Value.slice (some ⟨gc,0,none⟩) p.cells.length cc) (Value.slice (some ⟨g0,0,none⟩) p.h0.length mV) (Value.slice (some ⟨g1,0,none⟩) p.h1.length mW) p.turn p.quiet):=hid (by
  have e0:L0 p.turn (p.hand p.turn) p.h0=p.h0:=by unfold L0 bf.hand; split <;> rfl
  have e1:L1 p.turn (p.hand p.turn) p.h1=p.h1:=by unfold L1 bf.hand; split <;> rfl
  rw [e0,e1]
  exact ⟨Box.new' w1 w1.heap.size [(Value.slice (some ⟨gc,0,none⟩) p.cells.length cc),(Value.slice (some ⟨g0,0,none⟩) p.h0.length mV),(Value.slice (some ⟨g1,0,none⟩) p.h1.length mW),.int .i64 p.turn,.int .i64 p.quiet] _ rfl,hown.1.alloc _,hown.2.1.alloc _,hown.2.2.1.alloc _,hown.2.2.2.1,hown.2.2.2.2.1,hown.2.2.2.2.2,fun k hk=>by
   rcases hk with hk | hk | hk
   ·have:=(hown.1.lt k hk).2; omega
   ·have:=(hown.2.1.lt k hk).2; omega
   ·have:=(hown.2.2.1.lt k hk).2; omega⟩)
 have bF:Hid (Below w0.heap.size w0 (w1.alloc (.cells #[(Value.slice (some ⟨gc,0,none⟩) p.cells.length cc),(Value.slice (some ⟨g0,0,none⟩) p.h0.length mV),(Value.slice (some ⟨g1,0,none⟩) p.h1.length mW),.int .i64 p.turn,.int .i64 p.quiet] 158))):=hid (hb1.alloc hs1' _)
 clear hown hb1
 generalize (w1.alloc (.cells #[(Value.slice (some ⟨gc,0,none⟩) p.cells.length cc),(Value.slice (some ⟨g0,0,none⟩) p.h0.length mV),(Value.slice (some ⟨g1,0,none⟩) p.h1.length mW),.int .i64 p.turn,.int .i64 p.quiet] 158))=w2 at *
 have hgc:=(bD.out.oc.lt gc rfl).2
 have hbc:=(bD.out.oc.lt gc rfl).1
 obtain ⟨gh,ch,ahP,hgh,hbh,-,-⟩:=sS bD.out.oh (by rw [HHL.out]; omega)
 have su:=hid ahP
 clear ahP
 have hzb:=bD.out.box.lt
 have m0:=(eF.out.below bF.out (by omega)).cell 0 rfl
 have m1:=(eF.out.below bF.out (by omega)).cell 1 rfl
 have m2:=(eF.out.below bF.out (by omega)).cell 2 rfl
 have p3:=(kF.out.below bF.out (by omega)).cell 3 rfl
 have p4:=(kF.out.below bF.out (by omega)).cell 4 rfl
 have r6:=(bn.out.below bF.out (by omega)).cell 6 rfl
 have o0:=bD.out.box.cell 0 rfl
 have oh:=bD.out.ch ht0 ht1
 have o3:=bD.out.box.cell 3 rfl
 have o4:=bD.out.box.cell 4 rfl
 have nD:=bD.out.box.frozen 3
 have nN:=bD.out.box.frozen 4
 rw [su.out] at oh
 obtain ⟨gx,cx,ex,hgx,hbx,hcx,hfx⟩:=sS bD.out.oc HLC
 simp only [Value.slice.injEq,Option.some.injEq,Addr.mk.injEq,and_true,true_and] at ex
 obtain ⟨rfl,-⟩:=ex
 have hck:=hcx m.dst.toNat (by omega)
 obtain ⟨amX,hcb2⟩:=TK.out
 obtain ⟨tk,htk⟩:∃ tk,p.cells.getD m.dst.toNat 0=tk:=⟨_,rfl⟩
 rw [htk] at hck amX hcb2
 clear hcx hfx
 have Xp:=hid htk
 clear htk
 go_upto_region 3 with (fail)
 clear hck
 have HMC:Hid (dP p m=(if 0≤m.src then p.cells.set m.src.toNat 0 else p.cells).set m.dst.toNat (2 * m.piece+p.turn+1)):=hid rfl
 have HMH:Hid (bG R p m=(let h1:=if 0≤m.src then p.hand p.turn else (p.hand p.turn).set m.piece.toNat ((p.hand p.turn).getD m.piece.toNat 0 - 1); if 0<tk∧R.keeps=true then h1.set ((tk - 1) / 2).toNat (if 1000<h1.getD ((tk - 1) / 2).toNat 0+1 then 1000 else h1.getD ((tk - 1) / 2).toNat 0+1) else h1)):=hid (by rw [← Xp.out]; rfl)
 have HMQ:Hid ((bM R p m).quiet=if 0<tk∨m.src<0 then 0 else if 200<p.quiet+1 then 200 else p.quiet+1):=hid (by rw [← Xp.out]; rfl)
 have hhg:R.pieces.length≤(p.hand p.turn).length:=by rw [HHL.out]; exact Nat.le_refl _
 by_cases hs:0≤m.src
 ·have HCS:Hid (dP p m=(p.cells.set m.src.toNat 0).set m.dst.toNat (2 * m.piece+p.turn+1)):=hid (by rw [HMC.out,if_pos hs])
  obtain ⟨gx,cx,ex,hgx,hbx,hcx,hfx⟩:=sS bD.out.oc HLC
  simp only [Value.slice.injEq,Option.some.injEq,Addr.mk.injEq,and_true,true_and] at ex
  obtain ⟨rfl,-⟩:=ex
  have ck:=hcx m.src.toNat (by omega)
  have cf:=hfx m.src.toNat
  clear hcx hfx
  go_upto_region 6 with (fail)
  clear ck cf
  clear m0 m1 m2 p3 p4 r6 o0 oh o3 o4 nD nN
  have jD:=hid (bD.out.aeA (c:=cc) rfl m.src.toNat 0)
  have fM:=hid (Below.setCell bF.out (p:=⟨gc,m.src.toNat,none⟩) hbc (.int .i64 0))
  clear bD bF
  generalize (w2.setCell ⟨gc,m.src.toNat,none⟩ (.int .i64 0))=w3 at *
  have bD:=jD
  have bF:=fM
  clear jD fM
  have aeH:Hid (∀ i,-1≤(p.hand p.turn).getD i 0∧(p.hand p.turn).getD i 0≤1000):=hid (fun i=>by have:=HHB.out i; omega)
  have aeI:Hid ((Value.slice (some ⟨gc,0,none⟩) p.cells.length cc)=.slice (some ⟨gc,0,none⟩) (p.cells.set m.src.toNat 0).length cc):=hid (by simp)
  have m0:=(eF.out.below bF.out (by omega)).cell 0 rfl
  have m1:=(eF.out.below bF.out (by omega)).cell 1 rfl
  have m2:=(eF.out.below bF.out (by omega)).cell 2 rfl
  have p3:=(kF.out.below bF.out (by omega)).cell 3 rfl
  have p4:=(kF.out.below bF.out (by omega)).cell 4 rfl
  have r6:=(bn.out.below bF.out (by omega)).cell 6 rfl
  have o0:=bD.out.box.cell 0 rfl
  have oh:=bD.out.ch ht0 ht1
  have o3:=bD.out.box.cell 3 rfl
  have o4:=bD.out.box.cell 4 rfl
  have nD:=bD.out.box.frozen 3
  have nN:=bD.out.box.frozen 4
  rw [su.out] at oh
  obtain ⟨gx,cx,ex,hgx,hbx,hcx,hfx⟩:=sS bD.out.oc (by first | omega | (simp; omega))
  simp only [Value.slice.injEq,Option.some.injEq,Addr.mk.injEq,and_true] at ex
  obtain ⟨rfl,-⟩:=ex
  have ck:=hcx m.dst.toNat (by first | omega | (simp; omega))
  have cf:=hfx m.dst.toNat
  clear hcx hfx
  go_upto_region 7 with (fail)
  clear ck cf
  clear m0 m1 m2 p3 p4 r6 o0 oh o3 o4 nD nN
  have jD:=hid (bD.out.aeA aeI.out m.dst.toNat (2 * m.piece+p.turn+1))
  have fM:=hid (Below.setCell bF.out (p:=⟨gc,m.dst.toNat,none⟩) hbc (.int .i64 (2 * m.piece+p.turn+1)))
  clear bD bF
  generalize (w3.setCell ⟨gc,m.dst.toNat,none⟩ (.int .i64 (2 * m.piece+p.turn+1)))=w4 at *
  have bD:=jD
  have bF:=fM
  clear jD fM
  by_cases IG:0<tk
  ·cases hkp:R.keeps
   ·have E5:Hid (bG R p m=(p.hand p.turn)):=hid (by rw [HMH.out]; simp [hkp,hs])
    rw [hkp] at bn
    have m0:=(eF.out.below bF.out (by omega)).cell 0 rfl
    have m1:=(eF.out.below bF.out (by omega)).cell 1 rfl
    have m2:=(eF.out.below bF.out (by omega)).cell 2 rfl
    have p3:=(kF.out.below bF.out (by omega)).cell 3 rfl
    have p4:=(kF.out.below bF.out (by omega)).cell 4 rfl
    have r6:=(bn.out.below bF.out (by omega)).cell 6 rfl
    have o0:=bD.out.box.cell 0 rfl
    have oh:=bD.out.ch ht0 ht1
    have o3:=bD.out.box.cell 3 rfl
    have o4:=bD.out.box.cell 4 rfl
    have nD:=bD.out.box.frozen 3
    have nN:=bD.out.box.frozen 4
    rw [su.out] at oh
    obtain ⟨mq,Lm⟩:∃ mq:Int,(if (200:Int)<p.quiet+1 then 200 else p.quiet+1)=mq:=⟨_,rfl⟩
    go_upto_region 11 with (fail)
    clear m0 m1 m2 p3 p4 r6 o0 oh o3 o4 nD nN
    have HMq:=hid Lm
    clear Lm
    have jD:=hid (bD.out.Dk mq)
    have fM:=hid (Below.setCell bF.out (p:=⟨w1.heap.size,4,none⟩) hs1' (.int .i64 mq))
    clear bD bF
    generalize (w4.setCell ⟨w1.heap.size,4,none⟩ (.int .i64 mq))=XF at *
    have bD:=jD
    have bF:=fM
    clear jD fM
    have m0:=(eF.out.below bF.out (by omega)).cell 0 rfl
    have m1:=(eF.out.below bF.out (by omega)).cell 1 rfl
    have m2:=(eF.out.below bF.out (by omega)).cell 2 rfl
    have p3:=(kF.out.below bF.out (by omega)).cell 3 rfl
    have p4:=(kF.out.below bF.out (by omega)).cell 4 rfl
    have r6:=(bn.out.below bF.out (by omega)).cell 6 rfl
    have o0:=bD.out.box.cell 0 rfl
    have oh:=bD.out.ch ht0 ht1
    have o3:=bD.out.box.cell 3 rfl
    have o4:=bD.out.box.cell 4 rfl
    have nD:=bD.out.box.frozen 3
    have nN:=bD.out.box.frozen 4
    rw [su.out] at oh
    go_upto_region 13 with (fail)
    clear m0 m1 m2 p3 p4 r6 o0 oh o3 o4 nD nN
    have jD:=hid (bD.out.Dk 0)
    have fM:=hid (Below.setCell bF.out (p:=⟨w1.heap.size,4,none⟩) hs1' (.int .i64 0))
    clear bD bF
    generalize (XF.setCell ⟨w1.heap.size,4,none⟩ (.int .i64 0))=wq2 at *
    have bD:=jD
    have bF:=fM
    clear jD fM
    have m0:=(eF.out.below bF.out (by omega)).cell 0 rfl
    have m1:=(eF.out.below bF.out (by omega)).cell 1 rfl
    have m2:=(eF.out.below bF.out (by omega)).cell 2 rfl
    have p3:=(kF.out.below bF.out (by omega)).cell 3 rfl
    have p4:=(kF.out.below bF.out (by omega)).cell 4 rfl
    have r6:=(bn.out.below bF.out (by omega)).cell 6 rfl
    have o0:=bD.out.box.cell 0 rfl
    have oh:=bD.out.ch ht0 ht1
    have o3:=bD.out.box.cell 3 rfl
    have o4:=bD.out.box.cell 4 rfl
    have nD:=bD.out.box.frozen 3
    have nN:=bD.out.box.frozen 4
    rw [su.out] at oh
    go_upto_region 14 with (fail)
    clear m0 m1 m2 p3 p4 r6 o0 oh o3 o4 nD nN
    have jD:=hid (bD.out.TP (1 - p.turn))
    have fM:=hid (Below.setCell bF.out (p:=⟨w1.heap.size,3,none⟩) hs1' (.int .i64 (1 - p.turn)))
    clear bD bF
    generalize (wq2.setCell ⟨w1.heap.size,3,none⟩ (.int .i64 (1 - p.turn)))=XG at *
    have bD:=jD
    have bF:=fM
    clear jD fM
    have HQ:Hid ((bM R p m).quiet=0):=hid (by rw [HMQ.out,if_pos (.inl IG)])
    have xY:=hid (JV.out.below bF.out (by omega))
    refine wp_region_lit ?_
    refine aH (by rfl) 158 (.tmp 7) (by rfl) w1.heap.size (by rfl) bD.out.box Tryz.underlying158 (by rfl) (by kernel_rfl) ?_
    refine aT (vs:=[(Value.slice (some ⟨gc,0,none⟩) p.cells.length cc),(Value.slice (some ⟨g0,0,none⟩) p.h0.length mV),(Value.slice (some ⟨g1,0,none⟩) p.h1.length mW),.int .i64 (1 - p.turn),.int .i64 (0)]) (by rfl) 158 (.tmp 6) (.tmp 92) (by rfl) (w.heap.size+1+1+1) (by rfl) (by rfl) xY.out rfl (by kernel_rfl) (by rfl) ?_
    have HS:=hid (xY.out.store (vs:=[(Value.slice (some ⟨gc,0,none⟩) p.cells.length cc),(Value.slice (some ⟨g0,0,none⟩) p.h0.length mV),(Value.slice (some ⟨g1,0,none⟩) p.h1.length mW),.int .i64 (1 - p.turn),.int .i64 (0)]) rfl)
    have RD:=hid (own_base (aN bD.out.oc (b:=w.heap.size+1+1+1) (by omega) 0 [(Value.slice (some ⟨gc,0,none⟩) p.cells.length cc),(Value.slice (some ⟨g0,0,none⟩) p.h0.length mV),(Value.slice (some ⟨g1,0,none⟩) p.h1.length mW),.int .i64 (1 - p.turn),.int .i64 (0)]) (show w.heap.size≤w0.heap.size by omega))
    have HR0:=hid (own_base (aN bD.out.o0 (b:=w.heap.size+1+1+1) (by omega) 0 [(Value.slice (some ⟨gc,0,none⟩) p.cells.length cc),(Value.slice (some ⟨g0,0,none⟩) p.h0.length mV),(Value.slice (some ⟨g1,0,none⟩) p.h1.length mW),.int .i64 (1 - p.turn),.int .i64 (0)]) (show w.heap.size≤w0.heap.size by omega))
    have HR1:=hid (own_base (aN bD.out.o1 (b:=w.heap.size+1+1+1) (by omega) 0 [(Value.slice (some ⟨gc,0,none⟩) p.cells.length cc),(Value.slice (some ⟨g0,0,none⟩) p.h0.length mV),(Value.slice (some ⟨g1,0,none⟩) p.h1.length mW),.int .i64 (1 - p.turn),.int .i64 (0)]) (show w.heap.size≤w0.heap.size by omega))
    have Ir:=hid (below_setCells (ak HB.out bF.out HB.out.size) (show w.heap.size≤w.heap.size+1+1+1 by omega) 0 [(Value.slice (some ⟨gc,0,none⟩) p.cells.length cc),(Value.slice (some ⟨g0,0,none⟩) p.h0.length mV),(Value.slice (some ⟨g1,0,none⟩) p.h1.length mW),.int .i64 (1 - p.turn),.int .i64 (0)])
    generalize (XG.setCells (w.heap.size+1+1+1) 0 [(Value.slice (some ⟨gc,0,none⟩) p.cells.length cc),(Value.slice (some ⟨g0,0,none⟩) p.h0.length mV),(Value.slice (some ⟨g1,0,none⟩) p.h1.length mW),.int .i64 (1 - p.turn),.int .i64 (0)])=wf at *
    go_wp2_with fail
    exact bodyPost_ret (dJ rfl (by rfl) HS.out Tryz.underlying158 (by rfl) (by kernel_rfl)) rfl ⟨_,_,_,by unfold sG; rw [HQ.out]; rfl,⟨by show World.ownsRow _ _ _ _ _ (dP p m).length (ints (dP p m)); rw [HCS.out]; exact RD.out,by show World.ownsRow _ _ _ _ _ (if p.turn=0 then bG R p m else p.h0).length (ints (if p.turn=0 then bG R p m else p.h0)); rw [E5.out]; exact HR0.out,by show World.ownsRow _ _ _ _ _ (if p.turn=0 then p.h1 else bG R p m).length (ints (if p.turn=0 then p.h1 else bG R p m)); rw [E5.out]; exact HR1.out,bD.out.c0,bD.out.c1,bD.out.Ru⟩,Ir.out⟩
   ·rw [hkp] at bn
    have XH:Hid ((if p.turn=0 then (Value.slice (some ⟨g0,0,none⟩) p.h0.length mV) else (Value.slice (some ⟨g1,0,none⟩) p.h1.length mW))=.slice (some ⟨gh,0,none⟩) ((p.hand p.turn)).length ch):=hid (by first | exact su.out | (rw [su.out]; simp))
    have m0:=(eF.out.below bF.out (by omega)).cell 0 rfl
    have m1:=(eF.out.below bF.out (by omega)).cell 1 rfl
    have m2:=(eF.out.below bF.out (by omega)).cell 2 rfl
    have p3:=(kF.out.below bF.out (by omega)).cell 3 rfl
    have p4:=(kF.out.below bF.out (by omega)).cell 4 rfl
    have r6:=(bn.out.below bF.out (by omega)).cell 6 rfl
    have o0:=bD.out.box.cell 0 rfl
    have oh:=bD.out.ch ht0 ht1
    have o3:=bD.out.box.cell 3 rfl
    have o4:=bD.out.box.cell 4 rfl
    have nD:=bD.out.box.frozen 3
    have nN:=bD.out.box.frozen 4
    rw [su.out] at oh
    obtain ⟨gx,cx,ex,hgx,hbx,hcx,hfx⟩:=sS bD.out.oh (by first | omega | (simp; omega))
    rw [su.out] at ex
    simp only [Value.slice.injEq,Option.some.injEq,Addr.mk.injEq,and_true,true_and] at ex
    obtain ⟨rfl,-⟩:=ex
    have hidx:((tk - 1) / 2).toNat<((p.hand p.turn)).length:=by first | omega | (simp; omega)
    have ck:=hcx ((tk - 1) / 2).toNat hidx
    have cf:w4.drew.frozen? ⟨gh,((tk - 1) / 2).toNat,none⟩=false:=hfx ((tk - 1) / 2).toNat
    clear hcx hfx
    obtain ⟨xh,hxh⟩:∃ xh,((p.hand p.turn)).getD ((tk - 1) / 2).toNat 0=xh:=⟨_,rfl⟩
    rw [hxh] at ck
    have hxb : -1≤xh∧xh≤1000:=by rw [← hxh]; exact aeH.out _
    obtain ⟨amY,amZ⟩:=hxb
    have HXH:=hid hxh
    clear hxh
    obtain ⟨mn,hmn⟩:∃ mn:Int,(if (1000:Int)<xh+1 then 1000 else xh+1)=mn:=⟨_,rfl⟩
    go_upto_region 9 with (fail)
    have ht2:p.turn<2:=by omega
    have hi0:0≤(tk - 1) / 2:=by omega
    have hi1:(tk - 1) / 2<(((p.hand p.turn).length:Nat):Int):=by omega
    have hwr:IntKind.i64.wrap (xh+1)=xh+1:=IntWalk.i64_in _ (by omega)
    have ck0:w4.drew.cell? ⟨gh,((tk - 1) / 2).toNat,none⟩=some (.int .i64 xh):=ck
    refine wp_region_noPanic ?_
    refine bI (S:=(fun w'=>w'.cell? ⟨w.heap.size+1,3,none⟩=some (.int .i64 p.turn)∧w'.cell? ⟨w1.heap.size,1+p.turn.toNat,none⟩=some (.slice (some ⟨gh,0,none⟩) (p.hand p.turn).length ch)∧w'.cell? ⟨gh,((tk - 1) / 2).toNat,none⟩=some (.int .i64 xh))) (L:=[17]) (by kernel_rfl) ⟨p3,oh,ck0⟩ (fun hHeld=>?_)
    refine aC 0 ?_
    refine aC 2 ?_
    refine aC 5 ?_
    refine aC 6 ?_
    refine aC 8 ?_
    refine aC 11 ?_
    refine dV 1 ?_
    refine dV 7 ?_
    refine aC 3 ?_
    refine aC 9 ?_
    refine dV 4 ?_
    refine dV 10 ?_
    refine aC 12 ?_
    refine dV 13 ?_
    refine aC 14 ?_
    refine aC 15 ?_
    refine aC 16 ?_
    refine rP 17 fun K hK=>?_
    go_simp
    refine aQ ?_
    intro w8 e8
    have jD:=hid (bD.out.setH XH.out ((tk - 1) / 2).toNat (mn)).drew
    have fM:=hid (aK (Below.setCell bF.out (p:=⟨gh,((tk - 1) / 2).toNat,none⟩) hbh (.int .i64 (mn))))
    rw [← e8] at jD fM
    clear bD bF e8
    have bD:=jD
    have bF:=fM
    clear jD fM
    refine hK.out _ _ ?_
    clear hK K
    refine jC ?_
    clear hHeld ck ck0 cf ht2 hi0 hi1 hwr
    clear m0 m1 m2 p3 p4 r6 o0 oh o3 o4 nD nN
    have HMN:=hid hmn
    clear hmn
    go_upto_region 10 with (fail)
    have E5:Hid (bG R p m=((p.hand p.turn)).set ((tk - 1) / 2).toNat mn):=hid (by rw [HMH.out]; simp only [hkp,hs,IG,if_true,and_self]; rw [HXH.out,HMN.out])
    have m0:=(eF.out.below bF.out (by omega)).cell 0 rfl
    have m1:=(eF.out.below bF.out (by omega)).cell 1 rfl
    have m2:=(eF.out.below bF.out (by omega)).cell 2 rfl
    have p3:=(kF.out.below bF.out (by omega)).cell 3 rfl
    have p4:=(kF.out.below bF.out (by omega)).cell 4 rfl
    have r6:=(bn.out.below bF.out (by omega)).cell 6 rfl
    have o0:=bD.out.box.cell 0 rfl
    have oh:=bD.out.ch ht0 ht1
    have o3:=bD.out.box.cell 3 rfl
    have o4:=bD.out.box.cell 4 rfl
    have nD:=bD.out.box.frozen 3
    have nN:=bD.out.box.frozen 4
    rw [su.out] at oh
    obtain ⟨mq,Lm⟩:∃ mq:Int,(if (200:Int)<p.quiet+1 then 200 else p.quiet+1)=mq:=⟨_,rfl⟩
    go_upto_region 11 with (fail)
    clear m0 m1 m2 p3 p4 r6 o0 oh o3 o4 nD nN
    have HMq:=hid Lm
    clear Lm
    have jD:=hid (bD.out.Dk mq)
    have fM:=hid (Below.setCell bF.out (p:=⟨w1.heap.size,4,none⟩) hs1' (.int .i64 mq))
    clear bD bF
    generalize (w8.setCell ⟨w1.heap.size,4,none⟩ (.int .i64 mq))=XF at *
    have bD:=jD
    have bF:=fM
    clear jD fM
    have m0:=(eF.out.below bF.out (by omega)).cell 0 rfl
    have m1:=(eF.out.below bF.out (by omega)).cell 1 rfl
    have m2:=(eF.out.below bF.out (by omega)).cell 2 rfl
    have p3:=(kF.out.below bF.out (by omega)).cell 3 rfl
    have p4:=(kF.out.below bF.out (by omega)).cell 4 rfl
    have r6:=(bn.out.below bF.out (by omega)).cell 6 rfl
    have o0:=bD.out.box.cell 0 rfl
    have oh:=bD.out.ch ht0 ht1
    have o3:=bD.out.box.cell 3 rfl
    have o4:=bD.out.box.cell 4 rfl
    have nD:=bD.out.box.frozen 3
    have nN:=bD.out.box.frozen 4
    rw [su.out] at oh
    go_upto_region 13 with (fail)
    clear m0 m1 m2 p3 p4 r6 o0 oh o3 o4 nD nN
    have jD:=hid (bD.out.Dk 0)
    have fM:=hid (Below.setCell bF.out (p:=⟨w1.heap.size,4,none⟩) hs1' (.int .i64 0))
    clear bD bF
    generalize (XF.setCell ⟨w1.heap.size,4,none⟩ (.int .i64 0))=wq2 at *
    have bD:=jD
    have bF:=fM
    clear jD fM
    have m0:=(eF.out.below bF.out (by omega)).cell 0 rfl
    have m1:=(eF.out.below bF.out (by omega)).cell 1 rfl
    have m2:=(eF.out.below bF.out (by omega)).cell 2 rfl
    have p3:=(kF.out.below bF.out (by omega)).cell 3 rfl
    have p4:=(kF.out.below bF.out (by omega)).cell 4 rfl
    have r6:=(bn.out.below bF.out (by omega)).cell 6 rfl
    have o0:=bD.out.box.cell 0 rfl
    have oh:=bD.out.ch ht0 ht1
    have o3:=bD.out.box.cell 3 rfl
    have o4:=bD.out.box.cell 4 rfl
    have nD:=bD.out.box.frozen 3
    have nN:=bD.out.box.frozen 4
    rw [su.out] at oh
    go_upto_region 14 with (fail)
    clear m0 m1 m2 p3 p4 r6 o0 oh o3 o4 nD nN
    have jD:=hid (bD.out.TP (1 - p.turn))
    have fM:=hid (Below.setCell bF.out (p:=⟨w1.heap.size,3,none⟩) hs1' (.int .i64 (1 - p.turn)))
    clear bD bF
    generalize (wq2.setCell ⟨w1.heap.size,3,none⟩ (.int .i64 (1 - p.turn)))=XG at *
    have bD:=jD
    have bF:=fM
    clear jD fM
    have HQ:Hid ((bM R p m).quiet=0):=hid (by rw [HMQ.out,if_pos (.inl IG)])
    have xY:=hid (JV.out.below bF.out (by omega))
    refine wp_region_lit ?_
    refine aH (by rfl) 158 (.tmp 7) (by rfl) w1.heap.size (by rfl) bD.out.box Tryz.underlying158 (by rfl) (by kernel_rfl) ?_
    refine aT (vs:=[(Value.slice (some ⟨gc,0,none⟩) p.cells.length cc),(Value.slice (some ⟨g0,0,none⟩) p.h0.length mV),(Value.slice (some ⟨g1,0,none⟩) p.h1.length mW),.int .i64 (1 - p.turn),.int .i64 (0)]) (by rfl) 158 (.tmp 6) (.tmp 92) (by rfl) (w.heap.size+1+1+1) (by rfl) (by rfl) xY.out rfl (by kernel_rfl) (by rfl) ?_
    have HS:=hid (xY.out.store (vs:=[(Value.slice (some ⟨gc,0,none⟩) p.cells.length cc),(Value.slice (some ⟨g0,0,none⟩) p.h0.length mV),(Value.slice (some ⟨g1,0,none⟩) p.h1.length mW),.int .i64 (1 - p.turn),.int .i64 (0)]) rfl)
    have RD:=hid (own_base (aN bD.out.oc (b:=w.heap.size+1+1+1) (by omega) 0 [(Value.slice (some ⟨gc,0,none⟩) p.cells.length cc),(Value.slice (some ⟨g0,0,none⟩) p.h0.length mV),(Value.slice (some ⟨g1,0,none⟩) p.h1.length mW),.int .i64 (1 - p.turn),.int .i64 (0)]) (show w.heap.size≤w0.heap.size by omega))
    have HR0:=hid (own_base (aN bD.out.o0 (b:=w.heap.size+1+1+1) (by omega) 0 [(Value.slice (some ⟨gc,0,none⟩) p.cells.length cc),(Value.slice (some ⟨g0,0,none⟩) p.h0.length mV),(Value.slice (some ⟨g1,0,none⟩) p.h1.length mW),.int .i64 (1 - p.turn),.int .i64 (0)]) (show w.heap.size≤w0.heap.size by omega))
    have HR1:=hid (own_base (aN bD.out.o1 (b:=w.heap.size+1+1+1) (by omega) 0 [(Value.slice (some ⟨gc,0,none⟩) p.cells.length cc),(Value.slice (some ⟨g0,0,none⟩) p.h0.length mV),(Value.slice (some ⟨g1,0,none⟩) p.h1.length mW),.int .i64 (1 - p.turn),.int .i64 (0)]) (show w.heap.size≤w0.heap.size by omega))
    have Ir:=hid (below_setCells (ak HB.out bF.out HB.out.size) (show w.heap.size≤w.heap.size+1+1+1 by omega) 0 [(Value.slice (some ⟨gc,0,none⟩) p.cells.length cc),(Value.slice (some ⟨g0,0,none⟩) p.h0.length mV),(Value.slice (some ⟨g1,0,none⟩) p.h1.length mW),.int .i64 (1 - p.turn),.int .i64 (0)])
    generalize (XG.setCells (w.heap.size+1+1+1) 0 [(Value.slice (some ⟨gc,0,none⟩) p.cells.length cc),(Value.slice (some ⟨g0,0,none⟩) p.h0.length mV),(Value.slice (some ⟨g1,0,none⟩) p.h1.length mW),.int .i64 (1 - p.turn),.int .i64 (0)])=wf at *
    go_wp2_with fail
    exact bodyPost_ret (dJ rfl (by rfl) HS.out Tryz.underlying158 (by rfl) (by kernel_rfl)) rfl ⟨_,_,_,by unfold sG; rw [HQ.out]; rfl,⟨by show World.ownsRow _ _ _ _ _ (dP p m).length (ints (dP p m)); rw [HCS.out]; exact RD.out,by show World.ownsRow _ _ _ _ _ (if p.turn=0 then bG R p m else p.h0).length (ints (if p.turn=0 then bG R p m else p.h0)); rw [E5.out]; exact HR0.out,by show World.ownsRow _ _ _ _ _ (if p.turn=0 then p.h1 else bG R p m).length (ints (if p.turn=0 then p.h1 else bG R p m)); rw [E5.out]; exact HR1.out,bD.out.c0,bD.out.c1,bD.out.Ru⟩,Ir.out⟩
  ·have E5:Hid (bG R p m=(p.hand p.turn)):=hid (by rw [HMH.out]; simp [IG,hs])
   have m0:=(eF.out.below bF.out (by omega)).cell 0 rfl
   have m1:=(eF.out.below bF.out (by omega)).cell 1 rfl
   have m2:=(eF.out.below bF.out (by omega)).cell 2 rfl
   have p3:=(kF.out.below bF.out (by omega)).cell 3 rfl
   have p4:=(kF.out.below bF.out (by omega)).cell 4 rfl
   have r6:=(bn.out.below bF.out (by omega)).cell 6 rfl
   have o0:=bD.out.box.cell 0 rfl
   have oh:=bD.out.ch ht0 ht1
   have o3:=bD.out.box.cell 3 rfl
   have o4:=bD.out.box.cell 4 rfl
   have nD:=bD.out.box.frozen 3
   have nN:=bD.out.box.frozen 4
   rw [su.out] at oh
   obtain ⟨mq,Lm⟩:∃ mq:Int,(if (200:Int)<p.quiet+1 then 200 else p.quiet+1)=mq:=⟨_,rfl⟩
   go_upto_region 11 with (fail)
   clear m0 m1 m2 p3 p4 r6 o0 oh o3 o4 nD nN
   have HMq:=hid Lm
   clear Lm
   have jD:=hid (bD.out.Dk mq)
   have fM:=hid (Below.setCell bF.out (p:=⟨w1.heap.size,4,none⟩) hs1' (.int .i64 mq))
   clear bD bF
   generalize (w4.setCell ⟨w1.heap.size,4,none⟩ (.int .i64 mq))=XF at *
   have bD:=jD
   have bF:=fM
   clear jD fM
   have m0:=(eF.out.below bF.out (by omega)).cell 0 rfl
   have m1:=(eF.out.below bF.out (by omega)).cell 1 rfl
   have m2:=(eF.out.below bF.out (by omega)).cell 2 rfl
   have p3:=(kF.out.below bF.out (by omega)).cell 3 rfl
   have p4:=(kF.out.below bF.out (by omega)).cell 4 rfl
   have r6:=(bn.out.below bF.out (by omega)).cell 6 rfl
   have o0:=bD.out.box.cell 0 rfl
   have oh:=bD.out.ch ht0 ht1
   have o3:=bD.out.box.cell 3 rfl
   have o4:=bD.out.box.cell 4 rfl
   have nD:=bD.out.box.frozen 3
   have nN:=bD.out.box.frozen 4
   rw [su.out] at oh
   go_upto_region 13 with (fail)
   clear m0 m1 m2 p3 p4 r6 o0 oh o3 o4 nD nN
   have m0:=(eF.out.below bF.out (by omega)).cell 0 rfl
   have m1:=(eF.out.below bF.out (by omega)).cell 1 rfl
   have m2:=(eF.out.below bF.out (by omega)).cell 2 rfl
   have p3:=(kF.out.below bF.out (by omega)).cell 3 rfl
   have p4:=(kF.out.below bF.out (by omega)).cell 4 rfl
   have r6:=(bn.out.below bF.out (by omega)).cell 6 rfl
   have o0:=bD.out.box.cell 0 rfl
   have oh:=bD.out.ch ht0 ht1
   have o3:=bD.out.box.cell 3 rfl
   have o4:=bD.out.box.cell 4 rfl
   have nD:=bD.out.box.frozen 3
   have nN:=bD.out.box.frozen 4
   rw [su.out] at oh
   go_upto_region 14 with (fail)
   clear m0 m1 m2 p3 p4 r6 o0 oh o3 o4 nD nN
   have jD:=hid (bD.out.TP (1 - p.turn))
   have fM:=hid (Below.setCell bF.out (p:=⟨w1.heap.size,3,none⟩) hs1' (.int .i64 (1 - p.turn)))
   clear bD bF
   generalize (XF.setCell ⟨w1.heap.size,3,none⟩ (.int .i64 (1 - p.turn)))=XG at *
   have bD:=jD
   have bF:=fM
   clear jD fM
   have HQ:Hid ((bM R p m).quiet=mq):=hid (by rw [HMQ.out,if_neg (by omega),HMq.out])
   have xY:=hid (JV.out.below bF.out (by omega))
   refine wp_region_lit ?_
   refine aH (by rfl) 158 (.tmp 7) (by rfl) w1.heap.size (by rfl) bD.out.box Tryz.underlying158 (by rfl) (by kernel_rfl) ?_
   refine aT (vs:=[(Value.slice (some ⟨gc,0,none⟩) p.cells.length cc),(Value.slice (some ⟨g0,0,none⟩) p.h0.length mV),(Value.slice (some ⟨g1,0,none⟩) p.h1.length mW),.int .i64 (1 - p.turn),.int .i64 (mq)]) (by rfl) 158 (.tmp 6) (.tmp 92) (by rfl) (w.heap.size+1+1+1) (by rfl) (by rfl) xY.out rfl (by kernel_rfl) (by rfl) ?_
   have HS:=hid (xY.out.store (vs:=[(Value.slice (some ⟨gc,0,none⟩) p.cells.length cc),(Value.slice (some ⟨g0,0,none⟩) p.h0.length mV),(Value.slice (some ⟨g1,0,none⟩) p.h1.length mW),.int .i64 (1 - p.turn),.int .i64 (mq)]) rfl)
   have RD:=hid (own_base (aN bD.out.oc (b:=w.heap.size+1+1+1) (by omega) 0 [(Value.slice (some ⟨gc,0,none⟩) p.cells.length cc),(Value.slice (some ⟨g0,0,none⟩) p.h0.length mV),(Value.slice (some ⟨g1,0,none⟩) p.h1.length mW),.int .i64 (1 - p.turn),.int .i64 (mq)]) (show w.heap.size≤w0.heap.size by omega))
   have HR0:=hid (own_base (aN bD.out.o0 (b:=w.heap.size+1+1+1) (by omega) 0 [(Value.slice (some ⟨gc,0,none⟩) p.cells.length cc),(Value.slice (some ⟨g0,0,none⟩) p.h0.length mV),(Value.slice (some ⟨g1,0,none⟩) p.h1.length mW),.int .i64 (1 - p.turn),.int .i64 (mq)]) (show w.heap.size≤w0.heap.size by omega))
   have HR1:=hid (own_base (aN bD.out.o1 (b:=w.heap.size+1+1+1) (by omega) 0 [(Value.slice (some ⟨gc,0,none⟩) p.cells.length cc),(Value.slice (some ⟨g0,0,none⟩) p.h0.length mV),(Value.slice (some ⟨g1,0,none⟩) p.h1.length mW),.int .i64 (1 - p.turn),.int .i64 (mq)]) (show w.heap.size≤w0.heap.size by omega))
   have Ir:=hid (below_setCells (ak HB.out bF.out HB.out.size) (show w.heap.size≤w.heap.size+1+1+1 by omega) 0 [(Value.slice (some ⟨gc,0,none⟩) p.cells.length cc),(Value.slice (some ⟨g0,0,none⟩) p.h0.length mV),(Value.slice (some ⟨g1,0,none⟩) p.h1.length mW),.int .i64 (1 - p.turn),.int .i64 (mq)])
   generalize (XG.setCells (w.heap.size+1+1+1) 0 [(Value.slice (some ⟨gc,0,none⟩) p.cells.length cc),(Value.slice (some ⟨g0,0,none⟩) p.h0.length mV),(Value.slice (some ⟨g1,0,none⟩) p.h1.length mW),.int .i64 (1 - p.turn),.int .i64 (mq)])=wf at *
   go_wp2_with fail
   exact bodyPost_ret (dJ rfl (by rfl) HS.out Tryz.underlying158 (by rfl) (by kernel_rfl)) rfl ⟨_,_,_,by unfold sG; rw [HQ.out]; rfl,⟨by show World.ownsRow _ _ _ _ _ (dP p m).length (ints (dP p m)); rw [HCS.out]; exact RD.out,by show World.ownsRow _ _ _ _ _ (if p.turn=0 then bG R p m else p.h0).length (ints (if p.turn=0 then bG R p m else p.h0)); rw [E5.out]; exact HR0.out,by show World.ownsRow _ _ _ _ _ (if p.turn=0 then p.h1 else bG R p m).length (ints (if p.turn=0 then p.h1 else bG R p m)); rw [E5.out]; exact HR1.out,bD.out.c0,bD.out.c1,bD.out.Ru⟩,Ir.out⟩
 ·have HCS:Hid (dP p m=p.cells.set m.dst.toNat (2 * m.piece+p.turn+1)):=hid (by rw [HMC.out,if_neg hs])
  clear m0 m1 m2 p3 p4 r6 o0 oh o3 o4 nD nN
  have XH:Hid ((if p.turn=0 then (Value.slice (some ⟨g0,0,none⟩) p.h0.length mV) else (Value.slice (some ⟨g1,0,none⟩) p.h1.length mW))=.slice (some ⟨gh,0,none⟩) (p.hand p.turn).length ch):=hid (by first | exact su.out | (rw [su.out]; simp))
  have m0:=(eF.out.below bF.out (by omega)).cell 0 rfl
  have m1:=(eF.out.below bF.out (by omega)).cell 1 rfl
  have m2:=(eF.out.below bF.out (by omega)).cell 2 rfl
  have p3:=(kF.out.below bF.out (by omega)).cell 3 rfl
  have p4:=(kF.out.below bF.out (by omega)).cell 4 rfl
  have r6:=(bn.out.below bF.out (by omega)).cell 6 rfl
  have o0:=bD.out.box.cell 0 rfl
  have oh:=bD.out.ch ht0 ht1
  have o3:=bD.out.box.cell 3 rfl
  have o4:=bD.out.box.cell 4 rfl
  have nD:=bD.out.box.frozen 3
  have nN:=bD.out.box.frozen 4
  rw [su.out] at oh
  obtain ⟨gx,cx,ex,hgx,hbx,hcx,hfx⟩:=sS bD.out.oh (by first | omega | (simp; omega))
  rw [su.out] at ex
  simp only [Value.slice.injEq,Option.some.injEq,Addr.mk.injEq,and_true,true_and] at ex
  obtain ⟨rfl,-⟩:=ex
  have hidx:(m.piece).toNat<(p.hand p.turn).length:=by first | omega | (simp; omega)
  have ck:=hcx (m.piece).toNat hidx
  have cf:=hfx (m.piece).toNat
  clear hcx hfx
  obtain ⟨xp,hxp⟩:∃ xp,(p.hand p.turn).getD (m.piece).toNat 0=xp:=⟨_,rfl⟩
  rw [hxp] at ck
  have hxb:0≤xp∧xp≤1000:=by rw [← hxp]; exact HHB.out _
  obtain ⟨atZ,at1⟩:=hxb
  have HXP:=hid hxp
  clear hxp
  go_upto_region 5 with (fail)
  go_region
  clear ck cf
  clear m0 m1 m2 p3 p4 r6 o0 oh o3 o4 nD nN
  have jD:=hid ((bD.out.setH XH.out (m.piece).toNat (xp - 1)).drew)
  have fM:=hid (aK (Below.setCell bF.out (p:=⟨gh,(m.piece).toNat,none⟩) hbh (.int .i64 (xp - 1))))
  clear bD bF
  generalize (w2.setCell ⟨gh,(m.piece).toNat,none⟩ (.int .i64 (xp - 1))).drew=w3 at *
  have bD:=jD
  have bF:=fM
  clear jD fM
  go_upto_region 6 with (fail)
  have aeH:Hid (∀ i,-1≤((p.hand p.turn).set m.piece.toNat (xp - 1)).getD i 0∧((p.hand p.turn).set m.piece.toNat (xp - 1)).getD i 0≤1000):=hid (fun i=>by rw [TY]; split; omega; have:=HHB.out i; omega)
  have aeI:Hid ((Value.slice (some ⟨gc,0,none⟩) p.cells.length cc)=.slice (some ⟨gc,0,none⟩) (p.cells).length cc):=hid (by simp)
  have m0:=(eF.out.below bF.out (by omega)).cell 0 rfl
  have m1:=(eF.out.below bF.out (by omega)).cell 1 rfl
  have m2:=(eF.out.below bF.out (by omega)).cell 2 rfl
  have p3:=(kF.out.below bF.out (by omega)).cell 3 rfl
  have p4:=(kF.out.below bF.out (by omega)).cell 4 rfl
  have r6:=(bn.out.below bF.out (by omega)).cell 6 rfl
  have o0:=bD.out.box.cell 0 rfl
  have oh:=bD.out.ch ht0 ht1
  have o3:=bD.out.box.cell 3 rfl
  have o4:=bD.out.box.cell 4 rfl
  have nD:=bD.out.box.frozen 3
  have nN:=bD.out.box.frozen 4
  rw [su.out] at oh
  obtain ⟨gx,cx,ex,hgx,hbx,hcx,hfx⟩:=sS bD.out.oc (by first | omega | (simp; omega))
  simp only [Value.slice.injEq,Option.some.injEq,Addr.mk.injEq,and_true,true_and] at ex
  obtain ⟨rfl,-⟩:=ex
  have ck:=hcx m.dst.toNat (by first | omega | (simp; omega))
  have cf:=hfx m.dst.toNat
  clear hcx hfx
  go_upto_region 7 with (fail)
  clear ck cf
  clear m0 m1 m2 p3 p4 r6 o0 oh o3 o4 nD nN
  have jD:=hid (bD.out.aeA aeI.out m.dst.toNat (2 * m.piece+p.turn+1))
  have fM:=hid (Below.setCell bF.out (p:=⟨gc,m.dst.toNat,none⟩) hbc (.int .i64 (2 * m.piece+p.turn+1)))
  clear bD bF
  generalize (w3.setCell ⟨gc,m.dst.toNat,none⟩ (.int .i64 (2 * m.piece+p.turn+1)))=w4 at *
  have bD:=jD
  have bF:=fM
  clear jD fM
  by_cases IG:0<tk
  ·cases hkp:R.keeps
   ·have E5:Hid (bG R p m=((p.hand p.turn).set m.piece.toNat (xp - 1))):=hid (by rw [HMH.out,← HXP.out]; simp [hkp,hs])
    rw [hkp] at bn
    have m0:=(eF.out.below bF.out (by omega)).cell 0 rfl
    have m1:=(eF.out.below bF.out (by omega)).cell 1 rfl
    have m2:=(eF.out.below bF.out (by omega)).cell 2 rfl
    have p3:=(kF.out.below bF.out (by omega)).cell 3 rfl
    have p4:=(kF.out.below bF.out (by omega)).cell 4 rfl
    have r6:=(bn.out.below bF.out (by omega)).cell 6 rfl
    have o0:=bD.out.box.cell 0 rfl
    have oh:=bD.out.ch ht0 ht1
    have o3:=bD.out.box.cell 3 rfl
    have o4:=bD.out.box.cell 4 rfl
    have nD:=bD.out.box.frozen 3
    have nN:=bD.out.box.frozen 4
    rw [su.out] at oh
    obtain ⟨mq,Lm⟩:∃ mq:Int,(if (200:Int)<p.quiet+1 then 200 else p.quiet+1)=mq:=⟨_,rfl⟩
    go_upto_region 11 with (fail)
    clear m0 m1 m2 p3 p4 r6 o0 oh o3 o4 nD nN
    have HMq:=hid Lm
    clear Lm
    have jD:=hid (bD.out.Dk mq)
    have fM:=hid (Below.setCell bF.out (p:=⟨w1.heap.size,4,none⟩) hs1' (.int .i64 mq))
    clear bD bF
    generalize (w4.setCell ⟨w1.heap.size,4,none⟩ (.int .i64 mq))=XF at *
    have bD:=jD
    have bF:=fM
    clear jD fM
    have m0:=(eF.out.below bF.out (by omega)).cell 0 rfl
    have m1:=(eF.out.below bF.out (by omega)).cell 1 rfl
    have m2:=(eF.out.below bF.out (by omega)).cell 2 rfl
    have p3:=(kF.out.below bF.out (by omega)).cell 3 rfl
    have p4:=(kF.out.below bF.out (by omega)).cell 4 rfl
    have r6:=(bn.out.below bF.out (by omega)).cell 6 rfl
    have o0:=bD.out.box.cell 0 rfl
    have oh:=bD.out.ch ht0 ht1
    have o3:=bD.out.box.cell 3 rfl
    have o4:=bD.out.box.cell 4 rfl
    have nD:=bD.out.box.frozen 3
    have nN:=bD.out.box.frozen 4
    rw [su.out] at oh
    go_upto_region 13 with (fail)
    clear m0 m1 m2 p3 p4 r6 o0 oh o3 o4 nD nN
    have jD:=hid (bD.out.Dk 0)
    have fM:=hid (Below.setCell bF.out (p:=⟨w1.heap.size,4,none⟩) hs1' (.int .i64 0))
    clear bD bF
    generalize (XF.setCell ⟨w1.heap.size,4,none⟩ (.int .i64 0))=wq2 at *
    have bD:=jD
    have bF:=fM
    clear jD fM
    have m0:=(eF.out.below bF.out (by omega)).cell 0 rfl
    have m1:=(eF.out.below bF.out (by omega)).cell 1 rfl
    have m2:=(eF.out.below bF.out (by omega)).cell 2 rfl
    have p3:=(kF.out.below bF.out (by omega)).cell 3 rfl
    have p4:=(kF.out.below bF.out (by omega)).cell 4 rfl
    have r6:=(bn.out.below bF.out (by omega)).cell 6 rfl
    have o0:=bD.out.box.cell 0 rfl
    have oh:=bD.out.ch ht0 ht1
    have o3:=bD.out.box.cell 3 rfl
    have o4:=bD.out.box.cell 4 rfl
    have nD:=bD.out.box.frozen 3
    have nN:=bD.out.box.frozen 4
    rw [su.out] at oh
    go_upto_region 14 with (fail)
    clear m0 m1 m2 p3 p4 r6 o0 oh o3 o4 nD nN
    have jD:=hid (bD.out.TP (1 - p.turn))
    have fM:=hid (Below.setCell bF.out (p:=⟨w1.heap.size,3,none⟩) hs1' (.int .i64 (1 - p.turn)))
    clear bD bF
    generalize (wq2.setCell ⟨w1.heap.size,3,none⟩ (.int .i64 (1 - p.turn)))=XG at *
    have bD:=jD
    have bF:=fM
    clear jD fM
    have HQ:Hid ((bM R p m).quiet=0):=hid (by rw [HMQ.out,if_pos (.inl IG)])
    have xY:=hid (JV.out.below bF.out (by omega))
    refine wp_region_lit ?_
    refine aH (by rfl) 158 (.tmp 7) (by rfl) w1.heap.size (by rfl) bD.out.box Tryz.underlying158 (by rfl) (by kernel_rfl) ?_
    refine aT (vs:=[(Value.slice (some ⟨gc,0,none⟩) p.cells.length cc),(Value.slice (some ⟨g0,0,none⟩) p.h0.length mV),(Value.slice (some ⟨g1,0,none⟩) p.h1.length mW),.int .i64 (1 - p.turn),.int .i64 (0)]) (by rfl) 158 (.tmp 6) (.tmp 92) (by rfl) (w.heap.size+1+1+1) (by rfl) (by rfl) xY.out rfl (by kernel_rfl) (by rfl) ?_
    have HS:=hid (xY.out.store (vs:=[(Value.slice (some ⟨gc,0,none⟩) p.cells.length cc),(Value.slice (some ⟨g0,0,none⟩) p.h0.length mV),(Value.slice (some ⟨g1,0,none⟩) p.h1.length mW),.int .i64 (1 - p.turn),.int .i64 (0)]) rfl)
    have RD:=hid (own_base (aN bD.out.oc (b:=w.heap.size+1+1+1) (by omega) 0 [(Value.slice (some ⟨gc,0,none⟩) p.cells.length cc),(Value.slice (some ⟨g0,0,none⟩) p.h0.length mV),(Value.slice (some ⟨g1,0,none⟩) p.h1.length mW),.int .i64 (1 - p.turn),.int .i64 (0)]) (show w.heap.size≤w0.heap.size by omega))
    have HR0:=hid (own_base (aN bD.out.o0 (b:=w.heap.size+1+1+1) (by omega) 0 [(Value.slice (some ⟨gc,0,none⟩) p.cells.length cc),(Value.slice (some ⟨g0,0,none⟩) p.h0.length mV),(Value.slice (some ⟨g1,0,none⟩) p.h1.length mW),.int .i64 (1 - p.turn),.int .i64 (0)]) (show w.heap.size≤w0.heap.size by omega))
    have HR1:=hid (own_base (aN bD.out.o1 (b:=w.heap.size+1+1+1) (by omega) 0 [(Value.slice (some ⟨gc,0,none⟩) p.cells.length cc),(Value.slice (some ⟨g0,0,none⟩) p.h0.length mV),(Value.slice (some ⟨g1,0,none⟩) p.h1.length mW),.int .i64 (1 - p.turn),.int .i64 (0)]) (show w.heap.size≤w0.heap.size by omega))
    have Ir:=hid (below_setCells (ak HB.out bF.out HB.out.size) (show w.heap.size≤w.heap.size+1+1+1 by omega) 0 [(Value.slice (some ⟨gc,0,none⟩) p.cells.length cc),(Value.slice (some ⟨g0,0,none⟩) p.h0.length mV),(Value.slice (some ⟨g1,0,none⟩) p.h1.length mW),.int .i64 (1 - p.turn),.int .i64 (0)])
    generalize (XG.setCells (w.heap.size+1+1+1) 0 [(Value.slice (some ⟨gc,0,none⟩) p.cells.length cc),(Value.slice (some ⟨g0,0,none⟩) p.h0.length mV),(Value.slice (some ⟨g1,0,none⟩) p.h1.length mW),.int .i64 (1 - p.turn),.int .i64 (0)])=wf at *
    go_wp2_with fail
    exact bodyPost_ret (dJ rfl (by rfl) HS.out Tryz.underlying158 (by rfl) (by kernel_rfl)) rfl ⟨_,_,_,by unfold sG; rw [HQ.out]; rfl,⟨by show World.ownsRow _ _ _ _ _ (dP p m).length (ints (dP p m)); rw [HCS.out]; exact RD.out,by show World.ownsRow _ _ _ _ _ (if p.turn=0 then bG R p m else p.h0).length (ints (if p.turn=0 then bG R p m else p.h0)); rw [E5.out]; exact HR0.out,by show World.ownsRow _ _ _ _ _ (if p.turn=0 then p.h1 else bG R p m).length (ints (if p.turn=0 then p.h1 else bG R p m)); rw [E5.out]; exact HR1.out,bD.out.c0,bD.out.c1,bD.out.Ru⟩,Ir.out⟩
   ·rw [hkp] at bn
    have XH:Hid ((if p.turn=0 then (Value.slice (some ⟨g0,0,none⟩) p.h0.length mV) else (Value.slice (some ⟨g1,0,none⟩) p.h1.length mW))=.slice (some ⟨gh,0,none⟩) (((p.hand p.turn).set m.piece.toNat (xp - 1))).length ch):=hid (by first | exact su.out | (rw [su.out]; simp))
    have m0:=(eF.out.below bF.out (by omega)).cell 0 rfl
    have m1:=(eF.out.below bF.out (by omega)).cell 1 rfl
    have m2:=(eF.out.below bF.out (by omega)).cell 2 rfl
    have p3:=(kF.out.below bF.out (by omega)).cell 3 rfl
    have p4:=(kF.out.below bF.out (by omega)).cell 4 rfl
    have r6:=(bn.out.below bF.out (by omega)).cell 6 rfl
    have o0:=bD.out.box.cell 0 rfl
    have oh:=bD.out.ch ht0 ht1
    have o3:=bD.out.box.cell 3 rfl
    have o4:=bD.out.box.cell 4 rfl
    have nD:=bD.out.box.frozen 3
    have nN:=bD.out.box.frozen 4
    rw [su.out] at oh
    obtain ⟨gx,cx,ex,hgx,hbx,hcx,hfx⟩:=sS bD.out.oh (by first | omega | (simp; omega))
    rw [su.out] at ex
    simp only [Value.slice.injEq,Option.some.injEq,Addr.mk.injEq,and_true] at ex
    obtain ⟨rfl,-⟩:=ex
    have hidx:((tk - 1) / 2).toNat<(((p.hand p.turn).set m.piece.toNat (xp - 1))).length:=by first | omega | (simp; omega)
    have ck:=hcx ((tk - 1) / 2).toNat hidx
    have cf:w4.drew.frozen? ⟨gh,((tk - 1) / 2).toNat,none⟩=false:=hfx ((tk - 1) / 2).toNat
    clear hcx hfx
    obtain ⟨xh,hxh⟩:∃ xh,(((p.hand p.turn).set m.piece.toNat (xp - 1))).getD ((tk - 1) / 2).toNat 0=xh:=⟨_,rfl⟩
    rw [hxh] at ck
    have hxb : -1≤xh∧xh≤1000:=by rw [← hxh]; exact aeH.out _
    obtain ⟨amY,amZ⟩:=hxb
    have HXH:=hid hxh
    clear hxh
    obtain ⟨mn,hmn⟩:∃ mn:Int,(if (1000:Int)<xh+1 then 1000 else xh+1)=mn:=⟨_,rfl⟩
    go_upto_region 9 with (fail)
    have ht2:p.turn<2:=by omega
    have hi0:0≤(tk - 1) / 2:=by omega
    have hi1:(tk - 1) / 2<(((p.hand p.turn).length:Nat):Int):=by omega
    have hwr:IntKind.i64.wrap (xh+1)=xh+1:=IntWalk.i64_in _ (by omega)
    have ck0:w4.drew.cell? ⟨gh,((tk - 1) / 2).toNat,none⟩=some (.int .i64 xh):=ck
    refine wp_region_noPanic ?_
    refine bI (S:=(fun w'=>w'.cell? ⟨w.heap.size+1,3,none⟩=some (.int .i64 p.turn)∧w'.cell? ⟨w1.heap.size,1+p.turn.toNat,none⟩=some (.slice (some ⟨gh,0,none⟩) (p.hand p.turn).length ch)∧w'.cell? ⟨gh,((tk - 1) / 2).toNat,none⟩=some (.int .i64 xh))) (L:=[17]) (by kernel_rfl) ⟨p3,oh,ck0⟩ (fun hHeld=>?_)
    refine aC 0 ?_
    refine aC 2 ?_
    refine aC 5 ?_
    refine aC 6 ?_
    refine aC 8 ?_
    refine aC 11 ?_
    refine dV 1 ?_
    refine dV 7 ?_
    refine aC 3 ?_
    refine aC 9 ?_
    refine dV 4 ?_
    refine dV 10 ?_
    refine aC 12 ?_
    refine dV 13 ?_
    refine aC 14 ?_
    refine aC 15 ?_
    refine aC 16 ?_
    refine rP 17 fun K hK=>?_
    go_simp
    refine aQ ?_
    intro w8 e8
    have jD:=hid (bD.out.setH XH.out ((tk - 1) / 2).toNat (mn)).drew
    have fM:=hid (aK (Below.setCell bF.out (p:=⟨gh,((tk - 1) / 2).toNat,none⟩) hbh (.int .i64 (mn))))
    rw [← e8] at jD fM
    clear bD bF e8
    have bD:=jD
    have bF:=fM
    clear jD fM
    refine hK.out _ _ ?_
    clear hK K
    refine jC ?_
    clear hHeld ck ck0 cf ht2 hi0 hi1 hwr
    clear m0 m1 m2 p3 p4 r6 o0 oh o3 o4 nD nN
    have HMN:=hid hmn
    clear hmn
    go_upto_region 10 with (fail)
    have E5:Hid (bG R p m=(((p.hand p.turn).set m.piece.toNat (xp - 1))).set ((tk - 1) / 2).toNat mn):=hid (by rw [HMH.out]; simp only [hkp,hs,IG,if_true,if_false,and_self]; rw [HXP.out]; rw [HXH.out,HMN.out])
    have m0:=(eF.out.below bF.out (by omega)).cell 0 rfl
    have m1:=(eF.out.below bF.out (by omega)).cell 1 rfl
    have m2:=(eF.out.below bF.out (by omega)).cell 2 rfl
    have p3:=(kF.out.below bF.out (by omega)).cell 3 rfl
    have p4:=(kF.out.below bF.out (by omega)).cell 4 rfl
    have r6:=(bn.out.below bF.out (by omega)).cell 6 rfl
    have o0:=bD.out.box.cell 0 rfl
    have oh:=bD.out.ch ht0 ht1
    have o3:=bD.out.box.cell 3 rfl
    have o4:=bD.out.box.cell 4 rfl
    have nD:=bD.out.box.frozen 3
    have nN:=bD.out.box.frozen 4
    rw [su.out] at oh
    obtain ⟨mq,Lm⟩:∃ mq:Int,(if (200:Int)<p.quiet+1 then 200 else p.quiet+1)=mq:=⟨_,rfl⟩
    go_upto_region 11 with (fail)
    clear m0 m1 m2 p3 p4 r6 o0 oh o3 o4 nD nN
    have HMq:=hid Lm
    clear Lm
    have jD:=hid (bD.out.Dk mq)
    have fM:=hid (Below.setCell bF.out (p:=⟨w1.heap.size,4,none⟩) hs1' (.int .i64 mq))
    clear bD bF
    generalize (w8.setCell ⟨w1.heap.size,4,none⟩ (.int .i64 mq))=XF at *
    have bD:=jD
    have bF:=fM
    clear jD fM
    have m0:=(eF.out.below bF.out (by omega)).cell 0 rfl
    have m1:=(eF.out.below bF.out (by omega)).cell 1 rfl
    have m2:=(eF.out.below bF.out (by omega)).cell 2 rfl
    have p3:=(kF.out.below bF.out (by omega)).cell 3 rfl
    have p4:=(kF.out.below bF.out (by omega)).cell 4 rfl
    have r6:=(bn.out.below bF.out (by omega)).cell 6 rfl
    have o0:=bD.out.box.cell 0 rfl
    have oh:=bD.out.ch ht0 ht1
    have o3:=bD.out.box.cell 3 rfl
    have o4:=bD.out.box.cell 4 rfl
    have nD:=bD.out.box.frozen 3
    have nN:=bD.out.box.frozen 4
    rw [su.out] at oh
    go_upto_region 13 with (fail)
    clear m0 m1 m2 p3 p4 r6 o0 oh o3 o4 nD nN
    have jD:=hid (bD.out.Dk 0)
    have fM:=hid (Below.setCell bF.out (p:=⟨w1.heap.size,4,none⟩) hs1' (.int .i64 0))
    clear bD bF
    generalize (XF.setCell ⟨w1.heap.size,4,none⟩ (.int .i64 0))=wq2 at *
    have bD:=jD
    have bF:=fM
    clear jD fM
    have m0:=(eF.out.below bF.out (by omega)).cell 0 rfl
    have m1:=(eF.out.below bF.out (by omega)).cell 1 rfl
    have m2:=(eF.out.below bF.out (by omega)).cell 2 rfl
    have p3:=(kF.out.below bF.out (by omega)).cell 3 rfl
    have p4:=(kF.out.below bF.out (by omega)).cell 4 rfl
    have r6:=(bn.out.below bF.out (by omega)).cell 6 rfl
    have o0:=bD.out.box.cell 0 rfl
    have oh:=bD.out.ch ht0 ht1
    have o3:=bD.out.box.cell 3 rfl
    have o4:=bD.out.box.cell 4 rfl
    have nD:=bD.out.box.frozen 3
    have nN:=bD.out.box.frozen 4
    rw [su.out] at oh
    go_upto_region 14 with (fail)
    clear m0 m1 m2 p3 p4 r6 o0 oh o3 o4 nD nN
    have jD:=hid (bD.out.TP (1 - p.turn))
    have fM:=hid (Below.setCell bF.out (p:=⟨w1.heap.size,3,none⟩) hs1' (.int .i64 (1 - p.turn)))
    clear bD bF
    generalize (wq2.setCell ⟨w1.heap.size,3,none⟩ (.int .i64 (1 - p.turn)))=XG at *
    have bD:=jD
    have bF:=fM
    clear jD fM
    have HQ:Hid ((bM R p m).quiet=0):=hid (by rw [HMQ.out,if_pos (.inl IG)])
    have xY:=hid (JV.out.below bF.out (by omega))
    refine wp_region_lit ?_
    refine aH (by rfl) 158 (.tmp 7) (by rfl) w1.heap.size (by rfl) bD.out.box Tryz.underlying158 (by rfl) (by kernel_rfl) ?_
    refine aT (vs:=[(Value.slice (some ⟨gc,0,none⟩) p.cells.length cc),(Value.slice (some ⟨g0,0,none⟩) p.h0.length mV),(Value.slice (some ⟨g1,0,none⟩) p.h1.length mW),.int .i64 (1 - p.turn),.int .i64 (0)]) (by rfl) 158 (.tmp 6) (.tmp 92) (by rfl) (w.heap.size+1+1+1) (by rfl) (by rfl) xY.out rfl (by kernel_rfl) (by rfl) ?_
    have HS:=hid (xY.out.store (vs:=[(Value.slice (some ⟨gc,0,none⟩) p.cells.length cc),(Value.slice (some ⟨g0,0,none⟩) p.h0.length mV),(Value.slice (some ⟨g1,0,none⟩) p.h1.length mW),.int .i64 (1 - p.turn),.int .i64 (0)]) rfl)
    have RD:=hid (own_base (aN bD.out.oc (b:=w.heap.size+1+1+1) (by omega) 0 [(Value.slice (some ⟨gc,0,none⟩) p.cells.length cc),(Value.slice (some ⟨g0,0,none⟩) p.h0.length mV),(Value.slice (some ⟨g1,0,none⟩) p.h1.length mW),.int .i64 (1 - p.turn),.int .i64 (0)]) (show w.heap.size≤w0.heap.size by omega))
    have HR0:=hid (own_base (aN bD.out.o0 (b:=w.heap.size+1+1+1) (by omega) 0 [(Value.slice (some ⟨gc,0,none⟩) p.cells.length cc),(Value.slice (some ⟨g0,0,none⟩) p.h0.length mV),(Value.slice (some ⟨g1,0,none⟩) p.h1.length mW),.int .i64 (1 - p.turn),.int .i64 (0)]) (show w.heap.size≤w0.heap.size by omega))
    have HR1:=hid (own_base (aN bD.out.o1 (b:=w.heap.size+1+1+1) (by omega) 0 [(Value.slice (some ⟨gc,0,none⟩) p.cells.length cc),(Value.slice (some ⟨g0,0,none⟩) p.h0.length mV),(Value.slice (some ⟨g1,0,none⟩) p.h1.length mW),.int .i64 (1 - p.turn),.int .i64 (0)]) (show w.heap.size≤w0.heap.size by omega))
    have Ir:=hid (below_setCells (ak HB.out bF.out HB.out.size) (show w.heap.size≤w.heap.size+1+1+1 by omega) 0 [(Value.slice (some ⟨gc,0,none⟩) p.cells.length cc),(Value.slice (some ⟨g0,0,none⟩) p.h0.length mV),(Value.slice (some ⟨g1,0,none⟩) p.h1.length mW),.int .i64 (1 - p.turn),.int .i64 (0)])
    generalize (XG.setCells (w.heap.size+1+1+1) 0 [(Value.slice (some ⟨gc,0,none⟩) p.cells.length cc),(Value.slice (some ⟨g0,0,none⟩) p.h0.length mV),(Value.slice (some ⟨g1,0,none⟩) p.h1.length mW),.int .i64 (1 - p.turn),.int .i64 (0)])=wf at *
    go_wp2_with fail
    exact bodyPost_ret (dJ rfl (by rfl) HS.out Tryz.underlying158 (by rfl) (by kernel_rfl)) rfl ⟨_,_,_,by unfold sG; rw [HQ.out]; rfl,⟨by show World.ownsRow _ _ _ _ _ (dP p m).length (ints (dP p m)); rw [HCS.out]; exact RD.out,by show World.ownsRow _ _ _ _ _ (if p.turn=0 then bG R p m else p.h0).length (ints (if p.turn=0 then bG R p m else p.h0)); rw [E5.out]; exact HR0.out,by show World.ownsRow _ _ _ _ _ (if p.turn=0 then p.h1 else bG R p m).length (ints (if p.turn=0 then p.h1 else bG R p m)); rw [E5.out]; exact HR1.out,bD.out.c0,bD.out.c1,bD.out.Ru⟩,Ir.out⟩
  ·have E5:Hid (bG R p m=((p.hand p.turn).set m.piece.toNat (xp - 1))):=hid (by rw [HMH.out,← HXP.out]; simp [IG,hs])
   have m0:=(eF.out.below bF.out (by omega)).cell 0 rfl
   have m1:=(eF.out.below bF.out (by omega)).cell 1 rfl
   have m2:=(eF.out.below bF.out (by omega)).cell 2 rfl
   have p3:=(kF.out.below bF.out (by omega)).cell 3 rfl
   have p4:=(kF.out.below bF.out (by omega)).cell 4 rfl
   have r6:=(bn.out.below bF.out (by omega)).cell 6 rfl
   have o0:=bD.out.box.cell 0 rfl
   have oh:=bD.out.ch ht0 ht1
   have o3:=bD.out.box.cell 3 rfl
   have o4:=bD.out.box.cell 4 rfl
   have nD:=bD.out.box.frozen 3
   have nN:=bD.out.box.frozen 4
   rw [su.out] at oh
   obtain ⟨mq,Lm⟩:∃ mq:Int,(if (200:Int)<p.quiet+1 then 200 else p.quiet+1)=mq:=⟨_,rfl⟩
   go_upto_region 11 with (fail)
   clear m0 m1 m2 p3 p4 r6 o0 oh o3 o4 nD nN
   have HMq:=hid Lm
   clear Lm
   have jD:=hid (bD.out.Dk mq)
   have fM:=hid (Below.setCell bF.out (p:=⟨w1.heap.size,4,none⟩) hs1' (.int .i64 mq))
   clear bD bF
   generalize (w4.setCell ⟨w1.heap.size,4,none⟩ (.int .i64 mq))=XF at *
   have bD:=jD
   have bF:=fM
   clear jD fM
   have m0:=(eF.out.below bF.out (by omega)).cell 0 rfl
   have m1:=(eF.out.below bF.out (by omega)).cell 1 rfl
   have m2:=(eF.out.below bF.out (by omega)).cell 2 rfl
   have p3:=(kF.out.below bF.out (by omega)).cell 3 rfl
   have p4:=(kF.out.below bF.out (by omega)).cell 4 rfl
   have r6:=(bn.out.below bF.out (by omega)).cell 6 rfl
   have o0:=bD.out.box.cell 0 rfl
   have oh:=bD.out.ch ht0 ht1
   have o3:=bD.out.box.cell 3 rfl
   have o4:=bD.out.box.cell 4 rfl
   have nD:=bD.out.box.frozen 3
   have nN:=bD.out.box.frozen 4
   rw [su.out] at oh
   go_upto_region 13 with (fail)
   clear m0 m1 m2 p3 p4 r6 o0 oh o3 o4 nD nN
   have jD:=hid (bD.out.Dk 0)
   have fM:=hid (Below.setCell bF.out (p:=⟨w1.heap.size,4,none⟩) hs1' (.int .i64 0))
   clear bD bF
   generalize (XF.setCell ⟨w1.heap.size,4,none⟩ (.int .i64 0))=wq2 at *
   have bD:=jD
   have bF:=fM
   clear jD fM
   have m0:=(eF.out.below bF.out (by omega)).cell 0 rfl
   have m1:=(eF.out.below bF.out (by omega)).cell 1 rfl
   have m2:=(eF.out.below bF.out (by omega)).cell 2 rfl
   have p3:=(kF.out.below bF.out (by omega)).cell 3 rfl
   have p4:=(kF.out.below bF.out (by omega)).cell 4 rfl
   have r6:=(bn.out.below bF.out (by omega)).cell 6 rfl
   have o0:=bD.out.box.cell 0 rfl
   have oh:=bD.out.ch ht0 ht1
   have o3:=bD.out.box.cell 3 rfl
   have o4:=bD.out.box.cell 4 rfl
   have nD:=bD.out.box.frozen 3
   have nN:=bD.out.box.frozen 4
   rw [su.out] at oh
   go_upto_region 14 with (fail)
   clear m0 m1 m2 p3 p4 r6 o0 oh o3 o4 nD nN
   have jD:=hid (bD.out.TP (1 - p.turn))
   have fM:=hid (Below.setCell bF.out (p:=⟨w1.heap.size,3,none⟩) hs1' (.int .i64 (1 - p.turn)))
   clear bD bF
   generalize (wq2.setCell ⟨w1.heap.size,3,none⟩ (.int .i64 (1 - p.turn)))=XG at *
   have bD:=jD
   have bF:=fM
   clear jD fM
   have HQ:Hid ((bM R p m).quiet=0):=hid (by rw [HMQ.out,if_pos (.inr (by omega))])
   have xY:=hid (JV.out.below bF.out (by omega))
   refine wp_region_lit ?_
   refine aH (by rfl) 158 (.tmp 7) (by rfl) w1.heap.size (by rfl) bD.out.box Tryz.underlying158 (by rfl) (by kernel_rfl) ?_
   refine aT (vs:=[(Value.slice (some ⟨gc,0,none⟩) p.cells.length cc),(Value.slice (some ⟨g0,0,none⟩) p.h0.length mV),(Value.slice (some ⟨g1,0,none⟩) p.h1.length mW),.int .i64 (1 - p.turn),.int .i64 (0)]) (by rfl) 158 (.tmp 6) (.tmp 92) (by rfl) (w.heap.size+1+1+1) (by rfl) (by rfl) xY.out rfl (by kernel_rfl) (by rfl) ?_
   have HS:=hid (xY.out.store (vs:=[(Value.slice (some ⟨gc,0,none⟩) p.cells.length cc),(Value.slice (some ⟨g0,0,none⟩) p.h0.length mV),(Value.slice (some ⟨g1,0,none⟩) p.h1.length mW),.int .i64 (1 - p.turn),.int .i64 (0)]) rfl)
   have RD:=hid (own_base (aN bD.out.oc (b:=w.heap.size+1+1+1) (by omega) 0 [(Value.slice (some ⟨gc,0,none⟩) p.cells.length cc),(Value.slice (some ⟨g0,0,none⟩) p.h0.length mV),(Value.slice (some ⟨g1,0,none⟩) p.h1.length mW),.int .i64 (1 - p.turn),.int .i64 (0)]) (show w.heap.size≤w0.heap.size by omega))
   have HR0:=hid (own_base (aN bD.out.o0 (b:=w.heap.size+1+1+1) (by omega) 0 [(Value.slice (some ⟨gc,0,none⟩) p.cells.length cc),(Value.slice (some ⟨g0,0,none⟩) p.h0.length mV),(Value.slice (some ⟨g1,0,none⟩) p.h1.length mW),.int .i64 (1 - p.turn),.int .i64 (0)]) (show w.heap.size≤w0.heap.size by omega))
   have HR1:=hid (own_base (aN bD.out.o1 (b:=w.heap.size+1+1+1) (by omega) 0 [(Value.slice (some ⟨gc,0,none⟩) p.cells.length cc),(Value.slice (some ⟨g0,0,none⟩) p.h0.length mV),(Value.slice (some ⟨g1,0,none⟩) p.h1.length mW),.int .i64 (1 - p.turn),.int .i64 (0)]) (show w.heap.size≤w0.heap.size by omega))
   have Ir:=hid (below_setCells (ak HB.out bF.out HB.out.size) (show w.heap.size≤w.heap.size+1+1+1 by omega) 0 [(Value.slice (some ⟨gc,0,none⟩) p.cells.length cc),(Value.slice (some ⟨g0,0,none⟩) p.h0.length mV),(Value.slice (some ⟨g1,0,none⟩) p.h1.length mW),.int .i64 (1 - p.turn),.int .i64 (0)])
   generalize (XG.setCells (w.heap.size+1+1+1) 0 [(Value.slice (some ⟨gc,0,none⟩) p.cells.length cc),(Value.slice (some ⟨g0,0,none⟩) p.h0.length mV),(Value.slice (some ⟨g1,0,none⟩) p.h1.length mW),.int .i64 (1 - p.turn),.int .i64 (0)])=wf at *
   go_wp2_with fail
   exact bodyPost_ret (dJ rfl (by rfl) HS.out Tryz.underlying158 (by rfl) (by kernel_rfl)) rfl ⟨_,_,_,by unfold sG; rw [HQ.out]; rfl,⟨by show World.ownsRow _ _ _ _ _ (dP p m).length (ints (dP p m)); rw [HCS.out]; exact RD.out,by show World.ownsRow _ _ _ _ _ (if p.turn=0 then bG R p m else p.h0).length (ints (if p.turn=0 then bG R p m else p.h0)); rw [E5.out]; exact HR0.out,by show World.ownsRow _ _ _ _ _ (if p.turn=0 then p.h1 else bG R p m).length (ints (if p.turn=0 then p.h1 else bG R p m)); rw [E5.out]; exact HR1.out,bD.out.c0,bD.out.c1,bD.out.Ru⟩,Ir.out⟩
end Go.Proofs.YteablcielclaeaaGreatDoor
