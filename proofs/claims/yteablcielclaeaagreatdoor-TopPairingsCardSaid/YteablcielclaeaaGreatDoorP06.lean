/- The contracts of place.sound and place.Check. -/
import Derived.Test.YteablcielclaeaaGreatDoorP03
import Derived.Test.YteablcielclaeaaGreatDoorP05
namespace Go.Proofs.YteablcielclaeaaGreatDoor
open Go.ChangeShapes Go.WideShapes Go.ChangeAt Go.RowKit
set_option linter.unusedVariables false
open Go.Lib (hid)
theorem BM {R:aA} (h:aJ R=0):(1≤R.width∧R.width≤8)∧(1≤R.height∧R.height≤8)∧(1≤R.pieces.length∧R.pieces.length≤6):=by
 unfold aJ at h
 by_cases e1:sJ R.name=false
 ·rw [if_pos e1] at h; cases h
 rw [if_neg e1] at h
 by_cases e2:wb R.width 1 8=false∨wb R.height 1 8=false
 ·rw [if_pos e2] at h; cases h
 rw [if_neg e2] at h
 have hw:wb R.width 1 8=true:=by cases hb:wb R.width 1 8 <;> simp_all
 have hh:wb R.height 1 8=true:=by cases hb:wb R.height 1 8 <;> simp_all
 by_cases e3:dG R.pieces=0
 ·refine ⟨(nS _ _ _).1 hw,(nS _ _ _).1 hh,?_⟩
  unfold dG at e3
  by_cases f1:R.pieces.length=0
  ·rw [if_pos f1] at e3; cases e3
  ·by_cases f2:6<R.pieces.length
   ·rw [if_neg f1,if_pos f2] at e3; cases e3
   ·omega
 ·rw [if_pos e3] at h; exact absurd h e3
def fA (R:aA) (p:bf):Int:=
 if (p.cells.length:Int)≠R.width * R.height∨p.h0.length≠R.pieces.length∨p.h1.length≠R.pieces.length then 3
 else if p.cells.any (fun z=>!wb z 0 (2 * (R.pieces.length:Int)))=true∨(p.h0++p.h1).any (fun z=>!wb z 0 1000)=true∨(p.turn≠0∧p.turn≠1)∨p.quiet<0∨200<p.quiet then 4 else 0
def jl (R:aA) (p:bf):Int:=if aJ R≠0 then aJ R else fA R p
theorem Tz (B1 B2:Nat) (lo hi z:Int) (w:World) (h1:w.cell? ⟨B1,0,none⟩=some (.int .i64 lo)) (h2:w.cell? ⟨B2,0,none⟩=some (.int .i64 hi)) :
  Calls Tryz.prog 251 (#[.int .i64 z] ++ #[.pointer (some ⟨B1,0,none⟩),.pointer (some ⟨B2,0,none⟩)]) w fun e w'=>e=.returned (.bool (!wb z lo hi))∧w=w':=by
 show Calls Tryz.prog 251 #[.int .i64 z,.pointer (some ⟨B1,0,none⟩),.pointer (some ⟨B2,0,none⟩)] w _
 by_cases c1:z<lo <;> by_cases c2:hi<z
 all_goals
  have H:Hid ((!wb z lo hi)=(decide (z<lo) || decide (hi<z))):=hid (by unfold wb; by_cases e1:lo≤z <;> by_cases e2:z≤hi <;> simp [e1,e2] <;> omega)
  go_enter Tryz.func251,Tryz.ntmps251
  go_wp2
  go_ret
  exact ⟨by rw [H.out]; simp [c1,c2],rfl⟩
theorem TA (args:Array Value) (w:World):(callFunc 251 args).run Tryz.prog w=.ok (.enter 251 args) w:=by kernel_rfl
theorem WR (args:Array Value) (w:World):(callFunc 250 args).run Tryz.prog w=.ok (.enter 250 args) w:=by kernel_rfl
def WS (lo hi:Int) (v:Value) (w:World):Prop:=∃ B1 B2,v=.func (.func 251) #[] #[.pointer (some ⟨B1,0,none⟩),.pointer (some ⟨B2,0,none⟩)]∧w.cell? ⟨B1,0,none⟩=some (.int .i64 lo)∧w.cell? ⟨B2,0,none⟩=some (.int .i64 hi)
def WT (lo hi:Int) (w:World) (e:Ending) (w':World):Prop:=∃ v,e=.returned v∧WS lo hi v w'∧Below w.heap.size w w'
theorem gq (lo hi:Int) (w:World):Calls Tryz.prog 250 #[.int .i64 lo,.int .i64 hi] w (WT lo hi w):=by
 go_enter Tryz.func250,Tryz.ntmps250
 go_wp2
 go_ret
 exact ⟨_,rfl,⟨w.heap.size,w.heap.size+1,rfl,by simp [go_sem],by simp [go_sem]⟩,((Below.refl _ _).alloc (by go_size) _).alloc (by go_size) _⟩
theorem Ij (v f:Value) (zs:List Int) (lo hi:Int) (w:World) (h:fQ w v zs) (hf:WS lo hi f w) :
  Calls Tryz.prog 35 #[v,f] w fun e w'=>e=.returned (.bool (zs.any fun z=>!wb z lo hi))∧w=w':=by
 obtain ⟨B1,B2,rfl,h1,h2⟩:=hf
 exact jF v zs _ 251 _ w h TA (fun z _=>Tz B1 B2 lo hi z w h1 h2)
theorem dw {W W':World} (h:Below W.drew.heap.size W.drew W'):Below W.heap.size W W':=⟨h.os,h.tape,h.output,h.size,h.block⟩
theorem dQ (v f:Value) (zs:List Int) (lo hi:Int) (b:Bool) (w:World) (hb:(zs.any fun z=>!wb z lo hi)=b) (h:fQ w v zs) (hf:WS lo hi f w) :
  Calls Tryz.prog 35 #[v,f] w fun e w'=>e=.returned (.bool b)∧w=w':=by subst hb; exact Ij v f zs lo hi w h hf
set_option maxRecDepth 100000 in
set_option maxHeartbeats 4000000 in
theorem TB (R:aA) (vp vs ve:Value) (p:bf) (vc v0 v1:Value) (w:World) (h:pV w R vp vs ve) (hp:sH w p vc v0 v1) (hr:aJ R=0) :
  Calls Tryz.prog 230 #[(.agg #[.string R.name,.int .i64 R.width,.int .i64 R.height,vp,vs,.bool R.falls,.bool R.keeps,ve,.int .i64 R.blocked,.int .i64 R.quiet,.int .i64 R.bC]),(.agg #[vc,v0,v1,.int .i64 p.turn,.int .i64 p.quiet])] w fun e w'=>e=.returned (.int .i64 (fA R p))∧Below w.heap.size w w':=by
 have hok:=BM hr
 obtain ⟨hw,hh,hn⟩:=hok
 obtain ⟨ap,cp,rfl,_,_⟩:=h.1.form
 obtain ⟨ac,cc,rfl,hc1,hc2⟩:=hp.1.form
 obtain ⟨a0,c0,rfl,h01,h02⟩:=hp.2.1.form
 obtain ⟨a1,c1,rfl,h11,h12⟩:=hp.2.2.form
 unfold maxLen at hc2 h02 h12
 have HP:=hid hp
 have hwh:1≤R.width * R.height∧R.width * R.height≤64:=CU R.width R.height 8 8 hw.1 hw.2 hh.1 hh.2
 have HC:Hid (fA R p=if (p.cells.length:Int)≠R.width * R.height∨p.h0.length≠R.pieces.length∨p.h1.length≠R.pieces.length then 3
 else if p.cells.any (fun z=>!wb z 0 (2 * (R.pieces.length:Int)))=true∨(p.h0++p.h1).any (fun z=>!wb z 0 1000)=true∨(p.turn≠0∧p.turn≠1)∨p.quiet<0∨200<p.quiet then 4 else 0):=hid rfl
 clear h hp hr
 by_cases t1:(p.cells.length:Int)=R.width * R.height
 rotate_left
 ·have HE:Hid (fA R p=3):=hid (by rw [HC.out,if_pos (.inl t1)])
  have t1':((p.cells.length:Int) != R.width * R.height)=true:=by simpa using t1
  clear t1
  go_enter Tryz.func230,Tryz.ntmps230
  go_wp2_with fail
  go_ret
  exact ⟨by rw [HE.out]; rfl,((Below.refl _ _).alloc (by go_size) _).alloc (by go_size) _⟩
 have t1':((p.cells.length:Int) != R.width * R.height)=false:=by simpa using t1
 have HT1:=hid t1
 clear t1
 by_cases t2:p.h0.length=R.pieces.length
 rotate_left
 ·have HE:Hid (fA R p=3):=hid (by rw [HC.out,if_pos (.inr (.inl t2))])
  have t2':((p.h0.length:Int) != (R.pieces.length:Int))=true:=by simp only [bne_iff_ne,ne_eq]; omega
  clear t2
  go_enter Tryz.func230,Tryz.ntmps230
  go_wp2_with fail
  go_ret
  exact ⟨by rw [HE.out]; rfl,((Below.refl _ _).alloc (by go_size) _).alloc (by go_size) _⟩
 have t2':((p.h0.length:Int) != (R.pieces.length:Int))=false:=by simp only [bne_eq_false_iff_eq]; omega
 have HT2:=hid t2
 clear t2
 by_cases t3:p.h1.length=R.pieces.length
 rotate_left
 ·have HE:Hid (fA R p=3):=hid (by rw [HC.out,if_pos (.inr (.inr t3))])
  have t3':((p.h1.length:Int) != (R.pieces.length:Int))=true:=by simp only [bne_iff_ne,ne_eq]; omega
  clear t3
  go_enter Tryz.func230,Tryz.ntmps230
  go_wp2_with fail
  go_ret
  exact ⟨by rw [HE.out]; rfl,((Below.refl _ _).alloc (by go_size) _).alloc (by go_size) _⟩
 have t3':((p.h1.length:Int) != (R.pieces.length:Int))=false:=by simp only [bne_eq_false_iff_eq]; omega
 have HT3:=hid t3
 have HC2:=hid (by have:=HC.out; rw [if_neg (by simp [HT1.out,HT2.out,t3])] at this; exact this)
 clear t3 HC
 have l0:p.h0.length≤6:=by have:=HT2.out; omega
 have l1:p.h1.length≤6:=by have:=HT3.out; omega
 go_enter Tryz.func230,Tryz.ntmps230
 go_wp2_with fail
 refine (OQ _ _ _ p.h0 p.h1 _ ⟨_,_,_,rfl,by go_size,by simp [go_sem],by simp [go_sem]⟩ (HP.out.2.1.below ((((Below.refl _ _).alloc (Nat.le_refl _) _).alloc (by go_size) _).alloc (by go_size) _) (Nat.le_refl _)) (HP.out.2.2.below ((((Below.refl _ _).alloc (Nat.le_refl _) _).alloc (by go_size) _).alloc (by go_size) _) (Nat.le_refl _)) (by omega) (by omega)).mono ?_
 rintro e w1 ⟨vh,rfl,ho1,hb1⟩
 have hs1:=hb1.size
 simp at hs1
 have f0:w1.cell? ⟨w.heap.size+1,0,none⟩=some (.slice ac p.cells.length cc):=(hb1.cell (by go_size)).trans (by simp [go_sem])
 have f3:w1.cell? ⟨w.heap.size+1,3,none⟩=some (.int .i64 p.turn):=(hb1.cell (by go_size)).trans (by simp [go_sem])
 have f4:w1.cell? ⟨w.heap.size+1,4,none⟩=some (.int .i64 p.quiet):=(hb1.cell (by go_size)).trans (by simp [go_sem])
 have hz:w.heap.size+1<w1.heap.size:=by omega
 have HB:Hid (Below w.heap.size w w1):=hid (((((Below.refl _ _).alloc (Nat.le_refl _) _).alloc (by go_size) _).alloc (by go_size) _).trans (hb1.mono (by go_size)))
 have kQ:Hid (fQ w1 (.slice ac p.cells.length cc) p.cells):=hid (HP.out.1.below HB.out (Nat.le_refl _))
 have nK:Hid (fQ w1 vh (p.h0++p.h1)):=hid (fQ.dB ho1)
 have w2n:IntKind.i64.wrap (2 * (R.pieces.length:Int))=2 * (R.pieces.length:Int):=IntWalk.i64_in _ (by omega)
 have hfn:=WR
 clear ho1 hb1 hs1 HP t1' t2' t3' HT1 HT2 HT3
 cases t4:p.cells.any (fun z=>!wb z 0 (2 * (R.pieces.length:Int)))
 rotate_left
 ·have HT4:=hid t4
  clear t4
  have HE:Hid (fA R p=4):=hid (by rw [HC2.out,if_pos (.inl HT4.out)])
  go_wp2_with fail
  refine wp_region_noPanic ?_
  refine wp_region_held_drew (S:=(fun w'=>w'.cell? ⟨w.heap.size+1,0,none⟩=some (.slice ac p.cells.length cc)∧w'.cell? ⟨w.heap.size+1,3,none⟩=some (.int .i64 p.turn)∧w'.cell? ⟨w.heap.size+1,4,none⟩=some (.int .i64 p.quiet))) (by kernel_rfl) ⟨f0,f3,f4⟩ (fun hHeld=>?_)
  refine bY 0 ?_
  refine bY 2 ?_
  refine bY 3 ?_
  refine bY 1 ?_
  refine bY 4 ?_
  refine uD 5 fun K hK=>?_
  go_simp
  ((with_reducible refine (gq _ _ _).mono ?_); rintro e w2 ⟨v2,rfl,mP,hb2⟩; have mQ:=hid mP; (first | (have hb3:=dw hb2) | (have hb3:=hb2)); replace f0:=(hb3.cell (p:=⟨w.heap.size+1,0,none⟩) hz).trans f0; replace f3:=(hb3.cell (p:=⟨w.heap.size+1,3,none⟩) hz).trans f3; replace f4:=(hb3.cell (p:=⟨w.heap.size+1,4,none⟩) hz).trans f4; replace HB:=hid (ak HB.out hb3 HB.out.size); replace kQ:=hid (kQ.out.below hb3 (Nat.le_refl _)); replace nK:=hid (nK.out.below hb3 (Nat.le_refl _)); replace hz:=Nat.lt_of_lt_of_le hz hb3.size; clear mP hb2 hb3)
  refine hK.out _ _ ⟨f0,f3,f4⟩ (fun hHeld=>?_)
  clear hK K
  refine uD 6 fun K hK=>?_
  go_simp
  ((with_reducible refine (dQ _ _ p.cells _ _ _ _ HT4.out kQ.out mQ.out).mono ?_); rintro e w' ⟨rfl,rfl⟩; clear mQ)
  refine hK.out _ _ ⟨f0,f3,f4⟩ (fun hHeld=>?_)
  clear hK K
  refine bY 7 ?_
  refine lW 8 ?_
  refine lW 9 ?_
  refine lW 10 ?_
  refine lW 11 ?_
  refine bY 12 ?_
  refine bY 13 ?_
  refine lW 14 ?_
  refine lW 15 ?_
  refine lW 16 ?_
  refine lW 17 ?_
  refine lW 18 ?_
  refine lW 19 ?_
  refine lW 20 ?_
  refine lW 21 ?_
  refine bY 22 ?_
  refine bY 23 ?_
  refine lW 24 ?_
  refine lW 25 ?_
  refine lW 26 ?_
  refine bY 27 ?_
  refine bY 28 ?_
  refine lW 29 ?_
  refine lW 30 ?_
  refine lW 31 ?_
  refine bY 32 ?_
  refine dnH ?_
  refine NoPanic.normal ?_
  go_wp2_with fail
  go_ret
  exact ⟨by rw [HE.out]; rfl,HB.out⟩
 have HT4:=hid t4
 clear t4
 cases t5:(p.h0++p.h1).any (fun z=>!wb z 0 1000)
 rotate_left
 ·have OT:=hid t5
  clear t5
  have HE:Hid (fA R p=4):=hid (by rw [HC2.out,if_pos (.inr (.inl OT.out))])
  go_wp2_with fail
  refine wp_region_noPanic ?_
  refine wp_region_held_drew (S:=(fun w'=>w'.cell? ⟨w.heap.size+1,0,none⟩=some (.slice ac p.cells.length cc)∧w'.cell? ⟨w.heap.size+1,3,none⟩=some (.int .i64 p.turn)∧w'.cell? ⟨w.heap.size+1,4,none⟩=some (.int .i64 p.quiet))) (by kernel_rfl) ⟨f0,f3,f4⟩ (fun hHeld=>?_)
  refine bY 0 ?_
  refine bY 2 ?_
  refine bY 3 ?_
  refine bY 1 ?_
  refine bY 4 ?_
  refine uD 5 fun K hK=>?_
  go_simp
  ((with_reducible refine (gq _ _ _).mono ?_); rintro e w2 ⟨v2,rfl,mP,hb2⟩; have mQ:=hid mP; (first | (have hb3:=dw hb2) | (have hb3:=hb2)); replace f0:=(hb3.cell (p:=⟨w.heap.size+1,0,none⟩) hz).trans f0; replace f3:=(hb3.cell (p:=⟨w.heap.size+1,3,none⟩) hz).trans f3; replace f4:=(hb3.cell (p:=⟨w.heap.size+1,4,none⟩) hz).trans f4; replace HB:=hid (ak HB.out hb3 HB.out.size); replace kQ:=hid (kQ.out.below hb3 (Nat.le_refl _)); replace nK:=hid (nK.out.below hb3 (Nat.le_refl _)); replace hz:=Nat.lt_of_lt_of_le hz hb3.size; clear mP hb2 hb3)
  refine hK.out _ _ ⟨f0,f3,f4⟩ (fun hHeld=>?_)
  clear hK K
  refine uD 6 fun K hK=>?_
  go_simp
  ((with_reducible refine (dQ _ _ p.cells _ _ _ _ HT4.out kQ.out mQ.out).mono ?_); rintro e w' ⟨rfl,rfl⟩; clear mQ)
  refine hK.out _ _ ⟨f0,f3,f4⟩ (fun hHeld=>?_)
  clear hK K
  refine bY 7 ?_
  refine bY 8 ?_
  refine bY 9 ?_
  refine uD 10 fun K hK=>?_
  go_simp
  ((with_reducible refine (gq _ _ _).mono ?_); rintro e w2 ⟨v2,rfl,mP,hb2⟩; have mQ:=hid mP; (first | (have hb3:=dw hb2) | (have hb3:=hb2)); replace f0:=(hb3.cell (p:=⟨w.heap.size+1,0,none⟩) hz).trans f0; replace f3:=(hb3.cell (p:=⟨w.heap.size+1,3,none⟩) hz).trans f3; replace f4:=(hb3.cell (p:=⟨w.heap.size+1,4,none⟩) hz).trans f4; replace HB:=hid (ak HB.out hb3 HB.out.size); replace kQ:=hid (kQ.out.below hb3 (Nat.le_refl _)); replace nK:=hid (nK.out.below hb3 (Nat.le_refl _)); replace hz:=Nat.lt_of_lt_of_le hz hb3.size; clear mP hb2 hb3)
  refine hK.out _ _ ⟨f0,f3,f4⟩ (fun hHeld=>?_)
  clear hK K
  refine uD 11 fun K hK=>?_
  go_simp
  ((with_reducible refine (dQ _ _ (p.h0++p.h1) _ _ _ _ OT.out nK.out mQ.out).mono ?_); rintro e w' ⟨rfl,rfl⟩; clear mQ)
  refine hK.out _ _ ⟨f0,f3,f4⟩ (fun hHeld=>?_)
  clear hK K
  refine bY 12 ?_
  refine bY 13 ?_
  refine lW 14 ?_
  refine lW 15 ?_
  refine lW 16 ?_
  refine lW 17 ?_
  refine lW 18 ?_
  refine lW 19 ?_
  refine lW 20 ?_
  refine lW 21 ?_
  refine bY 22 ?_
  refine bY 23 ?_
  refine lW 24 ?_
  refine lW 25 ?_
  refine lW 26 ?_
  refine bY 27 ?_
  refine bY 28 ?_
  refine lW 29 ?_
  refine lW 30 ?_
  refine lW 31 ?_
  refine bY 32 ?_
  refine dnH ?_
  refine NoPanic.normal ?_
  go_wp2_with fail
  go_ret
  exact ⟨by rw [HE.out]; rfl,HB.out⟩
 have OT:=hid t5
 clear t5
 cases t6:(p.turn == 0)
 rotate_left
 ·have HT6:=hid t6
  have t6':(p.turn != 0)=false:=by simp [bne,t6]
  clear t6
  by_cases t8:p.quiet<0
  ·have t8':decide (p.quiet<0)=true:=by simpa using t8
   have HE:Hid (fA R p=4):=hid (by rw [HC2.out,if_pos (.inr (.inr (.inr (.inl t8))))])
   go_wp2_with fail
   refine wp_region_noPanic ?_
   refine wp_region_held_drew (S:=(fun w'=>w'.cell? ⟨w.heap.size+1,0,none⟩=some (.slice ac p.cells.length cc)∧w'.cell? ⟨w.heap.size+1,3,none⟩=some (.int .i64 p.turn)∧w'.cell? ⟨w.heap.size+1,4,none⟩=some (.int .i64 p.quiet))) (by kernel_rfl) ⟨f0,f3,f4⟩ (fun hHeld=>?_)
   refine bY 0 ?_
   refine bY 2 ?_
   refine bY 3 ?_
   refine bY 1 ?_
   refine bY 4 ?_
   refine uD 5 fun K hK=>?_
   go_simp
   ((with_reducible refine (gq _ _ _).mono ?_); rintro e w2 ⟨v2,rfl,mP,hb2⟩; have mQ:=hid mP; (first | (have hb3:=dw hb2) | (have hb3:=hb2)); replace f0:=(hb3.cell (p:=⟨w.heap.size+1,0,none⟩) hz).trans f0; replace f3:=(hb3.cell (p:=⟨w.heap.size+1,3,none⟩) hz).trans f3; replace f4:=(hb3.cell (p:=⟨w.heap.size+1,4,none⟩) hz).trans f4; replace HB:=hid (ak HB.out hb3 HB.out.size); replace kQ:=hid (kQ.out.below hb3 (Nat.le_refl _)); replace nK:=hid (nK.out.below hb3 (Nat.le_refl _)); replace hz:=Nat.lt_of_lt_of_le hz hb3.size; clear mP hb2 hb3)
   refine hK.out _ _ ⟨f0,f3,f4⟩ (fun hHeld=>?_)
   clear hK K
   refine uD 6 fun K hK=>?_
   go_simp
   ((with_reducible refine (dQ _ _ p.cells _ _ _ _ HT4.out kQ.out mQ.out).mono ?_); rintro e w' ⟨rfl,rfl⟩; clear mQ)
   refine hK.out _ _ ⟨f0,f3,f4⟩ (fun hHeld=>?_)
   clear hK K
   refine bY 7 ?_
   refine bY 8 ?_
   refine bY 9 ?_
   refine uD 10 fun K hK=>?_
   go_simp
   ((with_reducible refine (gq _ _ _).mono ?_); rintro e w2 ⟨v2,rfl,mP,hb2⟩; have mQ:=hid mP; (first | (have hb3:=dw hb2) | (have hb3:=hb2)); replace f0:=(hb3.cell (p:=⟨w.heap.size+1,0,none⟩) hz).trans f0; replace f3:=(hb3.cell (p:=⟨w.heap.size+1,3,none⟩) hz).trans f3; replace f4:=(hb3.cell (p:=⟨w.heap.size+1,4,none⟩) hz).trans f4; replace HB:=hid (ak HB.out hb3 HB.out.size); replace kQ:=hid (kQ.out.below hb3 (Nat.le_refl _)); replace nK:=hid (nK.out.below hb3 (Nat.le_refl _)); replace hz:=Nat.lt_of_lt_of_le hz hb3.size; clear mP hb2 hb3)
   refine hK.out _ _ ⟨f0,f3,f4⟩ (fun hHeld=>?_)
   clear hK K
   refine uD 11 fun K hK=>?_
   go_simp
   ((with_reducible refine (dQ _ _ (p.h0++p.h1) _ _ _ _ OT.out nK.out mQ.out).mono ?_); rintro e w' ⟨rfl,rfl⟩; clear mQ)
   refine hK.out _ _ ⟨f0,f3,f4⟩ (fun hHeld=>?_)
   clear hK K
   refine bY 12 ?_
   refine bY 13 ?_
   refine bY 14 ?_
   refine bY 15 ?_
   refine bY 16 ?_
   refine bY 17 ?_
   refine lW 18 ?_
   refine lW 19 ?_
   refine lW 20 ?_
   refine bY 21 ?_
   refine bY 22 ?_
   refine bY 23 ?_
   refine bY 24 ?_
   refine bY 25 ?_
   refine bY 26 ?_
   refine bY 27 ?_
   refine bY 28 ?_
   refine lW 29 ?_
   refine lW 30 ?_
   refine lW 31 ?_
   refine bY 32 ?_
   refine dnH ?_
   refine NoPanic.normal ?_
   go_wp2_with fail
   go_ret
   exact ⟨by rw [HE.out]; rfl,HB.out⟩
  have t8':decide (p.quiet<0)=false:=by simpa using t8
  by_cases t9:200<p.quiet
  ·have t9':decide (200<p.quiet)=true:=by simpa using t9
   have HE:Hid (fA R p=4):=hid (by rw [HC2.out,if_pos (.inr (.inr (.inr (.inr t9))))])
   go_wp2_with fail
   refine wp_region_noPanic ?_
   refine wp_region_held_drew (S:=(fun w'=>w'.cell? ⟨w.heap.size+1,0,none⟩=some (.slice ac p.cells.length cc)∧w'.cell? ⟨w.heap.size+1,3,none⟩=some (.int .i64 p.turn)∧w'.cell? ⟨w.heap.size+1,4,none⟩=some (.int .i64 p.quiet))) (by kernel_rfl) ⟨f0,f3,f4⟩ (fun hHeld=>?_)
   refine bY 0 ?_
   refine bY 2 ?_
   refine bY 3 ?_
   refine bY 1 ?_
   refine bY 4 ?_
   refine uD 5 fun K hK=>?_
   go_simp
   ((with_reducible refine (gq _ _ _).mono ?_); rintro e w2 ⟨v2,rfl,mP,hb2⟩; have mQ:=hid mP; (first | (have hb3:=dw hb2) | (have hb3:=hb2)); replace f0:=(hb3.cell (p:=⟨w.heap.size+1,0,none⟩) hz).trans f0; replace f3:=(hb3.cell (p:=⟨w.heap.size+1,3,none⟩) hz).trans f3; replace f4:=(hb3.cell (p:=⟨w.heap.size+1,4,none⟩) hz).trans f4; replace HB:=hid (ak HB.out hb3 HB.out.size); replace kQ:=hid (kQ.out.below hb3 (Nat.le_refl _)); replace nK:=hid (nK.out.below hb3 (Nat.le_refl _)); replace hz:=Nat.lt_of_lt_of_le hz hb3.size; clear mP hb2 hb3)
   refine hK.out _ _ ⟨f0,f3,f4⟩ (fun hHeld=>?_)
   clear hK K
   refine uD 6 fun K hK=>?_
   go_simp
   ((with_reducible refine (dQ _ _ p.cells _ _ _ _ HT4.out kQ.out mQ.out).mono ?_); rintro e w' ⟨rfl,rfl⟩; clear mQ)
   refine hK.out _ _ ⟨f0,f3,f4⟩ (fun hHeld=>?_)
   clear hK K
   refine bY 7 ?_
   refine bY 8 ?_
   refine bY 9 ?_
   refine uD 10 fun K hK=>?_
   go_simp
   ((with_reducible refine (gq _ _ _).mono ?_); rintro e w2 ⟨v2,rfl,mP,hb2⟩; have mQ:=hid mP; (first | (have hb3:=dw hb2) | (have hb3:=hb2)); replace f0:=(hb3.cell (p:=⟨w.heap.size+1,0,none⟩) hz).trans f0; replace f3:=(hb3.cell (p:=⟨w.heap.size+1,3,none⟩) hz).trans f3; replace f4:=(hb3.cell (p:=⟨w.heap.size+1,4,none⟩) hz).trans f4; replace HB:=hid (ak HB.out hb3 HB.out.size); replace kQ:=hid (kQ.out.below hb3 (Nat.le_refl _)); replace nK:=hid (nK.out.below hb3 (Nat.le_refl _)); replace hz:=Nat.lt_of_lt_of_le hz hb3.size; clear mP hb2 hb3)
   refine hK.out _ _ ⟨f0,f3,f4⟩ (fun hHeld=>?_)
   clear hK K
   refine uD 11 fun K hK=>?_
   go_simp
   ((with_reducible refine (dQ _ _ (p.h0++p.h1) _ _ _ _ OT.out nK.out mQ.out).mono ?_); rintro e w' ⟨rfl,rfl⟩; clear mQ)
   refine hK.out _ _ ⟨f0,f3,f4⟩ (fun hHeld=>?_)
   clear hK K
   refine bY 12 ?_
   refine bY 13 ?_
   refine bY 14 ?_
   refine bY 15 ?_
   refine bY 16 ?_
   refine bY 17 ?_
   refine lW 18 ?_
   refine lW 19 ?_
   refine lW 20 ?_
   refine bY 21 ?_
   refine bY 22 ?_
   refine bY 23 ?_
   refine bY 24 ?_
   refine bY 25 ?_
   refine bY 26 ?_
   refine bY 27 ?_
   refine bY 28 ?_
   refine bY 29 ?_
   refine bY 30 ?_
   refine bY 31 ?_
   refine bY 32 ?_
   refine dnH ?_
   refine NoPanic.normal ?_
   go_wp2_with fail
   go_ret
   exact ⟨by rw [HE.out]; rfl,HB.out⟩
  have t9':decide (200<p.quiet)=false:=by simpa using t9
  have HE:Hid (fA R p=0):=hid (by rw [HC2.out,if_neg (by simp only [HT4.out,OT.out,Bool.false_eq_true,false_or]; rintro (h | h | h) <;> first | omega | (have:=HT6.out; simp at this; omega))])
  go_wp2_with fail
  refine wp_region_noPanic ?_
  refine wp_region_held_drew (S:=(fun w'=>w'.cell? ⟨w.heap.size+1,0,none⟩=some (.slice ac p.cells.length cc)∧w'.cell? ⟨w.heap.size+1,3,none⟩=some (.int .i64 p.turn)∧w'.cell? ⟨w.heap.size+1,4,none⟩=some (.int .i64 p.quiet))) (by kernel_rfl) ⟨f0,f3,f4⟩ (fun hHeld=>?_)
  refine bY 0 ?_
  refine bY 2 ?_
  refine bY 3 ?_
  refine bY 1 ?_
  refine bY 4 ?_
  refine uD 5 fun K hK=>?_
  go_simp
  ((with_reducible refine (gq _ _ _).mono ?_); rintro e w2 ⟨v2,rfl,mP,hb2⟩; have mQ:=hid mP; (first | (have hb3:=dw hb2) | (have hb3:=hb2)); replace f0:=(hb3.cell (p:=⟨w.heap.size+1,0,none⟩) hz).trans f0; replace f3:=(hb3.cell (p:=⟨w.heap.size+1,3,none⟩) hz).trans f3; replace f4:=(hb3.cell (p:=⟨w.heap.size+1,4,none⟩) hz).trans f4; replace HB:=hid (ak HB.out hb3 HB.out.size); replace kQ:=hid (kQ.out.below hb3 (Nat.le_refl _)); replace nK:=hid (nK.out.below hb3 (Nat.le_refl _)); replace hz:=Nat.lt_of_lt_of_le hz hb3.size; clear mP hb2 hb3)
  refine hK.out _ _ ⟨f0,f3,f4⟩ (fun hHeld=>?_)
  clear hK K
  refine uD 6 fun K hK=>?_
  go_simp
  ((with_reducible refine (dQ _ _ p.cells _ _ _ _ HT4.out kQ.out mQ.out).mono ?_); rintro e w' ⟨rfl,rfl⟩; clear mQ)
  refine hK.out _ _ ⟨f0,f3,f4⟩ (fun hHeld=>?_)
  clear hK K
  refine bY 7 ?_
  refine bY 8 ?_
  refine bY 9 ?_
  refine uD 10 fun K hK=>?_
  go_simp
  ((with_reducible refine (gq _ _ _).mono ?_); rintro e w2 ⟨v2,rfl,mP,hb2⟩; have mQ:=hid mP; (first | (have hb3:=dw hb2) | (have hb3:=hb2)); replace f0:=(hb3.cell (p:=⟨w.heap.size+1,0,none⟩) hz).trans f0; replace f3:=(hb3.cell (p:=⟨w.heap.size+1,3,none⟩) hz).trans f3; replace f4:=(hb3.cell (p:=⟨w.heap.size+1,4,none⟩) hz).trans f4; replace HB:=hid (ak HB.out hb3 HB.out.size); replace kQ:=hid (kQ.out.below hb3 (Nat.le_refl _)); replace nK:=hid (nK.out.below hb3 (Nat.le_refl _)); replace hz:=Nat.lt_of_lt_of_le hz hb3.size; clear mP hb2 hb3)
  refine hK.out _ _ ⟨f0,f3,f4⟩ (fun hHeld=>?_)
  clear hK K
  refine uD 11 fun K hK=>?_
  go_simp
  ((with_reducible refine (dQ _ _ (p.h0++p.h1) _ _ _ _ OT.out nK.out mQ.out).mono ?_); rintro e w' ⟨rfl,rfl⟩; clear mQ)
  refine hK.out _ _ ⟨f0,f3,f4⟩ (fun hHeld=>?_)
  clear hK K
  refine bY 12 ?_
  refine bY 13 ?_
  refine bY 14 ?_
  refine bY 15 ?_
  refine bY 16 ?_
  refine bY 17 ?_
  refine lW 18 ?_
  refine lW 19 ?_
  refine lW 20 ?_
  refine bY 21 ?_
  refine bY 22 ?_
  refine bY 23 ?_
  refine bY 24 ?_
  refine bY 25 ?_
  refine bY 26 ?_
  refine bY 27 ?_
  refine bY 28 ?_
  refine bY 29 ?_
  refine bY 30 ?_
  refine bY 31 ?_
  refine bY 32 ?_
  refine dnH ?_
  refine NoPanic.normal ?_
  go_wp2_with fail
  go_ret
  exact ⟨by rw [HE.out]; rfl,HB.out⟩
 have amx:=hid t6
 have t6':(p.turn != 0)=true:=by simp [bne,t6]
 clear t6
 cases t7:(p.turn == 1)
 rotate_left
 ·have HT6:=hid t7
  have t7':(p.turn != 1)=false:=by simp [bne,t7]
  clear t7
  by_cases t8:p.quiet<0
  ·have t8':decide (p.quiet<0)=true:=by simpa using t8
   have HE:Hid (fA R p=4):=hid (by rw [HC2.out,if_pos (.inr (.inr (.inr (.inl t8))))])
   go_wp2_with fail
   refine wp_region_noPanic ?_
   refine wp_region_held_drew (S:=(fun w'=>w'.cell? ⟨w.heap.size+1,0,none⟩=some (.slice ac p.cells.length cc)∧w'.cell? ⟨w.heap.size+1,3,none⟩=some (.int .i64 p.turn)∧w'.cell? ⟨w.heap.size+1,4,none⟩=some (.int .i64 p.quiet))) (by kernel_rfl) ⟨f0,f3,f4⟩ (fun hHeld=>?_)
   refine bY 0 ?_
   refine bY 2 ?_
   refine bY 3 ?_
   refine bY 1 ?_
   refine bY 4 ?_
   refine uD 5 fun K hK=>?_
   go_simp
   ((with_reducible refine (gq _ _ _).mono ?_); rintro e w2 ⟨v2,rfl,mP,hb2⟩; have mQ:=hid mP; (first | (have hb3:=dw hb2) | (have hb3:=hb2)); replace f0:=(hb3.cell (p:=⟨w.heap.size+1,0,none⟩) hz).trans f0; replace f3:=(hb3.cell (p:=⟨w.heap.size+1,3,none⟩) hz).trans f3; replace f4:=(hb3.cell (p:=⟨w.heap.size+1,4,none⟩) hz).trans f4; replace HB:=hid (ak HB.out hb3 HB.out.size); replace kQ:=hid (kQ.out.below hb3 (Nat.le_refl _)); replace nK:=hid (nK.out.below hb3 (Nat.le_refl _)); replace hz:=Nat.lt_of_lt_of_le hz hb3.size; clear mP hb2 hb3)
   refine hK.out _ _ ⟨f0,f3,f4⟩ (fun hHeld=>?_)
   clear hK K
   refine uD 6 fun K hK=>?_
   go_simp
   ((with_reducible refine (dQ _ _ p.cells _ _ _ _ HT4.out kQ.out mQ.out).mono ?_); rintro e w' ⟨rfl,rfl⟩; clear mQ)
   refine hK.out _ _ ⟨f0,f3,f4⟩ (fun hHeld=>?_)
   clear hK K
   refine bY 7 ?_
   refine bY 8 ?_
   refine bY 9 ?_
   refine uD 10 fun K hK=>?_
   go_simp
   ((with_reducible refine (gq _ _ _).mono ?_); rintro e w2 ⟨v2,rfl,mP,hb2⟩; have mQ:=hid mP; (first | (have hb3:=dw hb2) | (have hb3:=hb2)); replace f0:=(hb3.cell (p:=⟨w.heap.size+1,0,none⟩) hz).trans f0; replace f3:=(hb3.cell (p:=⟨w.heap.size+1,3,none⟩) hz).trans f3; replace f4:=(hb3.cell (p:=⟨w.heap.size+1,4,none⟩) hz).trans f4; replace HB:=hid (ak HB.out hb3 HB.out.size); replace kQ:=hid (kQ.out.below hb3 (Nat.le_refl _)); replace nK:=hid (nK.out.below hb3 (Nat.le_refl _)); replace hz:=Nat.lt_of_lt_of_le hz hb3.size; clear mP hb2 hb3)
   refine hK.out _ _ ⟨f0,f3,f4⟩ (fun hHeld=>?_)
   clear hK K
   refine uD 11 fun K hK=>?_
   go_simp
   ((with_reducible refine (dQ _ _ (p.h0++p.h1) _ _ _ _ OT.out nK.out mQ.out).mono ?_); rintro e w' ⟨rfl,rfl⟩; clear mQ)
   refine hK.out _ _ ⟨f0,f3,f4⟩ (fun hHeld=>?_)
   clear hK K
   refine bY 12 ?_
   refine bY 13 ?_
   refine bY 14 ?_
   refine bY 15 ?_
   refine bY 16 ?_
   refine bY 17 ?_
   refine bY 18 ?_
   refine bY 19 ?_
   refine bY 20 ?_
   refine bY 21 ?_
   refine bY 22 ?_
   refine bY 23 ?_
   refine bY 24 ?_
   refine bY 25 ?_
   refine bY 26 ?_
   refine bY 27 ?_
   refine bY 28 ?_
   refine lW 29 ?_
   refine lW 30 ?_
   refine lW 31 ?_
   refine bY 32 ?_
   refine dnH ?_
   refine NoPanic.normal ?_
   go_wp2_with fail
   go_ret
   exact ⟨by rw [HE.out]; rfl,HB.out⟩
  have t8':decide (p.quiet<0)=false:=by simpa using t8
  by_cases t9:200<p.quiet
  ·have t9':decide (200<p.quiet)=true:=by simpa using t9
   have HE:Hid (fA R p=4):=hid (by rw [HC2.out,if_pos (.inr (.inr (.inr (.inr t9))))])
   go_wp2_with fail
   refine wp_region_noPanic ?_
   refine wp_region_held_drew (S:=(fun w'=>w'.cell? ⟨w.heap.size+1,0,none⟩=some (.slice ac p.cells.length cc)∧w'.cell? ⟨w.heap.size+1,3,none⟩=some (.int .i64 p.turn)∧w'.cell? ⟨w.heap.size+1,4,none⟩=some (.int .i64 p.quiet))) (by kernel_rfl) ⟨f0,f3,f4⟩ (fun hHeld=>?_)
   refine bY 0 ?_
   refine bY 2 ?_
   refine bY 3 ?_
   refine bY 1 ?_
   refine bY 4 ?_
   refine uD 5 fun K hK=>?_
   go_simp
   ((with_reducible refine (gq _ _ _).mono ?_); rintro e w2 ⟨v2,rfl,mP,hb2⟩; have mQ:=hid mP; (first | (have hb3:=dw hb2) | (have hb3:=hb2)); replace f0:=(hb3.cell (p:=⟨w.heap.size+1,0,none⟩) hz).trans f0; replace f3:=(hb3.cell (p:=⟨w.heap.size+1,3,none⟩) hz).trans f3; replace f4:=(hb3.cell (p:=⟨w.heap.size+1,4,none⟩) hz).trans f4; replace HB:=hid (ak HB.out hb3 HB.out.size); replace kQ:=hid (kQ.out.below hb3 (Nat.le_refl _)); replace nK:=hid (nK.out.below hb3 (Nat.le_refl _)); replace hz:=Nat.lt_of_lt_of_le hz hb3.size; clear mP hb2 hb3)
   refine hK.out _ _ ⟨f0,f3,f4⟩ (fun hHeld=>?_)
   clear hK K
   refine uD 6 fun K hK=>?_
   go_simp
   ((with_reducible refine (dQ _ _ p.cells _ _ _ _ HT4.out kQ.out mQ.out).mono ?_); rintro e w' ⟨rfl,rfl⟩; clear mQ)
   refine hK.out _ _ ⟨f0,f3,f4⟩ (fun hHeld=>?_)
   clear hK K
   refine bY 7 ?_
   refine bY 8 ?_
   refine bY 9 ?_
   refine uD 10 fun K hK=>?_
   go_simp
   ((with_reducible refine (gq _ _ _).mono ?_); rintro e w2 ⟨v2,rfl,mP,hb2⟩; have mQ:=hid mP; (first | (have hb3:=dw hb2) | (have hb3:=hb2)); replace f0:=(hb3.cell (p:=⟨w.heap.size+1,0,none⟩) hz).trans f0; replace f3:=(hb3.cell (p:=⟨w.heap.size+1,3,none⟩) hz).trans f3; replace f4:=(hb3.cell (p:=⟨w.heap.size+1,4,none⟩) hz).trans f4; replace HB:=hid (ak HB.out hb3 HB.out.size); replace kQ:=hid (kQ.out.below hb3 (Nat.le_refl _)); replace nK:=hid (nK.out.below hb3 (Nat.le_refl _)); replace hz:=Nat.lt_of_lt_of_le hz hb3.size; clear mP hb2 hb3)
   refine hK.out _ _ ⟨f0,f3,f4⟩ (fun hHeld=>?_)
   clear hK K
   refine uD 11 fun K hK=>?_
   go_simp
   ((with_reducible refine (dQ _ _ (p.h0++p.h1) _ _ _ _ OT.out nK.out mQ.out).mono ?_); rintro e w' ⟨rfl,rfl⟩; clear mQ)
   refine hK.out _ _ ⟨f0,f3,f4⟩ (fun hHeld=>?_)
   clear hK K
   refine bY 12 ?_
   refine bY 13 ?_
   refine bY 14 ?_
   refine bY 15 ?_
   refine bY 16 ?_
   refine bY 17 ?_
   refine bY 18 ?_
   refine bY 19 ?_
   refine bY 20 ?_
   refine bY 21 ?_
   refine bY 22 ?_
   refine bY 23 ?_
   refine bY 24 ?_
   refine bY 25 ?_
   refine bY 26 ?_
   refine bY 27 ?_
   refine bY 28 ?_
   refine bY 29 ?_
   refine bY 30 ?_
   refine bY 31 ?_
   refine bY 32 ?_
   refine dnH ?_
   refine NoPanic.normal ?_
   go_wp2_with fail
   go_ret
   exact ⟨by rw [HE.out]; rfl,HB.out⟩
  have t9':decide (200<p.quiet)=false:=by simpa using t9
  have HE:Hid (fA R p=0):=hid (by rw [HC2.out,if_neg (by simp only [HT4.out,OT.out,Bool.false_eq_true,false_or]; rintro (h | h | h) <;> first | omega | (have:=HT6.out; simp at this; omega))])
  go_wp2_with fail
  refine wp_region_noPanic ?_
  refine wp_region_held_drew (S:=(fun w'=>w'.cell? ⟨w.heap.size+1,0,none⟩=some (.slice ac p.cells.length cc)∧w'.cell? ⟨w.heap.size+1,3,none⟩=some (.int .i64 p.turn)∧w'.cell? ⟨w.heap.size+1,4,none⟩=some (.int .i64 p.quiet))) (by kernel_rfl) ⟨f0,f3,f4⟩ (fun hHeld=>?_)
  refine bY 0 ?_
  refine bY 2 ?_
  refine bY 3 ?_
  refine bY 1 ?_
  refine bY 4 ?_
  refine uD 5 fun K hK=>?_
  go_simp
  ((with_reducible refine (gq _ _ _).mono ?_); rintro e w2 ⟨v2,rfl,mP,hb2⟩; have mQ:=hid mP; (first | (have hb3:=dw hb2) | (have hb3:=hb2)); replace f0:=(hb3.cell (p:=⟨w.heap.size+1,0,none⟩) hz).trans f0; replace f3:=(hb3.cell (p:=⟨w.heap.size+1,3,none⟩) hz).trans f3; replace f4:=(hb3.cell (p:=⟨w.heap.size+1,4,none⟩) hz).trans f4; replace HB:=hid (ak HB.out hb3 HB.out.size); replace kQ:=hid (kQ.out.below hb3 (Nat.le_refl _)); replace nK:=hid (nK.out.below hb3 (Nat.le_refl _)); replace hz:=Nat.lt_of_lt_of_le hz hb3.size; clear mP hb2 hb3)
  refine hK.out _ _ ⟨f0,f3,f4⟩ (fun hHeld=>?_)
  clear hK K
  refine uD 6 fun K hK=>?_
  go_simp
  ((with_reducible refine (dQ _ _ p.cells _ _ _ _ HT4.out kQ.out mQ.out).mono ?_); rintro e w' ⟨rfl,rfl⟩; clear mQ)
  refine hK.out _ _ ⟨f0,f3,f4⟩ (fun hHeld=>?_)
  clear hK K
  refine bY 7 ?_
  refine bY 8 ?_
  refine bY 9 ?_
  refine uD 10 fun K hK=>?_
  go_simp
  ((with_reducible refine (gq _ _ _).mono ?_); rintro e w2 ⟨v2,rfl,mP,hb2⟩; have mQ:=hid mP; (first | (have hb3:=dw hb2) | (have hb3:=hb2)); replace f0:=(hb3.cell (p:=⟨w.heap.size+1,0,none⟩) hz).trans f0; replace f3:=(hb3.cell (p:=⟨w.heap.size+1,3,none⟩) hz).trans f3; replace f4:=(hb3.cell (p:=⟨w.heap.size+1,4,none⟩) hz).trans f4; replace HB:=hid (ak HB.out hb3 HB.out.size); replace kQ:=hid (kQ.out.below hb3 (Nat.le_refl _)); replace nK:=hid (nK.out.below hb3 (Nat.le_refl _)); replace hz:=Nat.lt_of_lt_of_le hz hb3.size; clear mP hb2 hb3)
  refine hK.out _ _ ⟨f0,f3,f4⟩ (fun hHeld=>?_)
  clear hK K
  refine uD 11 fun K hK=>?_
  go_simp
  ((with_reducible refine (dQ _ _ (p.h0++p.h1) _ _ _ _ OT.out nK.out mQ.out).mono ?_); rintro e w' ⟨rfl,rfl⟩; clear mQ)
  refine hK.out _ _ ⟨f0,f3,f4⟩ (fun hHeld=>?_)
  clear hK K
  refine bY 12 ?_
  refine bY 13 ?_
  refine bY 14 ?_
  refine bY 15 ?_
  refine bY 16 ?_
  refine bY 17 ?_
  refine bY 18 ?_
  refine bY 19 ?_
  refine bY 20 ?_
  refine bY 21 ?_
  refine bY 22 ?_
  refine bY 23 ?_
  refine bY 24 ?_
  refine bY 25 ?_
  refine bY 26 ?_
  refine bY 27 ?_
  refine bY 28 ?_
  refine bY 29 ?_
  refine bY 30 ?_
  refine bY 31 ?_
  refine bY 32 ?_
  refine dnH ?_
  refine NoPanic.normal ?_
  go_wp2_with fail
  go_ret
  exact ⟨by rw [HE.out]; rfl,HB.out⟩
 have HT7:=hid t7
 have t7':(p.turn != 1)=true:=by simp [bne,t7]
 clear t7
 have HE:Hid (fA R p=4):=hid (by rw [HC2.out,if_pos (.inr (.inr (.inl ⟨by simpa using amx.out,by simpa using HT7.out⟩)))])
 go_wp2_with fail
 refine wp_region_noPanic ?_
 refine wp_region_held_drew (S:=(fun w'=>w'.cell? ⟨w.heap.size+1,0,none⟩=some (.slice ac p.cells.length cc)∧w'.cell? ⟨w.heap.size+1,3,none⟩=some (.int .i64 p.turn)∧w'.cell? ⟨w.heap.size+1,4,none⟩=some (.int .i64 p.quiet))) (by kernel_rfl) ⟨f0,f3,f4⟩ (fun hHeld=>?_)
 refine bY 0 ?_
 refine bY 2 ?_
 refine bY 3 ?_
 refine bY 1 ?_
 refine bY 4 ?_
 refine uD 5 fun K hK=>?_
 go_simp
 ((with_reducible refine (gq _ _ _).mono ?_); rintro e w2 ⟨v2,rfl,mP,hb2⟩; have mQ:=hid mP; (first | (have hb3:=dw hb2) | (have hb3:=hb2)); replace f0:=(hb3.cell (p:=⟨w.heap.size+1,0,none⟩) hz).trans f0; replace f3:=(hb3.cell (p:=⟨w.heap.size+1,3,none⟩) hz).trans f3; replace f4:=(hb3.cell (p:=⟨w.heap.size+1,4,none⟩) hz).trans f4; replace HB:=hid (ak HB.out hb3 HB.out.size); replace kQ:=hid (kQ.out.below hb3 (Nat.le_refl _)); replace nK:=hid (nK.out.below hb3 (Nat.le_refl _)); replace hz:=Nat.lt_of_lt_of_le hz hb3.size; clear mP hb2 hb3)
 refine hK.out _ _ ⟨f0,f3,f4⟩ (fun hHeld=>?_)
 clear hK K
 refine uD 6 fun K hK=>?_
 go_simp
 ((with_reducible refine (dQ _ _ p.cells _ _ _ _ HT4.out kQ.out mQ.out).mono ?_); rintro e w' ⟨rfl,rfl⟩; clear mQ)
 refine hK.out _ _ ⟨f0,f3,f4⟩ (fun hHeld=>?_)
 clear hK K
 refine bY 7 ?_
 refine bY 8 ?_
 refine bY 9 ?_
 refine uD 10 fun K hK=>?_
 go_simp
 ((with_reducible refine (gq _ _ _).mono ?_); rintro e w2 ⟨v2,rfl,mP,hb2⟩; have mQ:=hid mP; (first | (have hb3:=dw hb2) | (have hb3:=hb2)); replace f0:=(hb3.cell (p:=⟨w.heap.size+1,0,none⟩) hz).trans f0; replace f3:=(hb3.cell (p:=⟨w.heap.size+1,3,none⟩) hz).trans f3; replace f4:=(hb3.cell (p:=⟨w.heap.size+1,4,none⟩) hz).trans f4; replace HB:=hid (ak HB.out hb3 HB.out.size); replace kQ:=hid (kQ.out.below hb3 (Nat.le_refl _)); replace nK:=hid (nK.out.below hb3 (Nat.le_refl _)); replace hz:=Nat.lt_of_lt_of_le hz hb3.size; clear mP hb2 hb3)
 refine hK.out _ _ ⟨f0,f3,f4⟩ (fun hHeld=>?_)
 clear hK K
 refine uD 11 fun K hK=>?_
 go_simp
 ((with_reducible refine (dQ _ _ (p.h0++p.h1) _ _ _ _ OT.out nK.out mQ.out).mono ?_); rintro e w' ⟨rfl,rfl⟩; clear mQ)
 refine hK.out _ _ ⟨f0,f3,f4⟩ (fun hHeld=>?_)
 clear hK K
 refine bY 12 ?_
 refine bY 13 ?_
 refine bY 14 ?_
 refine bY 15 ?_
 refine bY 16 ?_
 refine bY 17 ?_
 refine bY 18 ?_
 refine bY 19 ?_
 refine bY 20 ?_
 refine bY 21 ?_
 refine bY 22 ?_
 refine bY 23 ?_
 refine lW 24 ?_
 refine lW 25 ?_
 refine lW 26 ?_
 refine bY 27 ?_
 refine bY 28 ?_
 refine lW 29 ?_
 refine lW 30 ?_
 refine lW 31 ?_
 refine bY 32 ?_
 refine dnH ?_
 refine NoPanic.normal ?_
 go_wp2_with fail
 go_ret
 exact ⟨by rw [HE.out]; rfl,HB.out⟩
end Go.Proofs.YteablcielclaeaaGreatDoor
