/- Copy, MakeA, MvLaw, End1. -/
import Derived.StillTailTactics
import Derived.Test.YteablcielclaeaaGreatDoorP10
namespace Go.Proofs.YteablcielclaeaaGreatDoor
open Go.ChangeShapes Go.WideShapes Go.ChangeAt Go.RowKit
set_option linter.unusedVariables false
open Go.Lib (hid)
def mF (base:Nat) (w:World) (p:bf) (vc v0 v1:Value):Prop:=
 w.ownsRow base 3 1 vc p.cells.length (ints p.cells)∧w.ownsRow base 3 1 v0 p.h0.length (ints p.h0)∧w.ownsRow base 3 1 v1 p.h1.length (ints p.h1) ∧
 (vc.ownBlock=none∨vc.ownBlock≠v0.ownBlock)∧(vc.ownBlock=none∨vc.ownBlock≠v1.ownBlock)∧(v0.ownBlock=none∨v0.ownBlock≠v1.ownBlock)
theorem mF.rd {base:Nat} {w:World} {p:bf} {vc v0 v1:Value} (h:mF base w p vc v0 v1):sH w p vc v0 v1:=⟨fQ.dB h.1,fQ.dB h.2.1,fQ.dB h.2.2.1⟩
theorem mF.base {base b:Nat} {w:World} {p:bf} {vc v0 v1:Value} (h:mF base w p vc v0 v1) (hb:b≤base):mF b w p vc v0 v1:=⟨own_base h.1 hb,own_base h.2.1 hb,own_base h.2.2.1 hb,h.2.2.2⟩
theorem Dj {v:Value} {v':Value} {B:Nat} (h:∀ k,v.ownBlock=some k→k<B) (h':∀ k,v'.ownBlock=some k→B≤k):v.ownBlock=none∨v.ownBlock≠v'.ownBlock:=by
 cases hv:v.ownBlock with
 | none=>exact .inl rfl
 | some k =>
  right
  intro e
  have:=h k hv
  have:=h' k e.symm
  omega
theorem qU {v0 v1:Value} (h:v0.ownBlock=none∨v0.ownBlock≠v1.ownBlock):v1.ownBlock=none∨v1.ownBlock≠v0.ownBlock:=by
 cases h1:v1.ownBlock with
 | none=>exact .inl rfl
 | some b =>
  right
  rcases h with h | h
  ·rw [h]; simp
  ·rw [h1] at h; exact fun e=>h e.symm
def Xq (p:bf) (w:World) (e:Ending) (w':World):Prop:=∃ vc v0 v1,e=.returned (sG p vc v0 v1)∧mF w.heap.size w' p vc v0 v1∧Below w.heap.size w w'
set_option maxRecDepth 100000 in
set_option maxHeartbeats 4000000 in
theorem KQ (p:bf) (vc v0 v1:Value) (w:World) (hp:sH w p vc v0 v1) (hc:p.cells.length≤1000000) (h0:p.h0.length≤1000000) (h1:p.h1.length≤1000000) :
  Calls Tryz.prog 153 #[(.agg #[vc,v0,v1,.int .i64 p.turn,.int .i64 p.quiet])] w (Xq p w):=by
 have HC:=hid hp.1
 have H0:=hid hp.2.1
 have H1:=hid hp.2.2
 obtain ⟨ac,cc,rfl,hc1,hc2⟩:=hp.1.form
 obtain ⟨a0,c0,rfl,_,hk2⟩:=hp.2.1.form
 obtain ⟨a1,c1,rfl,_,hl2⟩:=hp.2.2.form
 unfold maxLen at hc2 hk2 hl2
 clear hp
 go_enter Tryz.func153,Tryz.ntmps153
 go_upto_region 1 with (fail)
 refine qQ fun w0 B0 B1 fJ hs_=>?_
 have HB:=hid fJ
 have hz0:w.heap.size+1<w0.heap.size:=by omega
 clear hs_ fJ
 have JR:=hid (HC.out.below HB.out (Nat.le_refl _))
 have H0w:=hid (H0.out.below HB.out (Nat.le_refl _))
 have H1w:=hid (H1.out.below HB.out (Nat.le_refl _))
 have dL:=hid B0
 have JV:=hid B1
 have e0:=B0.cell 0 rfl
 clear B0 B1
 go_wp2_with fail
 refine (lJ _ p.cells _ JR.out hc).mono ?_
 rintro e wA0 ⟨vx,rfl,ho1,hb1⟩
 obtain ⟨an,cn,rfl⟩:=aG ho1
 have HOc:=hid ho1
 have HB1:=hid hb1
 have s1:=hb1.size
 have e0':=(dL.out.below HB1.out (by omega)).cell 0 rfl
 have e0f:=(dL.out.below HB1.out (by omega)).frozen 0
 clear ho1 hb1 e0
 go_upto_region 2 with (fail)
 have bxn:=(dL.out.below HB1.out (by omega)).set 0 (.slice an p.cells.length cn)
 have bzn:Box (wA0.setCell ⟨w.heap.size,0,none⟩ (.slice an p.cells.length cn)) (w.heap.size+1) [.slice none 0 0,.slice none 0 0,.slice none 0 0,.int .i64 0,.int .i64 0] 158:=(JV.out.below HB1.out (by omega)).far ⟨w.heap.size,0,none⟩ _ (by show ¬ w.heap.size+1=w.heap.size; omega)
 have ocn:=ownsRow_setCell_below (own_base HOc.out (show w.heap.size+1+1≤w0.heap.size by omega)) (a:=⟨w.heap.size,0,none⟩) (by simp; omega) (.slice an p.cells.length cn)
 have lzn:=(ak HB.out HB1.out HB.out.size).setCell (p:=⟨w.heap.size,0,none⟩) (Nat.le_refl _) (.slice an p.cells.length cn)
 have hln:w.heap.size+1+1≤(wA0.setCell ⟨w.heap.size,0,none⟩ (.slice an p.cells.length cn)).heap.size:=by simp; omega
 clear e0' e0f
 generalize (wA0.setCell ⟨w.heap.size,0,none⟩ (.slice an p.cells.length cn))=wq at *
 have Bxz:Box wq.drew w.heap.size [(.slice an p.cells.length cn),.slice a0 p.h0.length c0,.slice a1 p.h1.length c1,.int .i64 p.turn,.int .i64 p.quiet] 158:=bxn
 have BZz:Box wq.drew (w.heap.size+1) [.slice none 0 0,.slice none 0 0,.slice none 0 0,.int .i64 0,.int .i64 0] 158:=bzn
 have Ocz:wq.drew.ownsRow (w.heap.size+1+1) 3 1 (.slice an p.cells.length cn) p.cells.length (ints p.cells):=ocn
 have Lz:Below w.heap.size w wq.drew:=aK lzn
 have hlo:w.heap.size+1+1≤wq.drew.heap.size:=hln
 have R0z:=H0.out.below Lz (Nat.le_refl _)
 have R1z:=H1.out.below Lz (Nat.le_refl _)
 clear bxn bzn ocn lzn hln
 refine wp_region_noPanic ?_
 refine bI (S:=(fun w'=>w'.cell? ⟨w.heap.size,1,none⟩=some (.slice a0 p.h0.length c0)∧w'.cell? ⟨w.heap.size,2,none⟩=some (.slice a1 p.h1.length c1))) (L:=[10]) (by kernel_rfl) ⟨Bxz.cell 1 rfl,Bxz.cell 2 rfl⟩ (fun hHeld=>?_)
 refine aC 0 ?_
 refine aC 4 ?_
 refine aC 1 ?_
 refine aC 5 ?_
 refine dV 2 ?_
 refine dV 6 ?_
 refine fH 3 fun K hK=>?_
 go_simp
 refine (lJ _ p.h0 _ R0z (by omega)).mono ?_
 rintro e wa3 ⟨vx,rfl,ho3,hb3⟩
 obtain ⟨am,cm,rfl⟩:=aG ho3
 have Hz3:=hb3.size
 have Bx3:=Bxz.stays hb3
 have BZ3:=BZz.stays hb3
 have R13:=R1z.below hb3 (Nat.le_refl _)
 have Oc3:=aS Ocz hb3
 have L3:=ak Lz hb3 Lz.size
 have LtC:∀ k,Value.ownBlock (.slice an p.cells.length cn)=some k→k<wq.drew.heap.size:=fun k hk=>(Ocz.lt k hk).2
 have Lt3:∀ k,Value.ownBlock (.slice am p.h0.length cm)=some k→k<wa3.heap.size∧wq.drew.heap.size≤k:=fun k hk=>⟨(ho3.lt k hk).2,(ho3.lt k hk).1⟩
 have P3:=own_base ho3 hlo
 clear hb3 ho3
 refine hK.out _ _ ⟨Bx3.cell 1 rfl,Bx3.cell 2 rfl⟩ (fun hHeld=>?_)
 clear hK K
 refine fH 7 fun K hK=>?_
 go_simp
 refine (lJ _ p.h1 _ R13 (by omega)).mono ?_
 rintro e wa7 ⟨vx,rfl,uZ,hb7⟩
 obtain ⟨ao,co,rfl⟩:=aG uZ
 have hz3:=Hz3
 have Bx7:=Bx3.stays hb7
 have BZ7:=BZ3.stays hb7
 have Oc7:=aS Oc3 hb7
 have P37:=aS P3 hb7
 have L7:=ak L3 hb7 L3.size
 have P7:=own_base uZ (Nat.le_trans hlo (Nat.le_trans hz3 (Nat.le_refl _)))
 have Lt7:∀ k,Value.ownBlock (.slice ao p.h1.length co)=some k→wa3.heap.size≤k:=fun k hk=>(uZ.lt k hk).1
 clear hb7 uZ
 refine hK.out _ _ ⟨Bx7.cell 1 rfl,Bx7.cell 2 rfl⟩ (fun hHeld=>?_)
 clear hK K
 refine aC 8 ?_
 refine aC 9 ?_
 refine rP 10 fun K hK=>?_
 have BA:=Bx7.frozen 1
 have d2f:=Bx7.frozen 2
 have d1c:=Bx7.cell 1 rfl
 have d2c:=Bx7.cell 2 rfl
 go_simp
 refine aQ ?_
 intro w9 e9
 have ahJ:Box w9 w.heap.size [(.slice an p.cells.length cn),(.slice am p.h0.length cm),(.slice ao p.h1.length co),.int .i64 p.turn,.int .i64 p.quiet] 158:=by rw [e9]; exact (Bx7.set 1 (.slice am p.h0.length cm)).set 2 (.slice ao p.h1.length co)
 have E9:=hid e9
 clear e9 BA d2f d1c d2c
 refine hK.out _ _ ?_
 clear hK K
 refine jC ?_
 have HOw:Hid (mF (w.heap.size+1+1) w9 p (.slice an p.cells.length cn) (.slice am p.h0.length cm) (.slice ao p.h1.length co)):=hid ⟨by rw [E9.out]; exact ownsRow_setCell_below (ownsRow_setCell_below Oc7 (by simp; omega) _) (by simp; omega) _,by rw [E9.out]; exact ownsRow_setCell_below (ownsRow_setCell_below P37 (by simp; omega) _) (by simp; omega) _,by rw [E9.out]; exact ownsRow_setCell_below (ownsRow_setCell_below P7 (by simp; omega) _) (by simp; omega) _,Dj LtC (fun k hk=>(Lt3 k hk).2),Dj LtC (fun k hk=>Nat.le_trans Hz3 (Lt7 k hk)),Dj (fun k hk=>(Lt3 k hk).1) Lt7⟩
 have KC:Hid (Below w.heap.size w w9):=hid (by rw [E9.out]; exact (L7.setCell (Nat.le_refl _) _).setCell (Nat.le_refl _) _)
 have Xr:=hid ahJ
 have xY:Hid (Box w9 (w.heap.size+1) [.slice none 0 0,.slice none 0 0,.slice none 0 0,.int .i64 0,.int .i64 0] 158):=hid (by rw [E9.out]; exact ((BZ7.far ⟨w.heap.size,1,none⟩ _ (by show ¬ w.heap.size+1=w.heap.size; omega)).far ⟨w.heap.size,2,none⟩ _ (by show ¬ w.heap.size+1=w.heap.size; omega)))
 clear ahJ hHeld E9 LtC Lt3 Lt7 Oc7 P37 P7 L7 Bx7 Bx3 L3 P3 Oc3 R13 BZ7 BZ3
 go_upto_region 3 with (fail)
 refine wp_region_lit ?_
 refine aH (by rfl) 158 (.tmp 1) (by rfl) w.heap.size (by rfl) Xr.out Tryz.underlying158 (by rfl) (by kernel_rfl) ?_
 refine aT (vs:=[(.slice an p.cells.length cn),(.slice am p.h0.length cm),(.slice ao p.h1.length co),.int .i64 p.turn,.int .i64 p.quiet]) (by rfl) 158 (.tmp 2) (.tmp 17) (by rfl) (w.heap.size+1) (by rfl) (by rfl) xY.out rfl (by kernel_rfl) (by rfl) ?_
 have HS:=hid (xY.out.store (vs:=[(.slice an p.cells.length cn),(.slice am p.h0.length cm),(.slice ao p.h1.length co),.int .i64 p.turn,.int .i64 p.quiet]) rfl)
 have HOf:Hid (mF (w.heap.size+1+1) (w9.setCells (w.heap.size+1) 0 [(.slice an p.cells.length cn),(.slice am p.h0.length cm),(.slice ao p.h1.length co),.int .i64 p.turn,.int .i64 p.quiet]) p (.slice an p.cells.length cn) (.slice am p.h0.length cm) (.slice ao p.h1.length co)):=hid ⟨aN HOw.out.1 (by omega) 0 _,aN HOw.out.2.1 (by omega) 0 _,aN HOw.out.2.2.1 (by omega) 0 _,HOw.out.2.2.2⟩
 have Ir:=hid (below_setCells KC.out (show w.heap.size≤w.heap.size+1 by omega) 0 [(.slice an p.cells.length cn),(.slice am p.h0.length cm),(.slice ao p.h1.length co),.int .i64 p.turn,.int .i64 p.quiet])
 generalize (w9.setCells (w.heap.size+1) 0 [(.slice an p.cells.length cn),(.slice am p.h0.length cm),(.slice ao p.h1.length co),.int .i64 p.turn,.int .i64 p.quiet])=wf at *
 go_wp2_with fail
 exact bodyPost_ret (dJ rfl (by rfl) HS.out Tryz.underlying158 (by rfl) (by kernel_rfl)) rfl ⟨_,_,_,rfl,HOf.out.base (by omega),Ir.out⟩
end Go.Proofs.YteablcielclaeaaGreatDoor
namespace Go.Proofs.YteablcielclaeaaGreatDoor
open Go.ChangeShapes Go.WideShapes Go.ChangeAt Go.RowKit
set_option linter.unusedVariables false
def bG (R:aA) (p:bf) (m:aB):List Int:=
 let h1:=if 0≤m.src then p.hand p.turn else (p.hand p.turn).set m.piece.toNat ((p.hand p.turn).getD m.piece.toNat 0 - 1)
 let took:=p.cells.getD m.dst.toNat 0
 if 0<took∧R.keeps=true then h1.set ((took - 1) / 2).toNat (if 1000<h1.getD ((took - 1) / 2).toNat 0+1 then 1000 else h1.getD ((took - 1) / 2).toNat 0+1) else h1
def dP (p:bf) (m:aB):List Int:=(if 0≤m.src then p.cells.set m.src.toNat 0 else p.cells).set m.dst.toNat (2 * m.piece+p.turn+1)
def bM (R:aA) (p:bf) (m:aB):bf:=
 ⟨dP p m,if p.turn=0 then bG R p m else p.h0,if p.turn=0 then p.h1 else bG R p m,1 - p.turn,
  if 0<p.cells.getD m.dst.toNat 0∨m.src<0 then 0 else if 200<p.quiet+1 then 200 else p.quiet+1⟩
structure Hold (base:Nat) (w:World) (b:Nat) (cs l0 l1:List Int) (vc v0 v1:Value) (tu qu:Int):Prop where
 box:Box w b [vc,v0,v1,.int .i64 tu,.int .i64 qu] 158
 oc:w.ownsRow base 3 1 vc cs.length (ints cs)
 o0:w.ownsRow base 3 1 v0 l0.length (ints l0)
 o1:w.ownsRow base 3 1 v1 l1.length (ints l1)
 c0:vc.ownBlock=none∨vc.ownBlock≠v0.ownBlock
 c1:vc.ownBlock=none∨vc.ownBlock≠v1.ownBlock
 Ru:v0.ownBlock=none∨v0.ownBlock≠v1.ownBlock
 bb:∀ k,(vc.ownBlock=some k∨v0.ownBlock=some k∨v1.ownBlock=some k)→k≠b
section
variable {base b:Nat} {w:World} {cs l0 l1:List Int} {vc v0 v1:Value} {tu qu:Int}
theorem Iu {v:Value} {xs:List Int} {g c:Nat} (h:w.ownsRow base 3 1 v xs.length (ints xs)) (hv:v=.slice (some ⟨g,0,none⟩) xs.length c) (i:Nat) (z:Int) :
  (w.setCell ⟨g,i,none⟩ (.int .i64 z)).ownsRow base 3 1 v (xs.set i z).length (ints (xs.set i z)):=by
 subst hv
 have:=(h.stored i (.int .i64 z)).1
 rw [ints_set] at this
 rw [List.length_set]
 exact this
theorem jZ {v:Value} {xs:List Int} {n:Nat} (h:w.ownsRow base 3 1 v n (ints xs)) {p:Addr} (hne:v.ownBlock=none∨v.ownBlock≠some p.block) (u:Value):(w.setCell p u).ownsRow base 3 1 v n (ints xs):=
 h.kept (amk w p u) hne
theorem Hold.aeA {g c:Nat} (h:Hold base w b cs l0 l1 vc v0 v1 tu qu) (hv:vc=.slice (some ⟨g,0,none⟩) cs.length c) (i:Nat) (z:Int):Hold base (w.setCell ⟨g,i,none⟩ (.int .i64 z)) b (cs.set i z) l0 l1 vc v0 v1 tu qu:=
 have e:vc.ownBlock=some g:=by rw [hv]; rfl
 ⟨h.box.far _ _ (fun q=>h.bb g (.inl e) q.symm),Iu h.oc hv i z,jZ h.o0 (by have:=qU h.c0; rw [e] at this; exact this) _,jZ h.o1 (by have:=qU h.c1; rw [e] at this; exact this) _,h.c0,h.c1,h.Ru,h.bb⟩
theorem Hold.set0 {g c:Nat} (h:Hold base w b cs l0 l1 vc v0 v1 tu qu) (hv:v0=.slice (some ⟨g,0,none⟩) l0.length c) (i:Nat) (z:Int):Hold base (w.setCell ⟨g,i,none⟩ (.int .i64 z)) b cs (l0.set i z) l1 vc v0 v1 tu qu:=
 have e:v0.ownBlock=some g:=by rw [hv]; rfl
 ⟨h.box.far _ _ (fun q=>h.bb g (.inr (.inl e)) q.symm),jZ h.oc (by have:=h.c0; rw [e] at this; exact this) _,Iu h.o0 hv i z,jZ h.o1 (by have:=qU h.Ru; rw [e] at this; exact this) _,h.c0,h.c1,h.Ru,h.bb⟩
theorem Hold.set1 {g c:Nat} (h:Hold base w b cs l0 l1 vc v0 v1 tu qu) (hv:v1=.slice (some ⟨g,0,none⟩) l1.length c) (i:Nat) (z:Int):Hold base (w.setCell ⟨g,i,none⟩ (.int .i64 z)) b cs l0 (l1.set i z) vc v0 v1 tu qu:=
 have e:v1.ownBlock=some g:=by rw [hv]; rfl
 ⟨h.box.far _ _ (fun q=>h.bb g (.inr (.inr e)) q.symm),jZ h.oc (by have:=h.c1; rw [e] at this; exact this) _,jZ h.o0 (by have:=h.Ru; rw [e] at this; exact this) _,Iu h.o1 hv i z,h.c0,h.c1,h.Ru,h.bb⟩
theorem Hold.TP (h:Hold base w b cs l0 l1 vc v0 v1 tu qu) (z:Int):Hold base (w.setCell ⟨b,3,none⟩ (.int .i64 z)) b cs l0 l1 vc v0 v1 z qu:=
 have f:∀ v:Value,(∀ k,v.ownBlock=some k→k≠b)→v.ownBlock=none∨v.ownBlock≠some b:=fun v hv=>by
  cases q:v.ownBlock with
  | none=>exact .inl rfl
  | some k=>exact .inr (fun e=>hv k q (by simpa using e))
 ⟨h.box.set 3 _,jZ h.oc (f _ fun k q=>h.bb k (.inl q)) _,jZ h.o0 (f _ fun k q=>h.bb k (.inr (.inl q))) _,jZ h.o1 (f _ fun k q=>h.bb k (.inr (.inr q))) _,h.c0,h.c1,h.Ru,h.bb⟩
theorem Hold.Dk (h:Hold base w b cs l0 l1 vc v0 v1 tu qu) (z:Int):Hold base (w.setCell ⟨b,4,none⟩ (.int .i64 z)) b cs l0 l1 vc v0 v1 tu z:=
 have f:∀ v:Value,(∀ k,v.ownBlock=some k→k≠b)→v.ownBlock=none∨v.ownBlock≠some b:=fun v hv=>by
  cases q:v.ownBlock with
  | none=>exact .inl rfl
  | some k=>exact .inr (fun e=>hv k q (by simpa using e))
 ⟨h.box.set 4 _,jZ h.oc (f _ fun k q=>h.bb k (.inl q)) _,jZ h.o0 (f _ fun k q=>h.bb k (.inr (.inl q))) _,jZ h.o1 (f _ fun k q=>h.bb k (.inr (.inr q))) _,h.c0,h.c1,h.Ru,h.bb⟩
theorem Hold.drew (h:Hold base w b cs l0 l1 vc v0 v1 tu qu):Hold base w.drew b cs l0 l1 vc v0 v1 tu qu:=⟨h.box,h.oc,h.o0,h.o1,h.c0,h.c1,h.Ru,h.bb⟩
theorem sS {v:Value} {xs:List Int} (h:w.ownsRow base 3 1 v xs.length (ints xs)) (hn:0<xs.length):∃ g c,v=.slice (some ⟨g,0,none⟩) xs.length c∧g<w.heap.size∧base≤g ∧
  (∀ i,i<xs.length→w.cell? ⟨g,i,none⟩=some (.int .i64 (xs.getD i 0)))∧(∀ i,w.frozen? ⟨g,i,none⟩=false):=by
 obtain ⟨g,c,rfl⟩:=dY h hn
 exact ⟨g,c,rfl,(h.lt g rfl).2,(h.lt g rfl).1,fun i hi=>(h.cellAt i (by omega)).trans (dI _ _ hi),fun i=>h.frozenAt i⟩
end
def L0 (t:Int) (l a:List Int):List Int:=if t=0 then l else a
def L1 (t:Int) (l c:List Int):List Int:=if t=0 then c else l
theorem Hold.setH {base b:Nat} {w:World} {cs l a c:List Int} {vc v0 v1:Value} {tu qu t:Int} {g cp:Nat} (h:Hold base w b cs (L0 t l a) (L1 t l c) vc v0 v1 tu qu) (hv:(if t=0 then v0 else v1)=.slice (some ⟨g,0,none⟩) l.length cp) (i:Nat) (z:Int) :
  Hold base (w.setCell ⟨g,i,none⟩ (.int .i64 z)) b cs (L0 t (l.set i z) a) (L1 t (l.set i z) c) vc v0 v1 tu qu:=by
 unfold L0 L1 at *
 by_cases e:t=0
 ·simp only [if_pos e] at *
  exact h.set0 hv i z
 ·simp only [if_neg e] at *
  exact h.set1 hv i z
theorem Hold.oh {base b:Nat} {w:World} {cs l a c:List Int} {vc v0 v1:Value} {tu qu t:Int} (h:Hold base w b cs (L0 t l a) (L1 t l c) vc v0 v1 tu qu):w.ownsRow base 3 1 (if t=0 then v0 else v1) l.length (ints l):=by
 by_cases e:t=0
 ·have:=h.o0; unfold L0 at this; rw [if_pos e] at *; exact this
 ·have:=h.o1; unfold L1 at this; rw [if_neg e] at *; exact this
theorem Hold.ch {base b:Nat} {w:World} {cs l0 l1:List Int} {vc v0 v1:Value} {tu qu t:Int} (h:Hold base w b cs l0 l1 vc v0 v1 tu qu) (h0:0≤t) (h1:t≤1):w.cell? ⟨b,1+t.toNat,none⟩=some (if t=0 then v0 else v1):=by
 by_cases e:t=0
 ·rw [if_pos e,e]; exact h.box.cell 1 rfl
 ·have e1:t=1:=by omega
  rw [if_neg e,e1]; exact h.box.cell 2 rfl
def KR (R:aA) (p:bf) (m:aB) (w:World) (e:Ending) (w':World):Prop:=∃ vc v0 v1,e=.returned (sG (bM R p m) vc v0 v1)∧mF w.heap.size w' (bM R p m) vc v0 v1∧Below w.heap.size w w'
theorem mF.setCells {base b:Nat} {w:World} {p:bf} {vc v0 v1:Value} (h:mF base w p vc v0 v1) (hb:b<base) (o:Nat) (vs:List Value):mF base (w.setCells b o vs) p vc v0 v1:=
 ⟨aN h.1 hb o vs,aN h.2.1 hb o vs,aN h.2.2.1 hb o vs,h.2.2.2⟩
structure Fits (R:aA) (p:bf) (m:aB):Prop where
 d:0≤m.dst∧m.dst<p.cells.length
 s : -1≤m.src∧m.src<p.cells.length
 k:0≤m.piece∧m.piece<R.pieces.length
end Go.Proofs.YteablcielclaeaaGreatDoor
namespace Go.Proofs.YteablcielclaeaaGreatDoor
set_option linter.unusedVariables false
theorem AQ (m:aB):∀ l:List aB,m∈cZ l↔m∈l
 | []=>by simp [cZ]
 | [x]=>by simp [cZ]
 | x :: y :: t=>by
  have ih:=AQ m (y :: t)
  by_cases h:x=y
  ·simp only [cZ,if_pos h,ih]
   subst h
   simp
  ·simp only [cZ,if_neg h,List.mem_cons] at ih ⊢
   rw [ih]
theorem sU {R:aA} {p:bf} {m:aB}:m∈dZ R p↔m∈pO R p:=by
 unfold dZ ql
 rw [AQ,List.mem_mergeSort]
theorem Dl {R:aA} {p:bf} {m:aB} (h:m∈oP R p):∃ s k:Nat,s<p.cells.length∧p.cells.getD s 0=0∧k<(p.hand p.turn).length∧0<(p.hand p.turn).getD k 0∧m=⟨-1,s,k⟩:=by
 unfold oP at h
 obtain ⟨s,hs,h⟩:=List.mem_flatMap.1 h
 unfold je at h
 split at h
 ·cases h
 ·rename_i hn
  obtain ⟨k,hk,h⟩:=List.mem_filterMap.1 h
  split at h
  ·simp only [Option.some.injEq] at h
   exact ⟨s,k,by simpa using hs,by
    by_cases e:p.cells.getD s 0=0
    ·exact e
    ·exact absurd (.inl e) hn,by simpa using hk,by assumption,h.symm⟩
  ·cases h
theorem zL {R:aA} {p:bf} {m:aB} (h:m∈(List.range p.cells.length).flatMap (iU R p)):∃ s:Nat,s<p.cells.length∧0≠p.cells.getD s 0∧(p.cells.getD s 0 - 1) % 2=p.turn ∧
  ∃ x∈(R.pieces.getD ((p.cells.getD s 0 - 1) / 2).toNat default).ways,∃ t∈iY R p s x,m=kS R p s ((p.cells.getD s 0 - 1) / 2) t:=by
 obtain ⟨s,hs,h⟩:=List.mem_flatMap.1 h
 unfold iU at h
 split at h
 ·cases h
 ·rename_i hn
  obtain ⟨x,hx,h⟩:=List.mem_flatMap.1 h
  obtain ⟨t,ht,h⟩:=List.mem_map.1 h
  exact ⟨s,by simpa using hs,fun e=>hn (.inl e.symm),by
   by_cases e:(p.cells.getD s 0 - 1) % 2=p.turn
   ·exact e
   ·exact absurd (.inr e) hn,x,hx,t,ht,h.symm⟩
theorem xZ {R:aA} {p:bf} {m:aB} (K:qg R p) (h:m∈dZ R p):Fits R p m:=by
 rw [sU] at h
 unfold pO at h
 have hnp:=K.r.np
 rcases List.mem_append.1 h with h | h
 ·obtain ⟨s,k,hs,-,hk,-,rfl⟩:=Dl h
  have:=sN K
  exact ⟨⟨by simp,by simpa using hs⟩,⟨by simp,by simp; omega⟩,⟨by simp,by simp; omega⟩⟩
 ·obtain ⟨s,hs,hn,-,x,-,t,ht,rfl⟩:=zL h
  have htm:=KO ht
  have hc:=K.cell s
  have hcl:=K.cl
  have hkz:0≤(p.cells.getD s 0 - 1) / 2∧(p.cells.getD s 0 - 1) / 2<R.pieces.length:=by omega
  generalize (p.cells.getD s 0 - 1) / 2=kz at *
  have hpr:=(K.r.pc kz.toNat (by omega)).2.1
  unfold kS
  refine ⟨⟨htm.1,by show t<_; omega⟩,⟨by show -1≤(s:Int); omega,by show (s:Int)<_; omega⟩,?_⟩
  dsimp only
  split
  ·rename_i hh; omega
  ·exact hkz
theorem mem_set {l:List Int} {k:Nat} {z c:Int} (h:c∈l.set k z):c=z∨c∈l:=(List.mem_or_eq_of_mem_set h).symm
theorem abj {R:aA} {p:bf} {m:aB} (K:qg R p) (h:m∈dZ R p):qg R (bM R p m):=by
 have F:=xZ K h
 obtain ⟨hd1,hd2⟩:=F.d
 obtain ⟨hs1,hs2⟩:=F.s
 obtain ⟨hk1,hk2⟩:=F.k
 have htu:=K.tu
 have hq:=K.qu
 have hnp:=K.r.np
 have hhl:=sN K
 have hhb:∀ c∈p.hand p.turn,0≤c∧c≤1000:=by unfold bf.hand; split; exact K.b0; exact K.b1
 have hput:m.src<0→0<(p.hand p.turn).getD m.piece.toNat 0:=by
  intro hs
  rw [sU] at h
  unfold pO at h
  rcases List.mem_append.1 h with h | h
  ·obtain ⟨s,k,_,-,hk,hp,rfl⟩:=Dl h
   simpa using hp
  ·obtain ⟨s,_,hn,-,x,-,t,ht,rfl⟩:=zL h
   simp [kS] at hs
   omega
 have hget:∀ i,0≤(p.hand p.turn).getD i 0∧(p.hand p.turn).getD i 0≤1000:=fun i=>by
  by_cases hi:i<(p.hand p.turn).length
  ·rw [List.getD_eq_getElem?_getD,List.getElem?_eq_getElem hi]; exact hhb _ (List.getElem_mem hi)
  ·rw [List.getD_eq_getElem?_getD,List.getElem?_eq_none (by omega)]; simp
 have hl1:(if 0≤m.src then p.hand p.turn else (p.hand p.turn).set m.piece.toNat ((p.hand p.turn).getD m.piece.toNat 0 - 1)).length=R.pieces.length:=by split <;> simp [hhl]
 have hb1:∀ c∈(if 0≤m.src then p.hand p.turn else (p.hand p.turn).set m.piece.toNat ((p.hand p.turn).getD m.piece.toNat 0 - 1)),0≤c∧c≤1000:=by
  intro c hc
  split at hc
  ·exact hhb c hc
  ·rename_i hs
   rcases mem_set hc with rfl | hc
   ·have:=hput (by omega); have:=hget m.piece.toNat; omega
   ·exact hhb c hc
 have hH:(bG R p m).length=R.pieces.length∧∀ c∈bG R p m,0≤c∧c≤1000:=by
  unfold bG
  generalize (if 0≤m.src then p.hand p.turn else (p.hand p.turn).set m.piece.toNat ((p.hand p.turn).getD m.piece.toNat 0 - 1))=l at *
  have hg:∀ i,0≤l.getD i 0:=fun i=>by
   by_cases hi:i<l.length
   ·rw [List.getD_eq_getElem?_getD,List.getElem?_eq_getElem hi]; exact (hb1 _ (List.getElem_mem hi)).1
   ·rw [List.getD_eq_getElem?_getD,List.getElem?_eq_none (by omega)]; simp
  simp only
  split
  ·refine ⟨by simp [hl1],fun c hc=>?_⟩
   rcases mem_set hc with rfl | hc
   ·have:=hg ((p.cells.getD m.dst.toNat 0 - 1) / 2).toNat
    split <;> omega
   ·exact hb1 c hc
  ·exact ⟨hl1,hb1⟩
 refine ⟨K.r,?_,?_,?_,?_,?_,?_,?_,?_⟩
 ·show ((dP p m).length:Int)=_
  unfold dP
  split <;> simp [K.cl]
 ·show (if p.turn=0 then bG R p m else p.h0).length=_
  split
  ·exact hH.1
  ·exact K.l0
 ·show (if p.turn=0 then p.h1 else bG R p m).length=_
  split
  ·exact K.l1
  ·exact hH.1
 ·intro c hc
  have hc:c∈dP p m:=hc
  unfold dP at hc
  rcases mem_set hc with rfl | hc
  ·omega
  ·split at hc
   ·rcases mem_set hc with rfl | hc
    ·omega
    ·exact K.cb c hc
   ·exact K.cb c hc
 ·show ∀ c∈(if p.turn=0 then bG R p m else p.h0),_
  split
  ·exact hH.2
  ·exact K.b0
 ·show ∀ c∈(if p.turn=0 then p.h1 else bG R p m),_
  split
  ·exact K.b1
  ·exact hH.2
 ·show 1 - p.turn=0∨1 - p.turn=1
  omega
 ·unfold bM
  dsimp only
  split
  ·omega
  ·split <;> omega
end Go.Proofs.YteablcielclaeaaGreatDoor
namespace Go.Proofs.YteablcielclaeaaGreatDoor
open Go.ChangeShapes Go.WideShapes Go.ChangeAt Go.RowKit
set_option linter.unusedVariables false
set_option maxHeartbeats 4000000
set_option maxRecDepth 100000
open Go.Lib (hid)
def ny (R:aA) (p:bf) (pl x y:Int):Bool:=
  if x<0∨R.width≤x∨y<0∨R.height≤y then false
  else decide (0<p.cells.getD (y * R.width+x).toNat 0) && ((p.cells.getD (y * R.width+x).toNat 0 - 1) % 2 == pl)
def KT (j:Int):Int:=if j=1 then 0 else 1
def KU (j:Int):Int:=if j=0 then 0 else if j=3 then -1 else 1
def iM (R:aA) (p:bf) (pl:Int) (cnt:Nat) (s:Nat) (j:Int):Bool:=
  (List.range cnt).all fun i=>ny R p pl ((s:Int) % R.width+i * KT j) ((s:Int) / R.width+i * KU j)
def qp (R:aA) (p:bf) (pl:Int) (cnt:Nat):Bool:=(List.range p.cells.length).any fun s=>(List.range 4).any fun j=>iM R p pl cnt s j
theorem qV {R:aA} {p:bf} {pl:Int} {cnt s:Nat} {j:Int} (hs:s<p.cells.length) (h0:0≤j) (h4:j<4) (h:iM R p pl cnt s j=true):qp R p pl cnt=true:=by
  unfold qp
  rw [List.any_eq_true]
  refine ⟨s,by simpa using hs,?_⟩
  rw [List.any_eq_true]
  exact ⟨j.toNat,by simp; omega,by rw [Int.toNat_of_nonneg h0]; exact h⟩
theorem KW {R:aA} {p:bf} {pl:Int} {cnt:Nat} (h:∀ s,s<p.cells.length→∀ j:Int,0≤j→j<4→iM R p pl cnt s j=false):qp R p pl cnt=false:=by
  unfold qp
  rw [List.any_eq_false]
  intro s hs
  rw [Bool.not_eq_true,List.any_eq_false]
  intro j hj
  rw [h s (by simpa using hs) j (by omega) (by simp at hj; omega)]
  simp
theorem yg {f:Nat→Bool} {n k:Nat} (h:∀ i,i<k→f i=true) (hk:k=n):(List.range n).all f=true:=by
  subst hk
  rw [List.all_eq_true]
  intro i hi
  exact h i (by simpa using hi)
theorem BN {f:Nat→Bool} {n k:Nat} (hk:k<n) (h:f k=false):(List.range n).all f=false:=by
  rw [List.all_eq_false]
  exact ⟨k,by simpa using hk,by simp [h]⟩
theorem abk {W H x y:Int} (h1:0≤x) (h2:x<W) (h3:0≤y) (h4:y<H):0≤y * W+x∧y * W+x<W * H:=by
  have a:=Int.mul_nonneg h3 (show 0≤W by omega)
  have b:(y+1) * W≤H * W:=Int.mul_le_mul_of_nonneg_right (by omega) (by omega)
  rw [Int.add_mul,Int.one_mul,Int.mul_comm H W] at b
  omega
theorem abl {len s:Nat} {W H:Int} (hl:(len:Int)=W * H) (hW:0<W) (hs:s<len):(s:Int) / W<H:=Int.ediv_lt_of_lt_mul hW (by rw [Int.mul_comm]; omega)
theorem BO (R:aA) (vp vs ve:Value) (p:bf) (ac:Option Addr) (cc:Nat) (v0 v1:Value) (pl x y:Int) (b0 b1 b2:Nat) (w:World) (B0:Box w b0 [.string R.name,.int .i64 R.width,.int .i64 R.height,vp,vs,.bool R.falls,.bool R.keeps,ve,.int .i64 R.blocked,.int .i64 R.quiet,.int .i64 R.bC] 61) (B1:Box w b1 [.slice ac p.cells.length cc,v0,v1,.int .i64 p.turn,.int .i64 p.quiet] 158) (B2:Box w b2 [.int .i64 pl] 3)
    (hp:fQ w (.slice ac p.cells.length cc) p.cells) (K:qg R p) (hx1 : -100≤x) (hx2:x≤100) (hy1 : -100≤y) (hy2:y≤100) :
    Calls Tryz.prog 229 (#[.int .i64 x,.int .i64 y] ++ #[.pointer (some ⟨b0,0,none⟩),.pointer (some ⟨b1,0,none⟩),.pointer (some ⟨b2,0,none⟩)]) w fun e w'=>e=.returned (.bool (ny R p pl x y))∧w=w':=by
  show Calls Tryz.prog 229 #[.int .i64 x,.int .i64 y,.pointer (some ⟨b0,0,none⟩),.pointer (some ⟨b1,0,none⟩),.pointer (some ⟨b2,0,none⟩)] w _
  have HD:Hid (ny R p pl x y=if x<0∨R.width≤x∨y<0∨R.height≤y then false else decide (0<p.cells.getD (y * R.width+x).toNat 0) && ((p.cells.getD (y * R.width+x).toNat 0 - 1) % 2 == pl)):=hid rfl
  have Xh:=hid K.cl
  have TK:=hid K.cell
  have hlen:=K.len
  obtain ⟨hw1,hw2⟩:=K.r.w
  obtain ⟨hh1,hh2⟩:=K.r.h
  have hnp:=K.r.np.2
  have r1:=B0.cell 1 rfl
  have r2:=B0.cell 2 rfl
  have e0:=B1.cell 0 rfl
  have z0:=B2.cell 0 rfl
  have HP:=hid hp
  obtain ⟨a',c',hv,hc1,hc2⟩:=hp.form
  unfold maxLen at hc2
  clear B0 B1 B2 hp
  by_cases o1:x<0
  · have HE:Hid (ny R p pl x y=false):=hid (by rw [HD.out,if_pos (.inl o1)])
    go_enter Tryz.func229,Tryz.ntmps229
    go_wp2
    go_ret
    exact ⟨by rw [HE.out]; rfl,rfl⟩
  by_cases o2:R.width≤x
  · have HE:Hid (ny R p pl x y=false):=hid (by rw [HD.out,if_pos (.inr (.inl o2))])
    go_enter Tryz.func229,Tryz.ntmps229
    go_wp2
    go_ret
    exact ⟨by rw [HE.out]; rfl,rfl⟩
  by_cases o3:y<0
  · have HE:Hid (ny R p pl x y=false):=hid (by rw [HD.out,if_pos (.inr (.inr (.inl o3)))])
    go_enter Tryz.func229,Tryz.ntmps229
    go_wp2
    go_ret
    exact ⟨by rw [HE.out]; rfl,rfl⟩
  by_cases o4:R.height≤y
  · have HE:Hid (ny R p pl x y=false):=hid (by rw [HD.out,if_pos (.inr (.inr (.inr o4)))])
    go_enter Tryz.func229,Tryz.ntmps229
    go_wp2
    go_ret
    exact ⟨by rw [HE.out]; rfl,rfl⟩
  have HD2:Hid (ny R p pl x y=(decide (0<p.cells.getD (y * R.width+x).toNat 0) && ((p.cells.getD (y * R.width+x).toNat 0 - 1) % 2 == pl))):=hid (by rw [HD.out,if_neg (by omega)])
  obtain ⟨i1,i2⟩:=abk (show 0≤x by omega) (show x<R.width by omega) (show 0≤y by omega) (show y<R.height by omega)
  rw [← Xh.out] at i2
  have m1:0≤y * R.width:=Int.mul_nonneg (by omega) (by omega)
  have m2:y * R.width≤64:=by omega
  obtain ⟨g,o,rfl,hcell⟩:=eP HP.out (by omega)
  have hce:=hcell (y * R.width+x).toNat (by omega)
  obtain ⟨b1',b2'⟩:=TK.out (y * R.width+x).toNat
  clear hcell HD hv
  generalize p.cells.getD (y * R.width+x).toNat 0=c at *
  by_cases hc0:0<c
  · have HE:Hid (ny R p pl x y=((c - 1) % 2 == pl)):=hid (by rw [HD2.out]; simp [hc0])
    go_enter Tryz.func229,Tryz.ntmps229
    go_wp2
    go_ret
    exact ⟨by rw [HE.out]; rfl,rfl⟩
  · have HE:Hid (ny R p pl x y=false):=hid (by rw [HD2.out]; simp [hc0])
    go_enter Tryz.func229,Tryz.ntmps229
    go_wp2
    go_ret
    exact ⟨by rw [HE.out]; rfl,rfl⟩
theorem BP (args:Array Value) (w:World):(callFunc 229 args).run Tryz.prog w=.ok (.enter 229 args) w:=by kernel_rfl
theorem Iw {R:aA} {p:bf} {pl x y:Int} (h:ny R p pl x y=true):0≤x∧x<R.width∧0≤y∧y<R.height:=by
  unfold ny at h
  by_cases e:x<0∨R.width≤x∨y<0∨R.height≤y
  · rw [if_pos e] at h; cases h
  · omega
theorem oW (n:Nat) (d:Int):((n+1:Nat):Int) * d=(n:Int) * d+d:=by rw [Int.natCast_succ,Int.add_mul,Int.one_mul]
theorem Xt (R:aA) (vp vs ve:Value) (p:bf) (vc v0 v1:Value) (pl:Int) (cnt:Nat) (w:World) (hp:fQ w vc p.cells) (K:qg R p) (hcnt:cnt≤64) :
    Calls Tryz.prog 203 #[(.agg #[.string R.name,.int .i64 R.width,.int .i64 R.height,vp,vs,.bool R.falls,.bool R.keeps,ve,.int .i64 R.blocked,.int .i64 R.quiet,.int .i64 R.bC]),(.agg #[vc,v0,v1,.int .i64 p.turn,.int .i64 p.quiet]),.int .i64 pl,.int .i64 cnt] w fun e w'=>e=.returned (.bool (qp R p pl cnt))∧Below w.heap.size w w':=by
  have HC:=hid hp
  obtain ⟨ac,cc,rfl,hc1,hc2⟩:=hp.form
  unfold maxLen at hc2
  have hlen:=K.len
  obtain ⟨hw1,hw2⟩:=K.r.w
  obtain ⟨hh1,hh2⟩:=K.r.h
  have Xh:=hid K.cl
  clear hp
  go_enter Tryz.func203,Tryz.ntmps203
  go_upto_region 1 with (fail)
  refine KE fun w0 B0 B1 B2 fJ hs_=>?_
  have HB:=hid fJ
  have hz0:w.heap.size+1+1<w0.heap.size:=by omega
  clear hs_ fJ
  have JR:=hid (HC.out.below HB.out (Nat.le_refl _))
  have HB0:=hid B0
  have HB1:=hid B1
  have HB2:=hid B2
  have e0:=B1.cell 0 rfl
  clear B0 B1 B2
  go_wp2_with fail
  clear e0
  go_loopw [20] (fun i wr=>∃ k:Nat,k≤p.cells.length∧i=.int .i64 k∧Hid (∀ s,s<k→∀ j:Int,0≤j→j<4→iM R p pl cnt s j=false)∧Hid (Below w0.heap.size w0 wr)) (fun i _=>p.cells.length - (intOf i).toNat)
  case atStart=>exact ⟨0,Nat.zero_le _,rfl,hid (fun s hs=>absurd hs (Nat.not_lt_zero _)),hid (Below.refl _ _)⟩
  case round =>
    obtain ⟨k,hk,rfl,Rw,bn⟩:=hrel
    by_cases hlt:k<p.cells.length
    · have hw0:¬ R.width=0:=by omega
      have q3:=Int.emod_nonneg (k:Int) (show R.width≠0 by omega)
      have q4:=Int.emod_lt_of_pos (k:Int) (show 0<R.width by omega)
      have q5:0≤(k:Int) / R.width:=Int.ediv_nonneg (by omega) (by omega)
      have q6:=abl Xh.out (by omega) hlt
      go_wp2_with fail
      go_loopw [28] (fun i wr=>∃ j:Int,0≤j∧j≤4∧i=.int .i64 j∧Hid (∀ i:Int,0≤i→i<j→iM R p pl cnt k i=false)∧Hid (Below w0.heap.size w0 wr)) (fun i _=>(4 - intOf i).toNat)
      case atStart=>exact ⟨0,by omega,by omega,rfl,hid (fun i h0 h1=>by omega),bn⟩
      case round =>
       obtain ⟨j,hj0,hj4,rfl,HJ,bn⟩:=hrel
       have hsz:=bn.out.size
       have hj:j=0∨j=1∨j=2∨j=3∨j=4:=by omega
       clear hj0 hj4
       rcases hj with rfl | rfl | rfl | rfl | rfl
       · obtain ⟨wB,rfl⟩:∃ wB:World,wB=wr:=⟨_,rfl⟩
         have hix:∀ w':World,(Instr.index 315 (.agg #[.int .i64 1,.int .i64 0,.int .i64 0,.int .i64 1,.int .i64 1,.int .i64 1,.int .i64 1,.int .i64 (-1)]) (.int .i64 0)).run Tryz.prog w'=.ok (.agg #[.int .i64 (1),.int .i64 (0)]) w':=fun w'=>by kernel_rfl
         go_wp2_with fail
         have hbd:=(Box.new' wB wB.heap.size [.int .i64 (1),.int .i64 (0)] 81 rfl)
         have fM:=hid (bn.out.alloc hsz (.cells #[.int .i64 (1),.int .i64 (0)] 81))
         generalize (wB.alloc (.cells #[.int .i64 (1),.int .i64 (0)] 81))=wn at *
         have hzn:=hbd.lt
         have r1:=(HB0.out.below fM.out (by omega)).cell 1 rfl
         have Pn:=hid hbd
         clear hbd
         go_quiet (fail)
         go_wp2_with fail
         clear r1
         go_loopw [13,14,15] (fun vx vy vn wr=>∃ (n:Nat) (X Y:Int),n≤cnt∧vn=.int .i64 n∧vx=.int .i64 X∧vy=.int .i64 Y∧Hid (X=(k:Int) % R.width+n * KT 0)∧Hid (Y=(k:Int) / R.width+n * KU 0)∧-1≤X∧X≤9∧-1≤Y∧Y≤9∧Hid (∀ i,i<n→ny R p pl ((k:Int) % R.width+i * KT 0) ((k:Int) / R.width+i * KU 0)=true)∧Hid (Below wn.heap.size wn wr)) (fun _ _ n _=>cnt - (intOf n).toNat)
         case atStart=>exact ⟨0,_,_,Nat.zero_le _,rfl,rfl,rfl,hid (by simp),hid (by simp),by omega,by omega,by omega,by omega,hid (fun i hi=>absurd hi (Nat.not_lt_zero _)),hid (below_drewN (Below.refl _ _) _)⟩
         case round =>
           obtain ⟨n,X,Y,hn,rfl,rfl,rfl,HX,HY,hX1,hX2,hY1,hY2,HA,mD⟩:=hrel
           have TJ:=mD.out.size
           have HB3:=hid (ak fM.out mD.out fM.out.size)
           by_cases hnc:n<cnt
           · have aeB:(n:Int)<(cnt:Int):=by omega
             have hcf:=BP
             have HOW:=hid (BO R vp vs ve p ac cc v0 v1 pl X Y _ _ _ wr (HB0.out.below HB3.out (by omega)) (HB1.out.below HB3.out (by omega)) (HB2.out.below HB3.out (by omega)) (JR.out.below HB3.out (Nat.le_refl _)) K (by omega) (by omega) (by omega) (by omega))
             go_wp2_with fail
             refine HOW.out.mono ?_
             rintro e w' ⟨rfl,rfl⟩
             cases how:ny R p pl X Y
             · have HF:Hid (iM R p pl cnt k 0=false):=hid (by unfold iM; exact BN hnc (by rw [← HX.out,← HY.out]; exact how))
               have hne:((n:Int) == (cnt:Int))=false:=by simp; omega
               clear how
               go_wp2_with fail
               go_roundw
               case rel=>exact ⟨1,by omega,by omega,rfl,hid (fun i h0 h1=>by
                 by_cases e:i=0
                 · subst e; exact HF.out
                 · exact HJ.out i h0 (by omega)),HB3⟩
               case measure=>simp [intOf]
             · have HIN:Hid (0≤X∧X<R.width∧0≤Y∧Y<R.height):=hid (Iw how)
               have hin:=HIN.out
               have HA2:Hid (∀ i,i<n+1→ny R p pl ((k:Int) % R.width+i * KT 0) ((k:Int) / R.width+i * KU 0)=true):=hid (fun i hi=>by
                 by_cases e:i=n
                 · subst e; rw [← HX.out,← HY.out]; exact how
                 · exact HA.out i (by omega))
               have d0:=(Pn.out.stays mD.out).cell 0 rfl
               have d1:=(Pn.out.stays mD.out).cell 1 rfl
               clear how
               go_wp2_with fail
               go_quiet (fail)
               go_wp2_with fail
               go_roundw
               case rel=>exact ⟨n+1,_,_,by omega,by go_num,rfl,rfl,hid (by rw [HX.out,oW]; simp [KT]; try omega),hid (by rw [HY.out,oW]; simp [KU]; try omega),by omega,by omega,by omega,by omega,HA2,hid (below_drewN mD.out _)⟩
               case measure=>simp [intOf]; omega
           · obtain rfl:n=cnt:=by omega
             have HT:Hid (qp R p pl n=true):=hid (qV hlt (by decide) (by decide) (show iM R p pl n k 0=true from by unfold iM; exact yg HA.out rfl))
             go_wp2_with fail
             go_ret
             exact ⟨by rw [HT.out]; rfl,ak HB.out HB3.out HB.out.size⟩
       · obtain ⟨wB,rfl⟩:∃ wB:World,wB=wr:=⟨_,rfl⟩
         have hix:∀ w':World,(Instr.index 315 (.agg #[.int .i64 1,.int .i64 0,.int .i64 0,.int .i64 1,.int .i64 1,.int .i64 1,.int .i64 1,.int .i64 (-1)]) (.int .i64 1)).run Tryz.prog w'=.ok (.agg #[.int .i64 (0),.int .i64 (1)]) w':=fun w'=>by kernel_rfl
         go_wp2_with fail
         have hbd:=(Box.new' wB wB.heap.size [.int .i64 (0),.int .i64 (1)] 81 rfl)
         have fM:=hid (bn.out.alloc hsz (.cells #[.int .i64 (0),.int .i64 (1)] 81))
         generalize (wB.alloc (.cells #[.int .i64 (0),.int .i64 (1)] 81))=wn at *
         have hzn:=hbd.lt
         have r1:=(HB0.out.below fM.out (by omega)).cell 1 rfl
         have Pn:=hid hbd
         clear hbd
         go_quiet (fail)
         go_wp2_with fail
         clear r1
         go_loopw [13,14,15] (fun vx vy vn wr=>∃ (n:Nat) (X Y:Int),n≤cnt∧vn=.int .i64 n∧vx=.int .i64 X∧vy=.int .i64 Y∧Hid (X=(k:Int) % R.width+n * KT 1)∧Hid (Y=(k:Int) / R.width+n * KU 1)∧-1≤X∧X≤9∧-1≤Y∧Y≤9∧Hid (∀ i,i<n→ny R p pl ((k:Int) % R.width+i * KT 1) ((k:Int) / R.width+i * KU 1)=true)∧Hid (Below wn.heap.size wn wr)) (fun _ _ n _=>cnt - (intOf n).toNat)
         case atStart=>exact ⟨0,_,_,Nat.zero_le _,rfl,rfl,rfl,hid (by simp),hid (by simp),by omega,by omega,by omega,by omega,hid (fun i hi=>absurd hi (Nat.not_lt_zero _)),hid (below_drewN (Below.refl _ _) _)⟩
         case round =>
           obtain ⟨n,X,Y,hn,rfl,rfl,rfl,HX,HY,hX1,hX2,hY1,hY2,HA,mD⟩:=hrel
           have TJ:=mD.out.size
           have HB3:=hid (ak fM.out mD.out fM.out.size)
           by_cases hnc:n<cnt
           · have aeB:(n:Int)<(cnt:Int):=by omega
             have hcf:=BP
             have HOW:=hid (BO R vp vs ve p ac cc v0 v1 pl X Y _ _ _ wr (HB0.out.below HB3.out (by omega)) (HB1.out.below HB3.out (by omega)) (HB2.out.below HB3.out (by omega)) (JR.out.below HB3.out (Nat.le_refl _)) K (by omega) (by omega) (by omega) (by omega))
             go_wp2_with fail
             refine HOW.out.mono ?_
             rintro e w' ⟨rfl,rfl⟩
             cases how:ny R p pl X Y
             · have HF:Hid (iM R p pl cnt k 1=false):=hid (by unfold iM; exact BN hnc (by rw [← HX.out,← HY.out]; exact how))
               have hne:((n:Int) == (cnt:Int))=false:=by simp; omega
               clear how
               go_wp2_with fail
               go_roundw
               case rel=>exact ⟨2,by omega,by omega,rfl,hid (fun i h0 h1=>by
                 by_cases e:i=1
                 · subst e; exact HF.out
                 · exact HJ.out i h0 (by omega)),HB3⟩
               case measure=>simp [intOf]
             · have HIN:Hid (0≤X∧X<R.width∧0≤Y∧Y<R.height):=hid (Iw how)
               have hin:=HIN.out
               have HA2:Hid (∀ i,i<n+1→ny R p pl ((k:Int) % R.width+i * KT 1) ((k:Int) / R.width+i * KU 1)=true):=hid (fun i hi=>by
                 by_cases e:i=n
                 · subst e; rw [← HX.out,← HY.out]; exact how
                 · exact HA.out i (by omega))
               have d0:=(Pn.out.stays mD.out).cell 0 rfl
               have d1:=(Pn.out.stays mD.out).cell 1 rfl
               clear how
               go_wp2_with fail
               go_quiet (fail)
               go_wp2_with fail
               go_roundw
               case rel=>exact ⟨n+1,_,_,by omega,by go_num,rfl,rfl,hid (by rw [HX.out,oW]; simp [KT]; try omega),hid (by rw [HY.out,oW]; simp [KU]; try omega),by omega,by omega,by omega,by omega,HA2,hid (below_drewN mD.out _)⟩
               case measure=>simp [intOf]; omega
           · obtain rfl:n=cnt:=by omega
             have HT:Hid (qp R p pl n=true):=hid (qV hlt (by decide) (by decide) (show iM R p pl n k 1=true from by unfold iM; exact yg HA.out rfl))
             go_wp2_with fail
             go_ret
             exact ⟨by rw [HT.out]; rfl,ak HB.out HB3.out HB.out.size⟩
       · obtain ⟨wB,rfl⟩:∃ wB:World,wB=wr:=⟨_,rfl⟩
         have hix:∀ w':World,(Instr.index 315 (.agg #[.int .i64 1,.int .i64 0,.int .i64 0,.int .i64 1,.int .i64 1,.int .i64 1,.int .i64 1,.int .i64 (-1)]) (.int .i64 2)).run Tryz.prog w'=.ok (.agg #[.int .i64 (1),.int .i64 (1)]) w':=fun w'=>by kernel_rfl
         go_wp2_with fail
         have hbd:=(Box.new' wB wB.heap.size [.int .i64 (1),.int .i64 (1)] 81 rfl)
         have fM:=hid (bn.out.alloc hsz (.cells #[.int .i64 (1),.int .i64 (1)] 81))
         generalize (wB.alloc (.cells #[.int .i64 (1),.int .i64 (1)] 81))=wn at *
         have hzn:=hbd.lt
         have r1:=(HB0.out.below fM.out (by omega)).cell 1 rfl
         have Pn:=hid hbd
         clear hbd
         go_quiet (fail)
         go_wp2_with fail
         clear r1
         go_loopw [13,14,15] (fun vx vy vn wr=>∃ (n:Nat) (X Y:Int),n≤cnt∧vn=.int .i64 n∧vx=.int .i64 X∧vy=.int .i64 Y∧Hid (X=(k:Int) % R.width+n * KT 2)∧Hid (Y=(k:Int) / R.width+n * KU 2)∧-1≤X∧X≤9∧-1≤Y∧Y≤9∧Hid (∀ i,i<n→ny R p pl ((k:Int) % R.width+i * KT 2) ((k:Int) / R.width+i * KU 2)=true)∧Hid (Below wn.heap.size wn wr)) (fun _ _ n _=>cnt - (intOf n).toNat)
         case atStart=>exact ⟨0,_,_,Nat.zero_le _,rfl,rfl,rfl,hid (by simp),hid (by simp),by omega,by omega,by omega,by omega,hid (fun i hi=>absurd hi (Nat.not_lt_zero _)),hid (below_drewN (Below.refl _ _) _)⟩
         case round =>
           obtain ⟨n,X,Y,hn,rfl,rfl,rfl,HX,HY,hX1,hX2,hY1,hY2,HA,mD⟩:=hrel
           have TJ:=mD.out.size
           have HB3:=hid (ak fM.out mD.out fM.out.size)
           by_cases hnc:n<cnt
           · have aeB:(n:Int)<(cnt:Int):=by omega
             have hcf:=BP
             have HOW:=hid (BO R vp vs ve p ac cc v0 v1 pl X Y _ _ _ wr (HB0.out.below HB3.out (by omega)) (HB1.out.below HB3.out (by omega)) (HB2.out.below HB3.out (by omega)) (JR.out.below HB3.out (Nat.le_refl _)) K (by omega) (by omega) (by omega) (by omega))
             go_wp2_with fail
             refine HOW.out.mono ?_
             rintro e w' ⟨rfl,rfl⟩
             cases how:ny R p pl X Y
             · have HF:Hid (iM R p pl cnt k 2=false):=hid (by unfold iM; exact BN hnc (by rw [← HX.out,← HY.out]; exact how))
               have hne:((n:Int) == (cnt:Int))=false:=by simp; omega
               clear how
               go_wp2_with fail
               go_roundw
               case rel=>exact ⟨3,by omega,by omega,rfl,hid (fun i h0 h1=>by
                 by_cases e:i=2
                 · subst e; exact HF.out
                 · exact HJ.out i h0 (by omega)),HB3⟩
               case measure=>simp [intOf]
             · have HIN:Hid (0≤X∧X<R.width∧0≤Y∧Y<R.height):=hid (Iw how)
               have hin:=HIN.out
               have HA2:Hid (∀ i,i<n+1→ny R p pl ((k:Int) % R.width+i * KT 2) ((k:Int) / R.width+i * KU 2)=true):=hid (fun i hi=>by
                 by_cases e:i=n
                 · subst e; rw [← HX.out,← HY.out]; exact how
                 · exact HA.out i (by omega))
               have d0:=(Pn.out.stays mD.out).cell 0 rfl
               have d1:=(Pn.out.stays mD.out).cell 1 rfl
               clear how
               go_wp2_with fail
               go_quiet (fail)
               go_wp2_with fail
               go_roundw
               case rel=>exact ⟨n+1,_,_,by omega,by go_num,rfl,rfl,hid (by rw [HX.out,oW]; simp [KT]; try omega),hid (by rw [HY.out,oW]; simp [KU]; try omega),by omega,by omega,by omega,by omega,HA2,hid (below_drewN mD.out _)⟩
               case measure=>simp [intOf]; omega
           · obtain rfl:n=cnt:=by omega
             have HT:Hid (qp R p pl n=true):=hid (qV hlt (by decide) (by decide) (show iM R p pl n k 2=true from by unfold iM; exact yg HA.out rfl))
             go_wp2_with fail
             go_ret
             exact ⟨by rw [HT.out]; rfl,ak HB.out HB3.out HB.out.size⟩
       · obtain ⟨wB,rfl⟩:∃ wB:World,wB=wr:=⟨_,rfl⟩
         have hix:∀ w':World,(Instr.index 315 (.agg #[.int .i64 1,.int .i64 0,.int .i64 0,.int .i64 1,.int .i64 1,.int .i64 1,.int .i64 1,.int .i64 (-1)]) (.int .i64 3)).run Tryz.prog w'=.ok (.agg #[.int .i64 (1),.int .i64 (-1)]) w':=fun w'=>by kernel_rfl
         go_wp2_with fail
         have hbd:=(Box.new' wB wB.heap.size [.int .i64 (1),.int .i64 (-1)] 81 rfl)
         have fM:=hid (bn.out.alloc hsz (.cells #[.int .i64 (1),.int .i64 (-1)] 81))
         generalize (wB.alloc (.cells #[.int .i64 (1),.int .i64 (-1)] 81))=wn at *
         have hzn:=hbd.lt
         have r1:=(HB0.out.below fM.out (by omega)).cell 1 rfl
         have Pn:=hid hbd
         clear hbd
         go_quiet (fail)
         go_wp2_with fail
         clear r1
         go_loopw [13,14,15] (fun vx vy vn wr=>∃ (n:Nat) (X Y:Int),n≤cnt∧vn=.int .i64 n∧vx=.int .i64 X∧vy=.int .i64 Y∧Hid (X=(k:Int) % R.width+n * KT 3)∧Hid (Y=(k:Int) / R.width+n * KU 3)∧-1≤X∧X≤9∧-1≤Y∧Y≤9∧Hid (∀ i,i<n→ny R p pl ((k:Int) % R.width+i * KT 3) ((k:Int) / R.width+i * KU 3)=true)∧Hid (Below wn.heap.size wn wr)) (fun _ _ n _=>cnt - (intOf n).toNat)
         case atStart=>exact ⟨0,_,_,Nat.zero_le _,rfl,rfl,rfl,hid (by simp),hid (by simp),by omega,by omega,by omega,by omega,hid (fun i hi=>absurd hi (Nat.not_lt_zero _)),hid (below_drewN (Below.refl _ _) _)⟩
         case round =>
           obtain ⟨n,X,Y,hn,rfl,rfl,rfl,HX,HY,hX1,hX2,hY1,hY2,HA,mD⟩:=hrel
           have TJ:=mD.out.size
           have HB3:=hid (ak fM.out mD.out fM.out.size)
           by_cases hnc:n<cnt
           · have aeB:(n:Int)<(cnt:Int):=by omega
             have hcf:=BP
             have HOW:=hid (BO R vp vs ve p ac cc v0 v1 pl X Y _ _ _ wr (HB0.out.below HB3.out (by omega)) (HB1.out.below HB3.out (by omega)) (HB2.out.below HB3.out (by omega)) (JR.out.below HB3.out (Nat.le_refl _)) K (by omega) (by omega) (by omega) (by omega))
             go_wp2_with fail
             refine HOW.out.mono ?_
             rintro e w' ⟨rfl,rfl⟩
             cases how:ny R p pl X Y
             · have HF:Hid (iM R p pl cnt k 3=false):=hid (by unfold iM; exact BN hnc (by rw [← HX.out,← HY.out]; exact how))
               have hne:((n:Int) == (cnt:Int))=false:=by simp; omega
               clear how
               go_wp2_with fail
               go_roundw
               case rel=>exact ⟨4,by omega,by omega,rfl,hid (fun i h0 h1=>by
                 by_cases e:i=3
                 · subst e; exact HF.out
                 · exact HJ.out i h0 (by omega)),HB3⟩
               case measure=>simp [intOf]
             · have HIN:Hid (0≤X∧X<R.width∧0≤Y∧Y<R.height):=hid (Iw how)
               have hin:=HIN.out
               have HA2:Hid (∀ i,i<n+1→ny R p pl ((k:Int) % R.width+i * KT 3) ((k:Int) / R.width+i * KU 3)=true):=hid (fun i hi=>by
                 by_cases e:i=n
                 · subst e; rw [← HX.out,← HY.out]; exact how
                 · exact HA.out i (by omega))
               have d0:=(Pn.out.stays mD.out).cell 0 rfl
               have d1:=(Pn.out.stays mD.out).cell 1 rfl
               clear how
               go_wp2_with fail
               go_quiet (fail)
               go_wp2_with fail
               go_roundw
               case rel=>exact ⟨n+1,_,_,by omega,by go_num,rfl,rfl,hid (by rw [HX.out,oW]; simp [KT]; try omega),hid (by rw [HY.out,oW]; simp [KU]; try omega),by omega,by omega,by omega,by omega,HA2,hid (below_drewN mD.out _)⟩
               case measure=>simp [intOf]; omega
           · obtain rfl:n=cnt:=by omega
             have HT:Hid (qp R p pl n=true):=hid (qV hlt (by decide) (by decide) (show iM R p pl n k 3=true from by unfold iM; exact yg HA.out rfl))
             go_wp2_with fail
             go_ret
             exact ⟨by rw [HT.out]; rfl,ak HB.out HB3.out HB.out.size⟩
       · go_wp2_with fail
         go_roundw
         case rel=>exact ⟨k+1,by omega,by go_num,hid (fun s hs i h0 h1=>by
          by_cases e:s=k
          · subst e; exact HJ.out i h0 h1
          · exact Rw.out s (by omega) i h0 h1),bn⟩
         case measure=>simp [intOf]; omega
    · have HE:Hid (qp R p pl cnt=false):=hid (KW (fun s hs=>Rw.out s (by omega)))
      go_wp2_with fail
      go_ret
      exact ⟨by rw [HE.out]; rfl,ak HB.out bn.out HB.out.size⟩
end Go.Proofs.YteablcielclaeaaGreatDoor
