/- GmA: Play, Priv, GameA, GameN, Clone, GameP, in one text. -/
import Derived.Test.YteablcielclaeaaGreatDoorP12
namespace Go.Proofs.YteablcielclaeaaGreatDoor
set_option linter.unusedVariables false
set_option maxHeartbeats 4000000
set_option maxRecDepth 100000
def kH (R:aA) (p:bf) (ms:List aB):bf:=ms.foldl (bM R) p
theorem Dt (R:aA) (p:bf) (ms:List aB) (m:aB):kH R p (ms++[m])=bM R (kH R p ms) m:=by simp [kH]
theorem Pq (R:aA) (p:bf) (ms:List aB) (k:Nat) (h:k<ms.length):kH R p (ms.take (k+1))=bM R (kH R p (ms.take k)) (ms.getD k default):=by
 rw [List.take_succ_eq_append_getElem h,Dt,List.getD_eq_getElem?_getD,List.getElem?_eq_getElem h]; rfl
def iJ (R:aA) (p:bf) (ms:List aB):Prop:=∀ k,k<ms.length→ms.getD k default∈dZ R (kH R p (ms.take k))
theorem iJ.nil (R:aA) (p:bf):iJ R p []:=fun k h=>by simp at h
theorem iJ.snoc {R:aA} {p:bf} {ms:List aB} {m:aB} (h:iJ R p ms) (hm:m∈dZ R (kH R p ms)):iJ R p (ms++[m]):=by
 intro k hk
 simp at hk
 rcases Nat.lt_or_ge k ms.length with e | e
 ·rw [List.take_append_of_le_length (by omega),show (ms++[m]).getD k default=ms.getD k default by simp [List.getD_eq_getElem?_getD,List.getElem?_append_left e]]
  exact h k e
 ·obtain rfl:k=ms.length:=by omega
  rw [List.take_left,show (ms++[m]).getD ms.length default=m by simp [List.getD_eq_getElem?_getD]]
  exact hm
theorem Ld {R:aA} {p:bf} {ms:List aB} (K:qg R p) (h:iJ R p ms) (k:Nat) (hk:k≤ms.length):qg R (kH R p (ms.take k)):=by
 induction k with
 | zero=>exact K
 | succ k ih =>
  rw [Pq R p ms k (by omega)]
  exact abj (ih (by omega)) (h k (by omega))
end Go.Proofs.YteablcielclaeaaGreatDoor
namespace Go.Proofs.YteablcielclaeaaGreatDoor
open Go.ChangeShapes Go.WideShapes Go.ChangeAt Go.RowKit
set_option linter.unusedVariables false
set_option maxHeartbeats 4000000
set_option maxRecDepth 100000
structure Fr (S:Nat→Prop) (w w':World):Prop where
 os:w'.os=w.os
 tape:w'.tape=w.tape
 output:w'.output=w.output
 size:w.heap.size≤w'.heap.size
 block:∀ k,k<w.heap.size→¬ S k→w'.heap[k]?=w.heap[k]?
theorem Fr.refl (S:Nat→Prop) (w:World):Fr S w w:=⟨rfl,rfl,rfl,Nat.le_refl _,fun _ _ _=>rfl⟩
def iE (w:World) (S S':Nat→Prop):Prop:=∀ k,k<w.heap.size→S' k→S k
theorem iE.refl (w:World) (S:Nat→Prop):iE w S S:=fun _ _ h=>h
theorem iE.trans {w w':World} {S S' S'':Nat→Prop} (h:iE w S S') (h':iE w' S' S'') (hs:w.heap.size≤w'.heap.size):iE w S S'':=fun k hk h2=>h k hk (h' k (by omega) h2)
theorem Fr.trans {S S':Nat→Prop} {a b c:World} (h:Fr S a b) (k:Fr S' b c) (hs:iE a S S'):Fr S a c:=
 ⟨k.os.trans h.os,k.tape.trans h.tape,k.output.trans h.output,Nat.le_trans h.size k.size,fun i hi hn=>(k.block i (Nat.lt_of_lt_of_le hi h.size) (fun e=>hn (hs i hi e))).trans (h.block i hi hn)⟩
theorem Fr.mono {S S':Nat→Prop} {w w':World} (h:Fr S w w') (hs:∀ k,k<w.heap.size→S k→S' k):Fr S' w w':=⟨h.os,h.tape,h.output,h.size,fun k hk hn=>h.block k hk (fun e=>hn (hs k hk e))⟩
theorem Fr.of_below {S:Nat→Prop} {B:Nat} {w w':World} (h:Below B w w') (hS:∀ k,k<w.heap.size→B≤k→S k):Fr S w w':=
 ⟨h.os,h.tape,h.output,h.size,fun k hk hn=>h.block k (by rcases Nat.lt_or_ge k B with e | e; exact e; exact absurd (hS k hk e) hn)⟩
theorem Fr.jM {S:Nat→Prop} {w w':World} (h:Below w.heap.size w w'):Fr S w w':=Fr.of_below h (fun k hk hb=>by omega)
theorem Fr.below {S:Nat→Prop} {B:Nat} {w w':World} (h:Fr S w w') (hS:∀ k,S k→B≤k) (hB:B≤w.heap.size):Below B w w':=
 ⟨h.os,h.tape,h.output,h.size,fun k hk=>h.block k (by omega) (fun e=>by have:=hS k e; omega)⟩
theorem Fr.drew {S:Nat→Prop} {w w':World} (h:Fr S w w'):Fr S w w'.drew:=⟨h.os,h.tape,h.output,h.size,h.block⟩
theorem Fr.drewN {S:Nat→Prop} {w w':World} (h:Fr S w w') (n:Nat):Fr S w (w'.drewN n):=⟨h.os,h.tape,h.output,h.size,h.block⟩
theorem Fr.alloc {S:Nat→Prop} {w w':World} (h:Fr S w w') (o:Obj):Fr S w (w'.alloc o):=
 h.trans (S':=S) (Fr.jM ((Below.refl _ _).alloc (Nat.le_refl _) o)) (iE.refl _ _)
theorem Fr.grown {S:Nat→Prop} {a w w':World} {row:Option Nat} (h:Fr S a w) (hg:w.grownBy w' row) (hr:∀ k,row=some k→k<a.heap.size→S k):Fr S a w':=
 ⟨hg.os.trans h.os,hg.tape.trans h.tape,hg.output.trans h.output,Nat.le_trans h.size hg.size,fun k hk hn =>
  (hg.block k (Nat.lt_of_lt_of_le hk h.size) (fun e=>hn (hr k e.symm hk))).trans (h.block k hk hn)⟩
theorem Fr.setCell {S:Nat→Prop} {a w:World} (h:Fr S a w) {p:Addr} (hp:S p.block) (u:Value):Fr S a (w.setCell p u):=
 ⟨h.os,h.tape,h.output,by simpa [World.setCell] using h.size,fun k hk hn=>(Below.heap_setCell _ _ _ _ (fun e=>hn (by rw [e]; exact hp))).trans (h.block k hk hn)⟩
theorem Fr.setCells {S:Nat→Prop} {a w:World} (h:Fr S a w) {b:Nat} (hp:S b) (o:Nat) (vs:List Value):Fr S a (w.setCells b o vs):=
 ⟨(eY b vs o w).1.trans h.os,(eY b vs o w).2.1.trans h.tape,(eY b vs o w).2.2.trans h.output,by rw [size_setCells]; exact h.size,
  fun k hk hn=>(jT b vs o w k (fun e=>hn (by rw [e]; exact hp))).trans (h.block k hk hn)⟩
def Held (S:Nat→Prop) (w:World) (D:World→Prop):Prop:=∀ w',Fr S w w'→D w'
theorem Held.now {S:Nat→Prop} {w:World} {D:World→Prop} (h:Held S w D):D w:=h w (Fr.refl _ _)
theorem Held.step {S S':Nat→Prop} {w w1:World} {D:World→Prop} (h:Held S w D) (hf:Fr S w w1) (hs:iE w S S'):Held S' w1 D:=fun w' hw=>h w' (hf.trans hw hs)
theorem Held.imp {S:Nat→Prop} {w:World} {D D':World→Prop} (h:Held S w D) (hd:∀ w',D w'→D' w'):Held S w D':=fun w' hw=>hd w' (h w' hw)
theorem Held.old {S:Nat→Prop} {B:Nat} {w:World} {D:World→Prop} (h:∀ w',Below B w w'→D w') (hS:∀ k,S k→B≤k) (hB:B≤w.heap.size):Held S w D:=fun w' hw=>h w' (hw.below hS hB)
theorem fC {S:Nat→Prop} {w w':World} {base:Nat} {e:TypeId} {sz n:Nat} {v:Value} {xs:List Value} (h:w.ownsRow base e sz v n xs) (hf:Fr S w w') (hS:∀ k,v.ownBlock=some k→¬ S k):w'.ownsRow base e sz v n xs:=by
 refine ⟨h.1,?_⟩
 rcases h.2 with h0 | ⟨g,cap,cur,rfl,hb,hg,r⟩
 ·exact .inl h0
 ·have hlt:g<w.heap.size:=by
   by_cases hh:g<w.heap.size
   ·exact hh
   ·rw [Array.getElem?_eq_none (by omega)] at hg
    cases hg
  exact .inr ⟨g,cap,cur,rfl,hb,(hf.block g hlt (hS g rfl)).trans hg,r⟩
theorem BQ {S:Nat→Prop} {w:World} {base:Nat} {e:TypeId} {sz n:Nat} {v:Value} {xs:List Value} (h:w.ownsRow base e sz v n xs) (hS:∀ k,base≤k→k<w.heap.size→¬ S k):Held S w fun w'=>w'.ownsRow base e sz v n xs:=
 fun w' hw=>fC h hw (fun k hk=>hS k (h.lt k hk).1 (h.lt k hk).2)
theorem zN {S:Nat→Prop} {w:World} {base:Nat} {p:bf} {vc v0 v1:Value} (h:mF base w p vc v0 v1) (hS:∀ k,base≤k→k<w.heap.size→¬ S k):Held S w fun w'=>mF base w' p vc v0 v1:=
 fun w' hw=>⟨BQ h.1 hS w' hw,BQ h.2.1 hS w' hw,BQ h.2.2.1 hS w' hw,h.2.2.2⟩
theorem Box.held {S:Nat→Prop} {w w':World} {b:Nat} {cs:List Value} {t:TypeId} (h:Box w b cs t) (hf:Fr S w w') (hS:¬ S b):Box w' b cs t:=(hf.block b h.lt hS).trans h
structure lK where
 p:bf
 vc:Value
 v0:Value
 v1:Value
deriving Inhabited
def jU (l:List lK):List Value:=l.flatMap fun r=>[r.vc,r.v0,r.v1,.int .i64 r.p.turn,.int .i64 r.p.quiet]
theorem Du (r:lK) (t:List lK):jU (r :: t)=r.vc :: r.v0 :: r.v1 :: .int .i64 r.p.turn :: .int .i64 r.p.quiet :: jU t:=rfl
theorem IB (l:List lK) (r:lK):jU l++[r.vc,r.v0,r.v1,.int .i64 r.p.turn,.int .i64 r.p.quiet]=jU (l++[r]):=by simp [jU]
theorem Dv:∀ (l:List lK) (i:Nat) (h:i<l.length),(jU l)[i * 5]?=some (l.getD i default).vc∧(jU l)[i * 5+1]?=some (l.getD i default).v0∧(jU l)[i * 5+2]?=some (l.getD i default).v1 ∧
  (jU l)[i * 5+3]?=some (.int .i64 (l.getD i default).p.turn)∧(jU l)[i * 5+4]?=some (.int .i64 (l.getD i default).p.quiet)
 | r :: t,0,_=>by rw [Du]; simp
 | r :: t,i+1,h=>by
  obtain ⟨a,b,c,d,e⟩:=Dv t i (by simpa using h)
  rw [Du,show (i+1) * 5=i * 5+1+1+1+1+1 by omega,show i * 5+1+1+1+1+1+2=i * 5+2+1+1+1+1+1 by omega,show i * 5+1+1+1+1+1+3=i * 5+3+1+1+1+1+1 by omega,show i * 5+1+1+1+1+1+4=i * 5+4+1+1+1+1+1 by omega]
  simp only [List.getElem?_cons_succ,List.getD_cons_succ]
  exact ⟨a,b,c,d,e⟩
def Dw (R:aA) (ms:List aB):List bf:=(List.range (ms.length+1)).map fun k=>kH R (aF R) (ms.take k)
def bV (R:aA) (ms:List aB):bf:=kH R (aF R) ms
theorem yh (R:aA) (ms:List aB):(Dw R ms).length=ms.length+1:=by simp [Dw]
theorem Le (R:aA) (ms:List aB) (k:Nat) (h:k≤ms.length):(Dw R ms).getD k default=kH R (aF R) (ms.take k):=by
 rw [List.getD_eq_getElem?_getD,List.getElem?_eq_getElem (by rw [yh]; omega)]
 simp [Dw]
theorem TT (R:aA) (ms:List aB) (m:aB):Dw R (ms++[m])=Dw R ms++[bM R (bV R ms) m]:=by
 unfold Dw bV
 rw [List.length_append,List.length_singleton,List.range_succ,List.map_append]
 congr 1
 ·apply List.map_congr_left
  intro k hk
  rw [List.take_append_of_le_length (by simpa [Nat.lt_succ_iff] using hk)]
 ·rw [List.map_singleton,List.take_of_length_le (by simp),Dt]
theorem qx {R:aA} (h:aJ R=0):qg R (aF R):=by
 have hr:=Ik h
 have hh:∀ c∈R.pieces.map (·.hand),0≤c∧c≤1000:=fun c hc=>by
  obtain ⟨x,hx,rfl⟩:=List.mem_map.1 hc
  obtain ⟨i,hi,rfl⟩:=List.mem_iff_getElem.1 hx
  have:=(hr.pc i hi).1
  rw [List.getD_eq_getElem?_getD,List.getElem?_eq_getElem hi] at this
  simp only [Option.getD_some] at this
  omega
 exact ⟨hr,hr.sl,by simp [aF],by simp [aF],hr.sc,hh,hh,.inl rfl,by simp [aF]⟩
def zO (R:aA) (ms:List aB):Nat:=((Dw R ms).filter fun p=>sV p (bV R ms)).length
def fZ (R:aA) (ms:List aB):Int:=if dN R (bV R ms)=0∧R.bC≠0∧R.bC≤(zO R ms:Int) then 3 else dN R (bV R ms)
def eu (R:aA) (ms:List aB) (m:aB):Int:=if fZ R ms≠0 then 14 else if m∉dZ R (bV R ms) then 13 else if ms.length=400 then 9 else 0
structure bJ (S:Nat→Prop) (base:Nat) (w:World) (b:Nat) (R:aA) (ms:List aB) (vp vs ve vl vm:Value) (rows:List lK):Prop where
 box:Box w b [.string R.name,.int .i64 R.width,.int .i64 R.height,vp,vs,.bool R.falls,.bool R.keeps,ve,.int .i64 R.blocked,.int .i64 R.quiet,.int .i64 R.bC,vl,vm] 193
 sb:S b
 lo:∀ k,S k→base≤k∧k<w.heap.size
 rd:Held S w fun w'=>pV w' R vp vs ve
 ol:w.ownsRow base 158 5 vl (ms.length+1) (jU rows)
 mp:rows.map (·.p)=Dw R ms
 rw:∀ r∈rows,Held S w fun w'=>sH w' r.p r.vc r.v0 r.v1
 om:w.ownsRow base 68 3 vm ms.length (bK ms)
 sl:∀ k,vl.ownBlock=some k→S k∧k≠b
 sm:∀ k,vm.ownBlock=some k→S k∧k≠b
 ap:vl.ownBlock=none∨vl.ownBlock≠vm.ownBlock
 lt:ms.length≤400
 la:iJ R (aF R) ms
 re:aJ R=0
theorem bJ.below {S:Nat→Prop} {base:Nat} {w w':World} {b:Nat} {R:aA} {ms:List aB} {vp vs ve vl vm:Value} {rows:List lK} (h:bJ S base w b R ms vp vs ve vl vm rows) (hb:Below w.heap.size w w'):bJ S base w' b R ms vp vs ve vl vm rows:=
 ⟨h.box.stays hb,h.sb,fun k hk=>⟨(h.lo k hk).1,Nat.lt_of_lt_of_le (h.lo k hk).2 hb.size⟩,h.rd.step (Fr.jM (S:=S) hb) (iE.refl _ _),aS h.ol hb,h.mp,fun r hr=>(h.rw r hr).step (Fr.jM (S:=S) hb) (iE.refl _ _),aS h.om hb,h.sl,h.sm,h.ap,h.lt,h.la,h.re⟩
theorem bJ.rlen {S:Nat→Prop} {base:Nat} {w:World} {b:Nat} {R:aA} {ms:List aB} {vp vs ve vl vm:Value} {rows:List lK} (h:bJ S base w b R ms vp vs ve vl vm rows):rows.length=ms.length+1:=by
 rw [← yh R ms,← h.mp,List.length_map]
theorem bJ.row {S:Nat→Prop} {base:Nat} {w:World} {b:Nat} {R:aA} {ms:List aB} {vp vs ve vl vm:Value} {rows:List lK} (h:bJ S base w b R ms vp vs ve vl vm rows) (k:Nat) (hk:k≤ms.length) :
  (rows.getD k default).p=kH R (aF R) (ms.take k)∧Held S w fun w'=>sH w' (kH R (aF R) (ms.take k)) (rows.getD k default).vc (rows.getD k default).v0 (rows.getD k default).v1:=by
 have hl:=h.rlen
 have e:(rows.getD k default).p=kH R (aF R) (ms.take k):=by
  rw [← Le R ms k hk,← h.mp,List.getD_eq_getElem?_getD,List.getD_eq_getElem?_getD,List.getElem?_eq_getElem (by omega),List.getElem?_eq_getElem (by simp; omega)]
  simp
 refine ⟨e,?_⟩
 rw [← e]
 refine h.rw _ ?_
 rw [List.getD_eq_getElem?_getD,List.getElem?_eq_getElem (by omega)]
 exact List.getElem_mem _
theorem bJ.pok {S:Nat→Prop} {base:Nat} {w:World} {b:Nat} {R:aA} {ms:List aB} {vp vs ve vl vm:Value} {rows:List lK} (h:bJ S base w b R ms vp vs ve vl vm rows) (k:Nat) (hk:k≤ms.length):qg R (kH R (aF R) (ms.take k)):=Ld (qx h.re) h.la k hk
theorem bJ.nok {S:Nat→Prop} {base:Nat} {w:World} {b:Nat} {R:aA} {ms:List aB} {vp vs ve vl vm:Value} {rows:List lK} (h:bJ S base w b R ms vp vs ve vl vm rows):qg R (bV R ms):=by
 have:=h.pok ms.length (Nat.le_refl _)
 rwa [List.take_of_length_le (Nat.le_refl _)] at this
theorem bJ.frame {S:Nat→Prop} {base:Nat} {w:World} {b:Nat} {R:aA} {ms:List aB} {vp vs ve vl vm:Value} {rows:List lK} (h:bJ S base w b R ms vp vs ve vl vm rows) {w':World} (hf:Fr S w w') (hb:base≤w.heap.size):Below base w w':=hf.below (fun k hk=>(h.lo k hk).1) hb
end Go.Proofs.YteablcielclaeaaGreatDoor
namespace Go.Proofs.YteablcielclaeaaGreatDoor
open Go.ChangeShapes Go.WideShapes Go.ChangeAt Go.RowKit
set_option linter.unusedVariables false
set_option maxHeartbeats 4000000
set_option maxRecDepth 100000
open Go.Lib (hid)
def Rx (S:Nat→Prop) (R:aA) (ms:List aB) (w:World) (e:Ending) (w':World):Prop:=
 ∃ vc v0 v1,e=.returned (.agg #[vc,v0,v1,.int .i64 (bV R ms).turn,.int .i64 (bV R ms).quiet])∧(Held S w' fun w'=>sH w' (bV R ms) vc v0 v1)∧Below w.heap.size w w'
theorem yj {S:Nat→Prop} {base b:Nat} {R:aA} {ms:List aB} {vp vs ve vl vm:Value} {rows:List lK} (w:World) (h:bJ S base w b R ms vp vs ve vl vm rows):Calls Tryz.prog 122 #[.pointer (some ⟨b,0,none⟩)] w (Rx S R ms w):=by
 obtain ⟨g,c,hv⟩:=dY h.ol (by omega)
 subst hv
 have hlt:=(h.ol.lt g rfl).2
 have hb:=h.box.lt
 have hrl:=h.rlen
 have hms:=h.lt
 obtain ⟨e0,e1⟩:=h.row ms.length (Nat.le_refl _)
 obtain ⟨c0,c1,c2,c3,c4⟩:=Dv rows ms.length (by omega)
 rw [e0] at c3 c4
 have q0:=(h.ol.cellAt (ms.length * 5) (by omega)).trans c0
 have q1:=(h.ol.cellAt (ms.length * 5+1) (by omega)).trans c1
 have q2:=(h.ol.cellAt (ms.length * 5+2) (by omega)).trans c2
 have q3:=(h.ol.cellAt (ms.length * 5+3) (by omega)).trans c3
 have q4:=(h.ol.cellAt (ms.length * 5+4) (by omega)).trans c4
 have hbx:=h.box.cell 11 rfl
 have eN:kH R (aF R) (ms.take ms.length)=bV R ms:=by rw [List.take_of_length_le (Nat.le_refl _)]; rfl
 rw [eN] at e1 q3 q4
 generalize hN:bV R ms=N at *
 have HNN:=hid hN
 obtain ⟨xa,xn,f0,-,-⟩:=e1.now.1.form
 obtain ⟨xa0,vT,f1,-,-⟩:=e1.now.2.1.form
 obtain ⟨xa1,vU,f2,-,-⟩:=e1.now.2.2.form
 rw [f0] at e1 q0
 rw [f1] at e1 q1
 rw [f2] at e1 q2
 obtain ⟨n,hn⟩:∃ n,n=ms.length:=⟨_,rfl⟩
 rw [← hn] at q0 q1 q2 q3 q4 hbx hms
 have hD:=e1
 clear e0 c0 c1 c2 c3 c4 h hrl eN f0 f1 f2 hn e1 hN
 have hw1:IntKind.i64.wrap ((n:Int)+1 - 1)=(n:Int):=by rw [Int.add_sub_cancel]; exact IntWalk.i64_in _ (by omega)
 have hw2:IntKind.i64.wrap (n:Int)=(n:Int):=IntWalk.i64_in _ (by omega)
 have atN:(n:Int)<(n:Int)+1:=by omega
 have hcast:((n+1:Nat):Int)=(n:Int)+1:=by omega
 go_enter Tryz.func122,Tryz.ntmps122
 go_upto_region 1 with (fail)
 have HK:=hid (And.intro (eG hbx (.cells #[.slice none 0 0,.slice none 0 0,.slice none 0 0,.int .i64 0,.int .i64 0] 158)) (And.intro (eG q0 (.cells #[.slice none 0 0,.slice none 0 0,.slice none 0 0,.int .i64 0,.int .i64 0] 158)) (And.intro (eG q1 (.cells #[.slice none 0 0,.slice none 0 0,.slice none 0 0,.int .i64 0,.int .i64 0] 158)) (And.intro (eG q2 (.cells #[.slice none 0 0,.slice none 0 0,.slice none 0 0,.int .i64 0,.int .i64 0] 158)) (And.intro (eG q3 (.cells #[.slice none 0 0,.slice none 0 0,.slice none 0 0,.int .i64 0,.int .i64 0] 158)) (eG q4 (.cells #[.slice none 0 0,.slice none 0 0,.slice none 0 0,.int .i64 0,.int .i64 0] 158)))))))
 have fM:=hid (Box.new w [.slice none 0 0,.slice none 0 0,.slice none 0 0,.int .i64 0,.int .i64 0] 158)
 have HLn:=hid ((Below.refl w.heap.size w).alloc (Nat.le_refl _) (.cells #[.slice none 0 0,.slice none 0 0,.slice none 0 0,.int .i64 0,.int .i64 0] 158))
 have HD:=hid hD
 clear hbx q0 q1 q2 q3 q4 hD
 generalize (w.alloc (.cells #[.slice none 0 0,.slice none 0 0,.slice none 0 0,.int .i64 0,.int .i64 0] 158))=wq at *
 have By:Box wq w.heap.size [.slice none 0 0,.slice none 0 0,.slice none 0 0,.int .i64 0,.int .i64 0] 158:=fM.out
 have Bz:=fM.out.drew
 have Lz:Below w.heap.size w wq.drew:=aK HLn.out
 obtain ⟨kb,k0,k1,k2,k3,k4⟩:wq.drew.cell? ⟨b,11,none⟩=_∧wq.drew.cell? ⟨g,n * 5,none⟩=_∧wq.drew.cell? ⟨g,n * 5+1,none⟩=_∧wq.drew.cell? ⟨g,n * 5+2,none⟩=_∧wq.drew.cell? ⟨g,n * 5+3,none⟩=_∧wq.drew.cell? ⟨g,n * 5+4,none⟩=_:=HK.out
 clear HK fM HLn
 refine wp_region_noPanic ?_
 refine bI (S:=(fun w'=>w'.cell? ⟨b,11,none⟩=some (.slice (some ⟨g,0,none⟩) (n+1) c)∧w'.cell? ⟨g,n * 5,none⟩=some (.slice xa N.cells.length xn)∧w'.cell? ⟨g,n * 5+1,none⟩=some (.slice xa0 N.h0.length vT)∧w'.cell? ⟨g,n * 5+2,none⟩=some (.slice xa1 N.h1.length vU)∧w'.cell? ⟨g,n * 5+3,none⟩=some (.int .i64 N.turn)∧w'.cell? ⟨g,n * 5+4,none⟩=some (.int .i64 N.quiet))) (L:=[12]) (by kernel_rfl) ⟨kb,k0,k1,k2,k3,k4⟩ (fun hHeld=>?_)
 refine aC 0 ?_
 refine aC 4 ?_
 refine aC 1 ?_
 refine aC 5 ?_
 refine aC 2 ?_
 refine aC 6 ?_
 refine dV 3 ?_
 refine dV 7 ?_
 refine aC 8 ?_
 refine aC 9 ?_
 refine aC 10 ?_
 refine dV 11 ?_
 refine rP 12 fun K hK=>?_
 have z0:=By.cell 0 rfl
 have z1:=By.cell 1 rfl
 have z2:=By.cell 2 rfl
 have z3:=By.cell 3 rfl
 have z4:=By.cell 4 rfl
 have zf0:=By.frozen 0
 have zf1:=By.frozen 1
 have zf2:=By.frozen 2
 have zf3:=By.frozen 3
 have zf4:=By.frozen 4
 go_simp
 refine aQ ?_
 intro w9 e9
 have E9:w9=wq.drew.setCells w.heap.size 0 [.slice xa N.cells.length xn,.slice xa0 N.h0.length vT,.slice xa1 N.h1.length vU,.int .i64 N.turn,.int .i64 N.quiet]:=e9
 clear e9 z0 zf0 z1 zf1 z2 zf2 z3 zf3 z4 zf4
 refine hK.out _ _ ?_
 clear hK K
 refine jC ?_
 have B9:=Bz.store (vs:=[.slice xa N.cells.length xn,.slice xa0 N.h0.length vT,.slice xa1 N.h1.length vU,.int .i64 N.turn,.int .i64 N.quiet]) rfl
 have L9:=below_setCells Lz (Nat.le_refl w.heap.size) 0 [.slice xa N.cells.length xn,.slice xa0 N.h0.length vT,.slice xa1 N.h1.length vU,.int .i64 N.turn,.int .i64 N.quiet]
 rw [← E9] at B9 L9
 have bF:=hid B9
 have KC:=hid L9
 clear B9 L9 E9 Bz Lz By hHeld
 go_wp2_with fail
 exact bodyPost_ret (dJ rfl (by rfl) bF.out Tryz.underlying158 (by rfl) (by kernel_rfl)) rfl (by unfold Rx; rw [HNN.out]; exact ⟨_,_,_,rfl,HD.out.step (Fr.jM (S:=S) KC.out) (iE.refl _ _),KC.out⟩)
def jw {α:Type} (el:El α) (t:TypeId) (xs:List α) (w:World) (e:Ending) (w':World):Prop:=
 ∃ (v:Value) (vs:List Value),e=.returned v∧w'.ownsRow w.heap.size t el.k v xs.length vs∧(∀ i (h:i<xs.length),el.E w' xs[i] ((vs.drop (i * el.k)).take el.k))∧Below w.heap.size w w'
theorem jw.rd {α:Type} {el:El α} {t:TypeId} {w:World} {v:Value} {xs:List α} {vs:List Value} {b:Nat} (h:w.ownsRow b t el.k v xs.length vs) (hE:∀ i (h:i<xs.length),el.E w xs[i] ((vs.drop (i * el.k)).take el.k)):iC el w v xs:=iC.dB h hE
theorem nC {P:Program} {e:TypeId} {z:Value} {k b:Nat} (h:(P.info? e).map (fun i=>(i.zero,i.size,i.bytes))=some (some z,k,b)):∃ i,P.info? e=some i∧i.zero=some z∧i.size=k∧i.bytes=b:=by
 cases hh:P.info? e with
 | none=>rw [hh] at h; cases h
 | some i =>
  rw [hh] at h
  simp only [Option.map_some,Option.some.injEq,Prod.mk.injEq] at h
  exact ⟨i,rfl,h.1,h.2.1,h.2.2⟩
theorem Dx {k:Nat}:∀ (css:List (List Value)),(∀ cs∈css,cs.length=k)→css.flatten.length=css.length * k∧∀ i (h:i<css.length),(css.flatten.drop (i * k)).take k=css[i]
 | [],_=>⟨by simp,fun i h=>by cases h⟩
 | cs :: t,hall=>by
  have hc:=hall cs (by simp)
  obtain ⟨h1,h2⟩:=Dx t (fun c h=>hall c (by simp [h]))
  refine ⟨by rw [List.flatten_cons,List.length_append,h1,hc,List.length_cons,Nat.add_mul,Nat.one_mul,Nat.add_comm],fun i hi=>?_⟩
  cases i with
  | zero=>simp [hc]
  | succ i =>
   have:=h2 i (by simpa using hi)
   rw [List.flatten_cons,Nat.add_mul,Nat.one_mul,Nat.add_comm,← hc,← List.drop_drop,List.drop_left,hc,this]
   rfl
theorem qy {α:Type} {el:El α} (h1:∀ (w:World) (x:α) (cs:List Value),el.E w x cs→∀ u∈cs,u.oneCell'=true) {w:World} {v:Value} {xs:List α} (h:iC el w v xs) :
  ∃ (a:Option Addr) (n c:Nat) (vs:List Value),v=.slice a n c∧n=xs.length∧vs.length=n * el.k∧(∀ u∈vs,u.oneCell'=true)∧(∀ i (h:i<xs.length),el.E w xs[i] ((vs.drop (i * el.k)).take el.k)) ∧
   ((a=none→n=0)∧∀ ad,a=some ad→∀ j u,vs[j]?=some u→w.cell? (ad.add j)=some u):=by
 rcases h with ⟨a,c,rfl,_,hz⟩ | ⟨g,o,c,rfl,h2,h3,h4,h5⟩
 ·exact ⟨a,0,c,[],rfl,hz.symm,by simp,by simp,fun i hi=>by omega,fun _=>rfl,fun ad _ j u hu=>by simp at hu⟩
 ·have hch:∀ i:Fin xs.length,∃ cs,el.E w xs[i] cs∧∀ j,j<el.k→w.cell? ⟨g,o+i * el.k+j,none⟩=cs[j]?:=fun i=>h5 i i.2
  let css:=List.ofFn fun i=>Classical.choose (hch i)
  have hlen:css.length=xs.length:=by simp [css]
  have hsp:∀ i (hi:i<css.length),el.E w xs[i] css[i]∧∀ j,j<el.k→w.cell? ⟨g,o+i * el.k+j,none⟩=css[i][j]?:=fun i hi=>by
   have:=Classical.choose_spec (hch ⟨i,by omega⟩)
   simpa [css] using this
  have hk:∀ cs∈css,cs.length=el.k:=fun cs hcs=>by
   obtain ⟨i,hi,rfl⟩:=List.mem_iff_getElem.1 hcs
   exact el.len (hsp i hi).1
  obtain ⟨f1,f2⟩:=Dx css hk
  refine ⟨_,xs.length,c,css.flatten,rfl,rfl,by rw [f1,hlen],fun u hu=>?_,fun i hi=>by rw [f2 i (by omega)]; exact (hsp i (by omega)).1,(fun e=>by cases e),fun ad had j u hu=>?_⟩
  ·obtain ⟨cs,hcs,hu⟩:=List.mem_flatten.1 hu
   obtain ⟨i,hi,rfl⟩:=List.mem_iff_getElem.1 hcs
   exact h1 w _ _ (hsp i hi).1 u hu
  ·simp only [Option.some.injEq] at had
   subst had
   have hj:=(List.getElem?_eq_some_iff.1 hu).1
   rw [f1] at hj
   have hk0:0<el.k:=by
    rcases Nat.eq_zero_or_pos el.k with e | e
    ·rw [e] at hj; omega
    ·exact e
   have hi:j / el.k<css.length:=Nat.div_lt_of_lt_mul (by rw [Nat.mul_comm]; exact hj)
   have hm:j % el.k<el.k:=Nat.mod_lt _ hk0
   have e:=(hsp (j / el.k) hi).2 (j % el.k) hm
   have e2:o+j / el.k * el.k+j % el.k=o+j:=by have:=Nat.div_add_mod j el.k; rw [Nat.mul_comm] at this; omega
   rw [e2] at e
   have e3:(⟨g,o,none⟩:Addr).add j=⟨g,o+j,none⟩:=by unfold Addr.add; split <;> simp_all
   rw [e3,e,← hu]
   rw [← f2 _ hi,List.getElem?_take_of_lt hm,List.getElem?_drop]
   congr 1
   have:=Nat.div_add_mod j el.k
   rw [Nat.mul_comm] at this
   exact this
theorem XA:(Tryz.prog.info? 197).map (fun i=>(i.zero,i.size,i.bytes))=some (some (.agg #[.int .i64 0,.int .i64 0,.int .i64 0,.int .i64 0]),4,32):=by kernel_rfl
theorem TU {α:Type} (el:El α) (hk:el.k=4) (h1:∀ (w:World) (x:α) (cs:List Value),el.E w x cs→∀ u∈cs,u.oneCell'=true) (v:Value) (xs:List α) (w:World) (h:iC el w v xs) (hl:xs.length≤1000000) :
  Calls Tryz.prog 81 #[v] w (jw el 197 xs w):=by
 obtain ⟨i0,hi,hz0,hz1,hz2⟩:=nC XA
 have hq:=fun (w:World) (a:Option Addr) (n c:Nat)=>Lib.run_eql_slice_nil (P:=Tryz.prog) w 135 197 a n c 0 0 Tryz.underlying135
 have hown0:(w.alloc (.cells #[] 197)).ownsRow w.heap.size 197 4 (.slice (some ⟨w.heap.size,0,none⟩) 0 0) 0 []:=World.ownsRow_made w #[] 0 (Nat.le_refl _) (by unfold maxLen; omega) rfl
 obtain ⟨a,n,c,vs,rfl,hn,hvl,hone,hE,hcell⟩:=qy h1 h
 rw [hk] at hvl
 have HR:=hid hE
 cases a with
 | none =>
  have hn0:n=0:=hcell.1 rfl
  subst hn0
  obtain rfl:xs=[]:=List.length_eq_zero_iff.1 hn.symm
  clear h hl hE hcell hown0 hn hvl hone HR hi hz0 hz1 hz2
  go_enter Tryz.func81,Tryz.ntmps81
  go_wp2
  go_ret
  exact ⟨_,[],rfl,World.ownsRow_nil _ _ _ _,(fun i hi=>by cases hi),Below.refl _ _⟩
 | some ad =>
  have hnews:∀ j u,vs[j]?=some u→(w.alloc (.cells #[] 197)).cell? (ad.add j)=some u:=fun j u hu=>by
   have hc:=hcell.2 ad rfl j u hu
   rw [World.cell?_of_block (w:=w) (a:=ad.add j) (Below.heap_alloc w _ _ (World.block_lt_of_cell? w _ hc))]
   exact hc
  have nX:=hid hown0
  have nY:=hid hnews
  have OU:=hid hvl
  have IC:=hid hone
  have hnl:n≤1000000:=by omega
  have HN:=hid hn
  clear hown0 hnews hcell h hE hvl hone hl hn
  go_enter Tryz.func81,Tryz.ntmps81
  go_wp2_with (at_builtin; refine wpList_append_own _ rfl _ _ 135 rfl w.heap.size 197 i0 (.agg #[.int .i64 0,.int .i64 0,.int .i64 0,.int .i64 0]) 4 32 Tryz.underlying135 hi hz0 hz1 hz2 rfl (by decide) _ 0 [] rfl nX.out ad n c vs rfl OU.out nY.out IC.out ?c3 ?c4 ?c5 ?_)
  case c3=>unfold maxLen; omega
  case c4=>omega
  case c5=>simp
  intro v' w2 hown' hgrow _
  try simp only [Nat.zero_add,List.nil_append] at hown'
  have hb:Below w.heap.size w w2:=Below.grown ((Below.refl _ w).alloc (Nat.le_refl _) _) hgrow (by simp) (fun q hq=>by simp [Value.ownBlock] at hq; omega)
  have HO:=hid hown'
  have HB:=hid hb
  clear hown' hgrow hb
  go_wp2
  go_ret
  exact ⟨v',vs,rfl,by rw [← HN.out,hk]; exact HO.out,fun i hi=>el.mono (HR.out i hi) HB.out (Nat.le_refl _),HB.out⟩
theorem XB:(Tryz.prog.info? 139).map (fun i=>(i.zero,i.size,i.bytes))=some (some (.agg #[.int .i64 0,.int .i64 0,.int .i64 0,.bool false]),4,32):=by kernel_rfl
theorem TV {α:Type} (el:El α) (hk:el.k=4) (h1:∀ (w:World) (x:α) (cs:List Value),el.E w x cs→∀ u∈cs,u.oneCell'=true) (v:Value) (xs:List α) (w:World) (h:iC el w v xs) (hl:xs.length≤1000000) :
  Calls Tryz.prog 82 #[v] w (jw el 139 xs w):=by
 obtain ⟨i0,hi,hz0,hz1,hz2⟩:=nC XB
 have hq:=fun (w:World) (a:Option Addr) (n c:Nat)=>Lib.run_eql_slice_nil (P:=Tryz.prog) w 59 139 a n c 0 0 Tryz.underlying59
 have hown0:(w.alloc (.cells #[] 139)).ownsRow w.heap.size 139 4 (.slice (some ⟨w.heap.size,0,none⟩) 0 0) 0 []:=World.ownsRow_made w #[] 0 (Nat.le_refl _) (by unfold maxLen; omega) rfl
 obtain ⟨a,n,c,vs,rfl,hn,hvl,hone,hE,hcell⟩:=qy h1 h
 rw [hk] at hvl
 have HR:=hid hE
 cases a with
 | none =>
  have hn0:n=0:=hcell.1 rfl
  subst hn0
  obtain rfl:xs=[]:=List.length_eq_zero_iff.1 hn.symm
  clear h hl hE hcell hown0 hn hvl hone HR hi hz0 hz1 hz2
  go_enter Tryz.func82,Tryz.ntmps82
  go_wp2
  go_ret
  exact ⟨_,[],rfl,World.ownsRow_nil _ _ _ _,(fun i hi=>by cases hi),Below.refl _ _⟩
 | some ad =>
  have hnews:∀ j u,vs[j]?=some u→(w.alloc (.cells #[] 139)).cell? (ad.add j)=some u:=fun j u hu=>by
   have hc:=hcell.2 ad rfl j u hu
   rw [World.cell?_of_block (w:=w) (a:=ad.add j) (Below.heap_alloc w _ _ (World.block_lt_of_cell? w _ hc))]
   exact hc
  have nX:=hid hown0
  have nY:=hid hnews
  have OU:=hid hvl
  have IC:=hid hone
  have hnl:n≤1000000:=by omega
  have HN:=hid hn
  clear hown0 hnews hcell h hE hvl hone hl hn
  go_enter Tryz.func82,Tryz.ntmps82
  go_wp2_with (at_builtin; refine wpList_append_own _ rfl _ _ 59 rfl w.heap.size 139 i0 (.agg #[.int .i64 0,.int .i64 0,.int .i64 0,.bool false]) 4 32 Tryz.underlying59 hi hz0 hz1 hz2 rfl (by decide) _ 0 [] rfl nX.out ad n c vs rfl OU.out nY.out IC.out ?c3 ?c4 ?c5 ?_)
  case c3=>unfold maxLen; omega
  case c4=>omega
  case c5=>simp
  intro v' w2 hown' hgrow _
  try simp only [Nat.zero_add,List.nil_append] at hown'
  have hb:Below w.heap.size w w2:=Below.grown ((Below.refl _ w).alloc (Nat.le_refl _) _) hgrow (by simp) (fun q hq=>by simp [Value.ownBlock] at hq; omega)
  have HO:=hid hown'
  have HB:=hid hb
  clear hown' hgrow hb
  go_wp2
  go_ret
  exact ⟨v',vs,rfl,by rw [← HN.out,hk]; exact HO.out,fun i hi=>el.mono (HR.out i hi) HB.out (Nat.le_refl _),HB.out⟩
theorem Ry:(Tryz.prog.info? 68).map (fun i=>(i.zero,i.size,i.bytes))=some (some (.agg #[.int .i64 0,.int .i64 0,.int .i64 0]),3,24):=by kernel_rfl
theorem XC {α:Type} (el:El α) (hk:el.k=3) (h1:∀ (w:World) (x:α) (cs:List Value),el.E w x cs→∀ u∈cs,u.oneCell'=true) (v:Value) (xs:List α) (w:World) (h:iC el w v xs) (hl:xs.length≤1000000) :
  Calls Tryz.prog 108 #[v] w (jw el 68 xs w):=by
 obtain ⟨i0,hi,hz0,hz1,hz2⟩:=nC Ry
 have hq:=fun (w:World) (a:Option Addr) (n c:Nat)=>Lib.run_eql_slice_nil (P:=Tryz.prog) w 80 68 a n c 0 0 Tryz.underlying80
 have hown0:(w.alloc (.cells #[] 68)).ownsRow w.heap.size 68 3 (.slice (some ⟨w.heap.size,0,none⟩) 0 0) 0 []:=World.ownsRow_made w #[] 0 (Nat.le_refl _) (by unfold maxLen; omega) rfl
 obtain ⟨a,n,c,vs,rfl,hn,hvl,hone,hE,hcell⟩:=qy h1 h
 rw [hk] at hvl
 have HR:=hid hE
 cases a with
 | none =>
  have hn0:n=0:=hcell.1 rfl
  subst hn0
  obtain rfl:xs=[]:=List.length_eq_zero_iff.1 hn.symm
  clear h hl hE hcell hown0 hn hvl hone HR hi hz0 hz1 hz2
  go_enter Tryz.func108,Tryz.ntmps108
  go_wp2
  go_ret
  exact ⟨_,[],rfl,World.ownsRow_nil _ _ _ _,(fun i hi=>by cases hi),Below.refl _ _⟩
 | some ad =>
  have hnews:∀ j u,vs[j]?=some u→(w.alloc (.cells #[] 68)).cell? (ad.add j)=some u:=fun j u hu=>by
   have hc:=hcell.2 ad rfl j u hu
   rw [World.cell?_of_block (w:=w) (a:=ad.add j) (Below.heap_alloc w _ _ (World.block_lt_of_cell? w _ hc))]
   exact hc
  have nX:=hid hown0
  have nY:=hid hnews
  have OU:=hid hvl
  have IC:=hid hone
  have hnl:n≤1000000:=by omega
  have HN:=hid hn
  clear hown0 hnews hcell h hE hvl hone hl hn
  go_enter Tryz.func108,Tryz.ntmps108
  go_wp2_with (at_builtin; refine wpList_append_own _ rfl _ _ 80 rfl w.heap.size 68 i0 (.agg #[.int .i64 0,.int .i64 0,.int .i64 0]) 3 24 Tryz.underlying80 hi hz0 hz1 hz2 rfl (by decide) _ 0 [] rfl nX.out ad n c vs rfl OU.out nY.out IC.out ?c3 ?c4 ?c5 ?_)
  case c3=>unfold maxLen; omega
  case c4=>omega
  case c5=>simp
  intro v' w2 hown' hgrow _
  try simp only [Nat.zero_add,List.nil_append] at hown'
  have hb:Below w.heap.size w w2:=Below.grown ((Below.refl _ w).alloc (Nat.le_refl _) _) hgrow (by simp) (fun q hq=>by simp [Value.ownBlock] at hq; omega)
  have HO:=hid hown'
  have HB:=hid hb
  clear hown' hgrow hb
  go_wp2
  go_ret
  exact ⟨v',vs,rfl,by rw [← HN.out,hk]; exact HO.out,fun i hi=>el.mono (HR.out i hi) HB.out (Nat.le_refl _),HB.out⟩
theorem XD (w:World) (x:aB) (cs:List Value) (h:jK.E w x cs):∀ u∈cs,u.oneCell'=true:=by
 simp only [jK] at h
 subst h
 intro u hu
 simp at hu
 rcases hu with rfl | rfl | rfl <;> rfl
theorem Pv (m:aB) (t:List aB):bK (m :: t)=.int .i64 m.src :: .int .i64 m.dst :: .int .i64 m.piece :: bK t:=rfl
theorem Lh {w:World}:∀ (xs:List aB) (vs:List Value),vs.length=xs.length * 3→(∀ i (h:i<xs.length),jK.E w xs[i] ((vs.drop (i * 3)).take 3))→vs=bK xs
 | [],vs,hl,_=>by
  have:vs.length=0:=by simpa using hl
  rw [List.length_eq_zero_iff.1 this]; rfl
 | x :: t,vs,hl,h=>by
  have h0:vs.take 3=[.int .i64 x.src,.int .i64 x.dst,.int .i64 x.piece]:=h 0 (by simp)
  have ih:=Lh (w:=w) t (vs.drop 3) (by simp at hl ⊢; omega) (fun i hi=>by
   have:=h (i+1) (by simpa using hi)
   rw [show (i+1) * 3=3+i * 3 by omega] at this
   rw [List.drop_drop]
   exact this)
  rw [Pv,← ih,← List.take_append_drop 3 vs,h0]
  simp
theorem XE (v:Value) (xs:List aB) (w:World) (h:iC jK w v xs) (hl:xs.length≤1000000) :
  Calls Tryz.prog 108 #[v] w fun e w'=>∃ v',e=.returned v'∧w'.ownsRow w.heap.size 68 3 v' xs.length (bK xs)∧Below w.heap.size w w':=by
 refine (XC jK rfl XD v xs w h hl).mono ?_
 rintro e w' ⟨v',vs,rfl,ho,hE,hb⟩
 have e1:=Lh xs vs ho.1 hE
 subst e1
 exact ⟨v',rfl,ho,hb⟩
theorem TW {R:aA} {p:bf} (K:qg R p):p.cells.length≤1000∧p.h0.length≤1000∧p.h1.length≤1000:=by
 have:=K.len; have:=K.l0; have:=K.l1; have:=K.r.np; omega
theorem lY {S:Nat→Prop} {base b:Nat} {R:aA} {ms:List aB} {vp vs ve vl vm:Value} {rows:List lK} (w:World) (h:bJ S base w b R ms vp vs ve vl vm rows):Calls Tryz.prog 127 #[.pointer (some ⟨b,0,none⟩)] w fun e w'=>∃ vc v0 v1,e=.returned (.agg #[vc,v0,v1,.int .i64 (bV R ms).turn,.int .i64 (bV R ms).quiet])∧mF w.heap.size w' (bV R ms) vc v0 v1∧Below w.heap.size w w':=by
 have hsm:=TW h.nok
 have HG0:=hid (h.below ((Below.refl _ w).alloc (Nat.le_refl _) (.cells #[.slice none 0 0,.slice none 0 0,.slice none 0 0,.int .i64 0,.int .i64 0] 158)))
 have fM:=hid (Box.new w [.slice none 0 0,.slice none 0 0,.slice none 0 0,.int .i64 0,.int .i64 0] 158)
 have HLn:=hid ((Below.refl w.heap.size w).alloc (Nat.le_refl _) (.cells #[.slice none 0 0,.slice none 0 0,.slice none 0 0,.int .i64 0,.int .i64 0] 158))
 clear h
 go_enter Tryz.func127,Tryz.ntmps127
 go_upto_region 1 with (fail)
 generalize (w.alloc (.cells #[.slice none 0 0,.slice none 0 0,.slice none 0 0,.int .i64 0,.int .i64 0] 158))=w0 at *
 go_wp2_with fail
 refine (yj w0 HG0.out).mono ?_
 rintro e w1 ⟨nc,n0,n1,rfl,hn1,hb1⟩
 have HN1:=hid hn1.now
 have HB1:=hid (fM.out.stays hb1)
 have yt:=hid (ak HLn.out hb1 HLn.out.size)
 clear hn1 hb1
 go_wp2_with fail
 refine (KQ (bV R ms) nc n0 n1 w1 HN1.out (by omega) (by omega) (by omega)).mono ?_
 rintro e w2 ⟨c,c0,c1,rfl,ho2,hb2⟩
 obtain ⟨pa,pn,rfl⟩:=aG ho2.1
 obtain ⟨pa0,pn0,rfl⟩:=aG ho2.2.1
 obtain ⟨pa1,pn1,rfl⟩:=aG ho2.2.2.1
 have HB2:=hid (HB1.out.stays hb2)
 have HL2:=hid (ak yt.out hb2 yt.out.size)
 have hz:=HB1.out.lt
 have xH:=hid ho2
 clear hb2 ho2
 unfold sG
 go_wp2_with (refine aT (vs:=[.slice pa (bV R ms).cells.length pn,.slice pa0 (bV R ms).h0.length pn0,.slice pa1 (bV R ms).h1.length pn1,.int .i64 (bV R ms).turn,.int .i64 (bV R ms).quiet]) (by rfl) 158 (.tmp 2) (.tmp 5) (by rfl) (w.heap.size) (by rfl) (by rfl) HB2.out rfl (by kernel_rfl) (by rfl) ?_)
 exact bodyPost_ret (dJ rfl (by rfl) (HB2.out.store rfl) Tryz.underlying158 (by rfl) (by kernel_rfl)) rfl ⟨_,_,_,rfl,(xH.out.setCells hz 0 _).base (by have:=yt.out.size; omega),below_setCells HL2.out (Nat.le_refl _) 0 _⟩
theorem vV {S:Nat→Prop} {base b:Nat} {R:aA} {ms:List aB} {vp vs ve vl vm:Value} {rows:List lK} (w:World) (h:bJ S base w b R ms vp vs ve vl vm rows):Calls Tryz.prog 59 #[.pointer (some ⟨b,0,none⟩)] w fun e w'=>∃ v,e=.returned v∧w'.ownsRow w.heap.size 68 3 v ms.length (bK ms)∧Below w.heap.size w w':=by
 have HC:=hid (XE vm ms w (oD h.om) (by have:=h.lt; omega))
 have hc:=h.box.cell 12 rfl
 have hlt:=h.box.lt
 clear h
 go_enter Tryz.func59,Tryz.ntmps59
 go_wp2_with fail
 refine HC.out.mono ?_
 rintro e w1 ⟨v,rfl,ho,hb⟩
 obtain ⟨x,y,rfl⟩:=aG ho
 have HO:=hid ho
 have HB:=hid hb
 clear ho hb
 go_wp2_with fail
 go_ret
 exact ⟨_,rfl,HO.out,HB.out⟩
def Lj (R:aA) (ms:List aB) (k:Nat):Nat:=(((Dw R ms).take k).filter fun p=>sV p (bV R ms)).length
theorem Px (R:aA) (ms:List aB) (k:Nat) (h:k≤ms.length):Lj R ms (k+1)=Lj R ms k+if sV (kH R (aF R) (ms.take k)) (bV R ms)=true then 1 else 0:=by
 unfold Lj
 have hl:=yh R ms
 rw [List.take_succ_eq_append_getElem (by omega),List.filter_append,List.length_append]
 have e:=Le R ms k h
 rw [List.getD_eq_getElem?_getD,List.getElem?_eq_getElem (by omega)] at e
 simp only [Option.getD_some] at e
 rw [e]
 congr 1
 by_cases hs:sV (kH R (aF R) (ms.take k)) (bV R ms)=true <;> simp [hs]
theorem count_any {S:Nat→Prop} {base b:Nat} {R:aA} {ms:List aB} {vp vs ve vl vm:Value} {rows:List lK} (w:World) (h:bJ S base w b R ms vp vs ve vl vm rows):Calls Tryz.prog 123 #[.pointer (some ⟨b,0,none⟩)] w fun e w'=>e=.returned (.int .i64 (zO R ms))∧Below w.heap.size w w':=by
 have hms:=h.lt
 obtain ⟨g,c,hv⟩:=dY h.ol (by omega)
 subst hv
 have HG:=hid h
 have hc:=h.box.cell 11 rfl
 have hlt:=h.box.lt
 clear h
 have hcast:((ms.length+1:Nat):Int)=(ms.length:Int)+1:=by omega
 go_enter Tryz.func123,Tryz.ntmps123
 go_wp2_with fail
 clear hc hlt
 go_loopw [11,3,5] (fun vi vn vp' wr=>∃ (k cnt:Nat),k≤ms.length+1∧cnt≤k∧vi=.int .i64 k∧vn=.int .i64 cnt∧Hid (Lj R ms k=cnt)∧Hid (bJ S base wr b R ms vp vs ve (.slice (some ⟨g,0,none⟩) (ms.length+1) c) vm rows)∧Hid (Below w.heap.size w wr)) (fun i _ _ _=>ms.length+1 - (intOf i).toNat)
 case atStart=>exact ⟨0,0,Nat.zero_le _,Nat.zero_le _,rfl,rfl,hid rfl,HG,hid (Below.refl _ _)⟩
 case round =>
  obtain ⟨k,cnt,hk,hcn,rfl,rfl,HCn,HGr,bn⟩:=hrel
  have hkI:(k:Int)≤(ms.length:Int)+1:=by omega
  by_cases hlt:k<ms.length+1
  ·have atW:(k:Int)<(ms.length:Int)+1:=by omega
   have hgl:=(HGr.out.ol.lt g rfl).2
   obtain ⟨e0,e1⟩:=HGr.out.row k (by omega)
   obtain ⟨c0,c1,c2,c3,c4⟩:=Dv rows k (by have:=HGr.out.rlen; omega)
   rw [e0] at c3 c4
   have q0:=(HGr.out.ol.cellAt (k * 5) (by omega)).trans c0
   have q1:=(HGr.out.ol.cellAt (k * 5+1) (by omega)).trans c1
   have q2:=(HGr.out.ol.cellAt (k * 5+2) (by omega)).trans c2
   have q3:=(HGr.out.ol.cellAt (k * 5+3) (by omega)).trans c3
   have q4:=(HGr.out.ol.cellAt (k * 5+4) (by omega)).trans c4
   have HCS:=hid (Px R ms k (by omega))
   generalize kH R (aF R) (ms.take k)=Pk at *
   obtain ⟨xa,xn,f0,-,-⟩:=e1.now.1.form
   obtain ⟨xa0,vT,f1,-,-⟩:=e1.now.2.1.form
   obtain ⟨xa1,vU,f2,-,-⟩:=e1.now.2.2.form
   rw [f0] at e1 q0
   rw [f1] at e1 q1
   rw [f2] at e1 q2
   have HP:=hid e1.now
   clear e0 c0 c1 c2 c3 c4 f0 f1 f2 e1
   go_upto_region 5 with (fail)
   have hBn:Box (wr.alloc (.cells #[.slice xa Pk.cells.length xn,.slice xa0 Pk.h0.length vT,.slice xa1 Pk.h1.length vU,.int .i64 Pk.turn,.int .i64 Pk.quiet] 158)) wr.heap.size [.slice xa Pk.cells.length xn,.slice xa0 Pk.h0.length vT,.slice xa1 Pk.h1.length vU,.int .i64 Pk.turn,.int .i64 Pk.quiet] 158:=Box.new wr _ _
   have hLn:=bn.out.alloc bn.out.size (.cells #[.slice xa Pk.cells.length xn,.slice xa0 Pk.h0.length vT,.slice xa1 Pk.h1.length vU,.int .i64 Pk.turn,.int .i64 Pk.quiet] 158)
   have hGn:=HGr.out.below ((Below.refl _ wr).alloc (Nat.le_refl _) (.cells #[.slice xa Pk.cells.length xn,.slice xa0 Pk.h0.length vT,.slice xa1 Pk.h1.length vU,.int .i64 Pk.turn,.int .i64 Pk.quiet] 158))
   have hPn:=HP.out.below ((Below.refl _ wr).alloc (Nat.le_refl _) (.cells #[.slice xa Pk.cells.length xn,.slice xa0 Pk.h0.length vT,.slice xa1 Pk.h1.length vU,.int .i64 Pk.turn,.int .i64 Pk.quiet] 158)) (Nat.le_refl _)
   clear q0 q1 q2 q3 q4 hgl
   generalize (wr.alloc (.cells #[.slice xa Pk.cells.length xn,.slice xa0 Pk.h0.length vT,.slice xa1 Pk.h1.length vU,.int .i64 Pk.turn,.int .i64 Pk.quiet] 158))=wq at *
   have Bz:Box wq.drew wr.heap.size [.slice xa Pk.cells.length xn,.slice xa0 Pk.h0.length vT,.slice xa1 Pk.h1.length vU,.int .i64 Pk.turn,.int .i64 Pk.quiet] 158:=hBn
   have Lz:Below w.heap.size w wq.drew:=aK hLn
   have Gz:bJ S base wq.drew b R ms vp vs ve (.slice (some ⟨g,0,none⟩) (ms.length+1) c) vm rows:=hGn.below (aK (Below.refl _ _))
   have Pz:sH wq.drew Pk (.slice xa Pk.cells.length xn) (.slice xa0 Pk.h0.length vT) (.slice xa1 Pk.h1.length vU):=hPn.below (aK (Below.refl _ _)) (Nat.le_refl _)
   clear hBn hLn hGn hPn
   refine wp_region_noPanic ?_
   refine bI (S:=(fun w'=>w'.cell? ⟨wr.heap.size,0,none⟩=some (.slice xa Pk.cells.length xn)∧w'.cell? ⟨wr.heap.size,1,none⟩=some (.slice xa0 Pk.h0.length vT)∧w'.cell? ⟨wr.heap.size,2,none⟩=some (.slice xa1 Pk.h1.length vU)∧w'.cell? ⟨wr.heap.size,3,none⟩=some (.int .i64 Pk.turn)∧w'.cell? ⟨wr.heap.size,4,none⟩=some (.int .i64 Pk.quiet))) (L:=[]) (by kernel_rfl) (by and_intros <;> exact Bz.cell _ rfl) (fun hHeld=>?_)
   refine dV 0 ?_
   refine aC 1 ?_
   refine fH 2 fun K hK=>?_
   go_simp
   refine (yj _ Gz).mono ?_
   rintro e w5 ⟨nc,n0,n1,rfl,IE,hb5⟩
   have G5:=Gz.below hb5
   have B5:=Bz.stays hb5
   have L5:=ak Lz hb5 Lz.size
   have P5:=Pz.below hb5 (Nat.le_refl _)
   have N5:=IE.now
   clear hb5 IE
   refine hK.out _ _ (by and_intros <;> exact B5.cell _ rfl) (fun hHeld=>?_)
   clear hK K
   refine fH 3 fun K hK=>?_
   go_simp
   refine (Xx Pk (bV R ms) _ _ _ nc n0 n1 _ P5 N5).mono ?_
   rintro e w6 ⟨rfl,hb6⟩
   have G6:=G5.below hb6
   have B6:=B5.stays hb6
   have L6:=ak L5 hb6 L5.size
   clear hb6
   refine hK.out _ _ (by and_intros <;> exact B6.cell _ rfl) (fun hHeld=>?_)
   clear hK K
   refine jC ?_
   have HG6:=hid G6
   have V3:=hid L6
   clear G6 L6 B6 G5 B5 L5 P5 N5 hHeld Gz Bz Lz Pz
   cases hsm:sV Pk (bV R ms)
   ·go_wp2_with fail
    go_roundw
    case rel=>exact ⟨k+1,cnt,by omega,by omega,by go_num,rfl,hid (by rw [HCS.out,HCn.out,hsm]; simp),HG6,V3⟩
    case measure=>simp [intOf]; omega
   ·go_wp2_with fail
    go_roundw
    case rel=>exact ⟨k+1,cnt+1,by omega,by omega,by go_num,by go_num,hid (by rw [HCS.out,HCn.out,hsm]; simp),HG6,V3⟩
    case measure=>simp [intOf]; omega
  ·obtain rfl:k=ms.length+1:=by omega
   have HE:Hid (zO R ms=cnt):=hid (by rw [← HCn.out]; unfold zO Lj; rw [List.take_of_length_le (by rw [yh]; omega)])
   have hlt':¬ ((ms.length:Int)+1<(ms.length:Int)+1):=by omega
   go_wp2_with fail
   go_ret
   exact ⟨by rw [HE.out]; rfl,bn.out⟩
theorem oZ (HS:SortMvSaid) {S:Nat→Prop} {base b:Nat} {R:aA} {ms:List aB} {vp vs ve vl vm:Value} {rows:List lK} (w:World) (h:bJ S base w b R ms vp vs ve vl vm rows):Calls Tryz.prog 90 #[.pointer (some ⟨b,0,none⟩)] w fun e w'=>e=.returned (.int .i64 (fZ R ms))∧Below w.heap.size w w':=by
 have qo:=hid HS
 have HK:=hid h.nok
 have HG:=hid h
 clear h HS
 go_enter Tryz.func90,Tryz.ntmps90
 go_upto_region 1 with (fail)
 have Gz:bJ S base w.drew b R ms vp vs ve vl vm rows:=HG.out.below (aK (Below.refl _ _))
 have Lz:Below w.heap.size w w.drew:=aK (Below.refl _ _)
 clear HG
 refine wp_region_noPanic ?_
 refine bI (S:=(fun w'=>w'.cell? ⟨b,0,none⟩=some (.string R.name)∧w'.cell? ⟨b,1,none⟩=some (.int .i64 R.width)∧w'.cell? ⟨b,2,none⟩=some (.int .i64 R.height)∧w'.cell? ⟨b,3,none⟩=some vp∧w'.cell? ⟨b,4,none⟩=some vs∧w'.cell? ⟨b,5,none⟩=some (.bool R.falls)∧w'.cell? ⟨b,6,none⟩=some (.bool R.keeps)∧w'.cell? ⟨b,7,none⟩=some ve∧w'.cell? ⟨b,8,none⟩=some (.int .i64 R.blocked)∧w'.cell? ⟨b,9,none⟩=some (.int .i64 R.quiet)∧w'.cell? ⟨b,10,none⟩=some (.int .i64 R.bC))) (L:=[]) (by kernel_rfl) (by and_intros <;> exact Gz.box.cell _ rfl) (fun hHeld=>?_)
 refine aC 0 ?_
 refine aC 4 ?_
 refine aC 1 ?_
 refine aC 2 ?_
 refine dV 3 ?_
 refine fH 5 fun K hK=>?_
 go_simp
 refine (yj _ Gz).mono ?_
 rintro e w5 ⟨nc,n0,n1,rfl,IE,hb5⟩
 have G5:=Gz.below hb5
 have L5:=ak Lz hb5 Lz.size
 have N5:=IE.now
 clear hb5 IE
 refine hK.out _ _ (by and_intros <;> exact G5.box.cell _ rfl) (fun hHeld=>?_)
 clear hK K
 refine fH 6 fun K hK=>?_
 go_simp
 refine (Dp qo.out R vp vs ve (bV R ms) nc n0 n1 _ G5.rd.now N5 HK.out).mono ?_
 rintro e w6 ⟨rfl,hb6⟩
 have G6:=G5.below hb6
 have L6:=ak L5 hb6 L5.size
 clear hb6
 refine hK.out _ _ (by and_intros <;> exact G6.box.cell _ rfl) (fun hHeld=>?_)
 clear hK K
 refine aC 7 ?_
 refine jC ?_
 have HG6:=hid G6
 have V3:=hid L6
 clear G6 L6 G5 L5 N5 hHeld Gz Lz
 go_upto_region 2 with (fail)
 have Gy:bJ S base w6.drew b R ms vp vs ve vl vm rows:=HG6.out.below (aK (Below.refl _ _))
 have Ly:Below w.heap.size w w6.drew:=aK V3.out
 clear HG6 V3
 generalize hx:dN R (bV R ms)=x at *
 by_cases hx0:x=0
 rotate_left
 ·have hxb:(x == 0)=false:=by simpa using hx0
  have HE:Hid (fZ R ms=x):=hid (by unfold fZ; rw [hx,if_neg (by simp [hx0])])
  clear hx hx0
  refine wp_region_noPanic ?_
  refine bI (S:=(fun w'=>w'.cell? ⟨b,10,none⟩=some (.int .i64 R.bC))) (L:=[]) (by kernel_rfl) (Gy.box.cell 10 rfl) (fun hHeld=>?_)
  refine aC 0 ?_
  refine aC 1 ?_
  refine aC 2 ?_
  refine pK 3 ?_
  refine pK 4 ?_
  refine pK 5 ?_
  refine pK 6 ?_
  refine pK 7 ?_
  refine pK 8 ?_
  refine aC 9 ?_
  refine aC 10 ?_
  refine pK 11 ?_
  refine pK 13 ?_
  refine pK 12 ?_
  refine pK 14 ?_
  refine pK 15 ?_
  refine pK 16 ?_
  refine pK 17 ?_
  refine pK 18 ?_
  refine aC 19 ?_
  refine jC ?_
  have EZ:=hid Ly
  go_wp2_with fail
  go_ret
  exact ⟨by rw [HE.out]; rfl,EZ.out⟩
 subst hx0
 by_cases hr0:R.bC=0
 ·have hrb:(R.bC != 0)=false:=by simpa using hr0
  have HE:Hid (fZ R ms=0):=hid (by unfold fZ; rw [hx,if_neg (by simp [hr0])])
  clear hx hr0
  refine wp_region_noPanic ?_
  refine bI (S:=(fun w'=>w'.cell? ⟨b,10,none⟩=some (.int .i64 R.bC))) (L:=[]) (by kernel_rfl) (Gy.box.cell 10 rfl) (fun hHeld=>?_)
  refine aC 0 ?_
  refine aC 1 ?_
  refine aC 2 ?_
  refine aC 3 ?_
  refine aC 4 ?_
  refine aC 5 ?_
  refine aC 6 ?_
  refine dV 7 ?_
  refine aC 8 ?_
  refine aC 9 ?_
  refine aC 10 ?_
  refine pK 11 ?_
  refine pK 13 ?_
  refine pK 12 ?_
  refine pK 14 ?_
  refine pK 15 ?_
  refine pK 16 ?_
  refine pK 17 ?_
  refine pK 18 ?_
  refine aC 19 ?_
  refine jC ?_
  have EZ:=hid Ly
  go_wp2_with fail
  go_ret
  exact ⟨by rw [HE.out]; rfl,EZ.out⟩
 have hrb:(R.bC != 0)=true:=by simpa using hr0
 by_cases hc:R.bC≤(zO R ms:Int)
 ·have HE:Hid (fZ R ms=3):=hid (by unfold fZ; rw [hx,if_pos ⟨rfl,hr0,hc⟩])
  clear hx hr0
  refine wp_region_noPanic ?_
  refine bI (S:=(fun w'=>w'.cell? ⟨b,10,none⟩=some (.int .i64 R.bC))) (L:=[]) (by kernel_rfl) (Gy.box.cell 10 rfl) (fun hHeld=>?_)
  refine aC 0 ?_
  refine aC 1 ?_
  refine aC 2 ?_
  refine aC 3 ?_
  refine aC 4 ?_
  refine aC 5 ?_
  refine aC 6 ?_
  refine dV 7 ?_
  refine aC 8 ?_
  refine aC 9 ?_
  refine aC 10 ?_
  refine aC 11 ?_
  refine aC 13 ?_
  refine aC 14 ?_
  refine aC 15 ?_
  refine aC 16 ?_
  refine dV 17 ?_
  refine fH 12 fun K hK=>?_
  go_simp
  refine (count_any _ Gy).mono ?_
  rintro e w7 ⟨rfl,hb7⟩
  have G7:=Gy.below hb7
  have L7:=ak Ly hb7 Ly.size
  clear hb7
  refine hK.out _ _ (G7.box.cell 10 rfl) (fun hHeld=>?_)
  clear hK K
  refine aC 18 ?_
  refine aC 19 ?_
  refine jC ?_
  have EZ:=hid L7
  go_wp2_with fail
  go_ret
  exact ⟨by rw [HE.out]; rfl,EZ.out⟩
 ·have HE:Hid (fZ R ms=0):=hid (by unfold fZ; rw [hx,if_neg (by simp [hc])])
  clear hx hr0
  refine wp_region_noPanic ?_
  refine bI (S:=(fun w'=>w'.cell? ⟨b,10,none⟩=some (.int .i64 R.bC))) (L:=[]) (by kernel_rfl) (Gy.box.cell 10 rfl) (fun hHeld=>?_)
  refine aC 0 ?_
  refine aC 1 ?_
  refine aC 2 ?_
  refine aC 3 ?_
  refine aC 4 ?_
  refine aC 5 ?_
  refine aC 6 ?_
  refine dV 7 ?_
  refine aC 8 ?_
  refine aC 9 ?_
  refine aC 10 ?_
  refine aC 11 ?_
  refine aC 13 ?_
  refine aC 14 ?_
  refine aC 15 ?_
  refine aC 16 ?_
  refine dV 17 ?_
  refine fH 12 fun K hK=>?_
  go_simp
  refine (count_any _ Gy).mono ?_
  rintro e w7 ⟨rfl,hb7⟩
  have G7:=Gy.below hb7
  have L7:=ak Ly hb7 Ly.size
  clear hb7
  refine hK.out _ _ (G7.box.cell 10 rfl) (fun hHeld=>?_)
  clear hK K
  refine aC 18 ?_
  refine aC 19 ?_
  refine jC ?_
  have EZ:=hid L7
  go_wp2_with fail
  go_ret
  exact ⟨by rw [HE.out]; rfl,EZ.out⟩
end Go.Proofs.YteablcielclaeaaGreatDoor
