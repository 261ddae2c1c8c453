/- GmA: Play, Priv, GameA, GameN, Clone, GameP, in one text. -/
import Derived.Test.YtmabaojkignodaaGreatDoorE12
namespace Go.Proofs.YtmabaojkignodaaGreatDoor
set_option linter.unusedVariables false
set_option maxHeartbeats 4000000
set_option maxRecDepth 100000
def jQ (R:aC) (p:bg) (ms:List aN):bg:=ms.foldl (bY R) p
theorem Ai (R:aC) (p:bg) (ms:List aN) (m:aN):jQ R p (ms++[m])=bY R (jQ R p ms) m:=by simp [jQ]
theorem Ju (R:aC) (p:bg) (ms:List aN) (k:Nat) (h:k<ms.length):jQ R p (ms.take (k+1))=bY R (jQ R p (ms.take k)) (ms.getD k default):=by
 rw [List.take_succ_eq_append_getElem h,Ai,List.getD_eq_getElem?_getD,List.getElem?_eq_getElem h]; rfl
def iC (R:aC) (p:bg) (ms:List aN):Prop:=∀ k,k<ms.length→ms.getD k default∈iF R (jQ R p (ms.take k))
theorem iC.nil (R:aC) (p:bg):iC R p []:=fun k h=>by simp at h
theorem iC.snoc {R:aC} {p:bg} {ms:List aN} {m:aN} (h:iC R p ms) (hm:m∈iF R (jQ R p ms)):iC R p (ms++[m]):=by
 intro k hk
 simp at hk
 rcases Nat.lt_or_ge k ms.length with e | e
 ·rw [List.take_append_of_le_length (by omega),show (ms++[m]).getD k default=ms.getD k default by simp [List.getD_eq_getElem?_getD,List.getElem?_append_left e]]
  exact h k e
 ·obtain rfl:k=ms.length:=by omega
  rw [List.take_left,show (ms++[m]).getD ms.length default=m by simp [List.getD_eq_getElem?_getD]]
  exact hm
theorem GL {R:aC} {p:bg} {ms:List aN} (K:nV R p) (h:iC R p ms) (k:Nat) (hk:k≤ms.length):nV R (jQ R p (ms.take k)):=by
 induction k with
 | zero=>exact K
 | succ k ih =>
  rw [Ju R p ms k (by omega)]
  exact UM (ih (by omega)) (h k (by omega))
end Go.Proofs.YtmabaojkignodaaGreatDoor
namespace Go.Proofs.YtmabaojkignodaaGreatDoor
open Go.ChangeShapes Go.WideShapes Go.ChangeAt Go.RowKit
set_option linter.unusedVariables false
set_option maxHeartbeats 4000000
set_option maxRecDepth 100000
structure Fr (S:Nat→Prop) (w w':World):Prop where
 os:w'.os=w.os
 tape:w'.tape=w.tape
 output:w'.output=w.output
 size:w.heap.size≤w'.heap.size
 block:∀ k,k<w.heap.size→¬ S k→w'.heap[k]?=w.heap[k]?
theorem Fr.refl (S:Nat→Prop) (w:World):Fr S w w:=⟨rfl,rfl,rfl,Nat.le_refl _,fun _ _ _=>rfl⟩
def dw (w:World) (S S':Nat→Prop):Prop:=∀ k,k<w.heap.size→S' k→S k
theorem dw.refl (w:World) (S:Nat→Prop):dw w S S:=fun _ _ h=>h
theorem dw.trans {w w':World} {S S' S'':Nat→Prop} (h:dw w S S') (h':dw w' S' S'') (hs:w.heap.size≤w'.heap.size):dw w S S'':=fun k hk h2=>h k hk (h' k (by omega) h2)
theorem Fr.trans {S S':Nat→Prop} {a b c:World} (h:Fr S a b) (k:Fr S' b c) (hs:dw a S S'):Fr S a c:=
 ⟨k.os.trans h.os,k.tape.trans h.tape,k.output.trans h.output,Nat.le_trans h.size k.size,fun i hi hn=>(k.block i (Nat.lt_of_lt_of_le hi h.size) (fun e=>hn (hs i hi e))).trans (h.block i hi hn)⟩
theorem Fr.mono {S S':Nat→Prop} {w w':World} (h:Fr S w w') (hs:∀ k,k<w.heap.size→S k→S' k):Fr S' w w':=⟨h.os,h.tape,h.output,h.size,fun k hk hn=>h.block k hk (fun e=>hn (hs k hk e))⟩
theorem Fr.of_below {S:Nat→Prop} {B:Nat} {w w':World} (h:Below B w w') (hS:∀ k,k<w.heap.size→B≤k→S k):Fr S w w':=
 ⟨h.os,h.tape,h.output,h.size,fun k hk hn=>h.block k (by rcases Nat.lt_or_ge k B with e | e; exact e; exact absurd (hS k hk e) hn)⟩
theorem Fr.jF {S:Nat→Prop} {w w':World} (h:Below w.heap.size w w'):Fr S w w':=Fr.of_below h (fun k hk hb=>by omega)
theorem Fr.below {S:Nat→Prop} {B:Nat} {w w':World} (h:Fr S w w') (hS:∀ k,S k→B≤k) (hB:B≤w.heap.size):Below B w w':=
 ⟨h.os,h.tape,h.output,h.size,fun k hk=>h.block k (by omega) (fun e=>by have:=hS k e; omega)⟩
theorem Fr.drew {S:Nat→Prop} {w w':World} (h:Fr S w w'):Fr S w w'.drew:=⟨h.os,h.tape,h.output,h.size,h.block⟩
theorem Fr.drewN {S:Nat→Prop} {w w':World} (h:Fr S w w') (n:Nat):Fr S w (w'.drewN n):=⟨h.os,h.tape,h.output,h.size,h.block⟩
theorem Fr.alloc {S:Nat→Prop} {w w':World} (h:Fr S w w') (o:Obj):Fr S w (w'.alloc o):=
 h.trans (S':=S) (Fr.jF ((Below.refl _ _).alloc (Nat.le_refl _) o)) (dw.refl _ _)
theorem Fr.grown {S:Nat→Prop} {a w w':World} {row:Option Nat} (h:Fr S a w) (hg:w.grownBy w' row) (hr:∀ k,row=some k→k<a.heap.size→S k):Fr S a w':=
 ⟨hg.os.trans h.os,hg.tape.trans h.tape,hg.output.trans h.output,Nat.le_trans h.size hg.size,fun k hk hn =>
  (hg.block k (Nat.lt_of_lt_of_le hk h.size) (fun e=>hn (hr k e.symm hk))).trans (h.block k hk hn)⟩
theorem Fr.setCell {S:Nat→Prop} {a w:World} (h:Fr S a w) {p:Addr} (hp:S p.block) (u:Value):Fr S a (w.setCell p u):=
 ⟨h.os,h.tape,h.output,by simpa [World.setCell] using h.size,fun k hk hn=>(Below.heap_setCell _ _ _ _ (fun e=>hn (by rw [e]; exact hp))).trans (h.block k hk hn)⟩
theorem Fr.setCells {S:Nat→Prop} {a w:World} (h:Fr S a w) {b:Nat} (hp:S b) (o:Nat) (vs:List Value):Fr S a (w.setCells b o vs):=
 ⟨(eu b vs o w).1.trans h.os,(eu b vs o w).2.1.trans h.tape,(eu b vs o w).2.2.trans h.output,by rw [size_setCells]; exact h.size,
  fun k hk hn=>(jJ b vs o w k (fun e=>hn (by rw [e]; exact hp))).trans (h.block k hk hn)⟩
def Held (S:Nat→Prop) (w:World) (D:World→Prop):Prop:=∀ w',Fr S w w'→D w'
theorem Held.now {S:Nat→Prop} {w:World} {D:World→Prop} (h:Held S w D):D w:=h w (Fr.refl _ _)
theorem Held.step {S S':Nat→Prop} {w w1:World} {D:World→Prop} (h:Held S w D) (hf:Fr S w w1) (hs:dw w S S'):Held S' w1 D:=fun w' hw=>h w' (hf.trans hw hs)
theorem Held.imp {S:Nat→Prop} {w:World} {D D':World→Prop} (h:Held S w D) (hd:∀ w',D w'→D' w'):Held S w D':=fun w' hw=>hd w' (h w' hw)
theorem gV {S:Nat→Prop} {w w':World} {base:Nat} {e:TypeId} {sz n:Nat} {v:Value} {xs:List Value} (h:w.ownsRow base e sz v n xs) (hf:Fr S w w') (hS:∀ k,v.ownBlock=some k→¬ S k):w'.ownsRow base e sz v n xs:=by
 refine ⟨h.1,?_⟩
 rcases h.2 with h0 | ⟨g,cap,cur,rfl,hb,hg,r⟩
 ·exact .inl h0
 ·have hlt:g<w.heap.size:=by
   by_cases hh:g<w.heap.size
   ·exact hh
   ·rw [Array.getElem?_eq_none (by omega)] at hg
    cases hg
  exact .inr ⟨g,cap,cur,rfl,hb,(hf.block g hlt (hS g rfl)).trans hg,r⟩
theorem Eh {S:Nat→Prop} {w:World} {base:Nat} {e:TypeId} {sz n:Nat} {v:Value} {xs:List Value} (h:w.ownsRow base e sz v n xs) (hS:∀ k,base≤k→k<w.heap.size→¬ S k):Held S w fun w'=>w'.ownsRow base e sz v n xs:=
 fun w' hw=>gV h hw (fun k hk=>hS k (h.lt k hk).1 (h.lt k hk).2)
theorem oZ {S:Nat→Prop} {w:World} {base:Nat} {p:bg} {vc v0 v1:Value} (h:lu base w p vc v0 v1) (hS:∀ k,base≤k→k<w.heap.size→¬ S k):Held S w fun w'=>lu base w' p vc v0 v1:=
 fun w' hw=>⟨Eh h.1 hS w' hw,Eh h.2.1 hS w' hw,Eh h.2.2.1 hS w' hw,h.2.2.2⟩
theorem Box.held {S:Nat→Prop} {w w':World} {b:Nat} {cs:List Value} {t:TypeId} (h:Box w b cs t) (hf:Fr S w w') (hS:¬ S b):Box w' b cs t:=(hf.block b h.lt hS).trans h
structure lD where
 p:bg
 vc:Value
 v0:Value
 v1:Value
deriving Inhabited
def iD (l:List lD):List Value:=l.flatMap fun r=>[r.vc,r.v0,r.v1,.int .i64 r.p.turn,.int .i64 r.p.quiet]
theorem qG (r:lD) (t:List lD):iD (r :: t)=r.vc :: r.v0 :: r.v1 :: .int .i64 r.p.turn :: .int .i64 r.p.quiet :: iD t:=rfl
theorem Ei (l:List lD) (r:lD):iD l++[r.vc,r.v0,r.v1,.int .i64 r.p.turn,.int .i64 r.p.quiet]=iD (l++[r]):=by simp [iD]
theorem Jv (l:List lD) (k:Nat):(iD l).take (k * 5)=iD (l.take k):=by
 induction l generalizing k with
 | nil=>simp [iD]
 | cons m t ih =>
  cases k with
  | zero=>simp [iD]
  | succ k =>
   rw [List.take_succ_cons,qG,qG,← ih k,show (k+1) * 5=k * 5+1+1+1+1+1 by omega]
   simp only [List.take_succ_cons]
theorem Aj:∀ (l:List lD) (i:Nat) (h:i<l.length),(iD l)[i * 5]?=some (l.getD i default).vc∧(iD l)[i * 5+1]?=some (l.getD i default).v0∧(iD l)[i * 5+2]?=some (l.getD i default).v1 ∧
  (iD l)[i * 5+3]?=some (.int .i64 (l.getD i default).p.turn)∧(iD l)[i * 5+4]?=some (.int .i64 (l.getD i default).p.quiet)
 | r :: t,0,_=>by rw [qG]; simp
 | r :: t,i+1,h=>by
  obtain ⟨a,b,c,d,e⟩:=Aj t i (by simpa using h)
  rw [qG,show (i+1) * 5=i * 5+1+1+1+1+1 by omega,show i * 5+1+1+1+1+1+2=i * 5+2+1+1+1+1+1 by omega,show i * 5+1+1+1+1+1+3=i * 5+3+1+1+1+1+1 by omega,show i * 5+1+1+1+1+1+4=i * 5+4+1+1+1+1+1 by omega]
  simp only [List.getElem?_cons_succ,List.getD_cons_succ]
  exact ⟨a,b,c,d,e⟩
def vZ (R:aC) (ms:List aN):List bg:=(List.range (ms.length+1)).map fun k=>jQ R (aU R) (ms.take k)
def bn (R:aC) (ms:List aN):bg:=jQ R (aU R) ms
theorem wo (R:aC) (ms:List aN):(vZ R ms).length=ms.length+1:=by simp [vZ]
theorem GN (R:aC) (ms:List aN) (k:Nat) (h:k≤ms.length):(vZ R ms).getD k default=jQ R (aU R) (ms.take k):=by
 rw [List.getD_eq_getElem?_getD,List.getElem?_eq_getElem (by rw [wo]; omega)]
 simp [vZ]
theorem Nj (R:aC) (ms:List aN) (m:aN):vZ R (ms++[m])=vZ R ms++[bY R (bn R ms) m]:=by
 unfold vZ bn
 rw [List.length_append,List.length_singleton,List.range_succ,List.map_append]
 congr 1
 ·apply List.map_congr_left
  intro k hk
  rw [List.take_append_of_le_length (by simpa [Nat.lt_succ_iff] using hk)]
 ·rw [List.map_singleton,List.take_of_length_le (by simp),Ai]
theorem Nk (R:aC) (ms:List aN) (k:Nat) (h:k≤ms.length):(vZ R ms).take (k+1)=vZ R (ms.take k):=by
 unfold vZ
 rw [← List.map_take,List.take_range,List.length_take,Nat.min_eq_left (by omega),Nat.min_eq_left h]
 apply List.map_congr_left
 intro j hj
 rw [List.take_take,Nat.min_eq_left (by simp at hj; omega)]
theorem GR {R:aC} (h:aW R=0):nV R (aU R):=by
 have hr:=Eb h
 have hh:∀ c∈R.pieces.map (·.hand),0≤c∧c≤1000:=fun c hc=>by
  obtain ⟨x,hx,rfl⟩:=List.mem_map.1 hc
  obtain ⟨i,hi,rfl⟩:=List.mem_iff_getElem.1 hx
  have:=(hr.pc i hi).1
  rw [List.getD_eq_getElem?_getD,List.getElem?_eq_getElem hi] at this
  simp only [Option.getD_some] at this
  omega
 exact ⟨hr,hr.sl,by simp [aU],by simp [aU],hr.sc,hh,hh,.inl rfl,by simp [aU]⟩
def iI (R:aC) (ms:List aN):Nat:=((vZ R ms).filter fun p=>rQ p (bn R ms)).length
def fM (R:aC) (ms:List aN):Int:=if dJ R (bn R ms)=0∧R.bF≠0∧R.bF≤(iI R ms:Int) then 3 else dJ R (bn R ms)
def iV (R:aC) (ms:List aN) (m:aN):Int:=if fM R ms≠0 then 14 else if m∉iF R (bn R ms) then 13 else if ms.length=400 then 9 else 0
structure bP (S:Nat→Prop) (base:Nat) (w:World) (b:Nat) (R:aC) (ms:List aN) (vp vs ve vl vm:Value) (rows:List lD):Prop where
 box:Box w b [.string R.name,.int .i64 R.width,.int .i64 R.height,vp,vs,.bool R.falls,.bool R.keeps,ve,.int .i64 R.blocked,.int .i64 R.quiet,.int .i64 R.bF,vl,vm] 190
 sb:S b
 lo:∀ k,S k→base≤k∧k<w.heap.size
 rd:Held S w fun w'=>ru w' R vp vs ve
 ol:w.ownsRow base 78 5 vl (ms.length+1) (iD rows)
 mp:rows.map (·.p)=vZ R ms
 rw:∀ r∈rows,Held S w fun w'=>pX w' r.p r.vc r.v0 r.v1
 om:w.ownsRow base 52 3 vm ms.length (bJ ms)
 sl:∀ k,vl.ownBlock=some k→S k∧k≠b
 sm:∀ k,vm.ownBlock=some k→S k∧k≠b
 ap:vl.ownBlock=none∨vl.ownBlock≠vm.ownBlock
 lt:ms.length≤400
 la:iC R (aU R) ms
 re:aW R=0
theorem bP.below {S:Nat→Prop} {base:Nat} {w w':World} {b:Nat} {R:aC} {ms:List aN} {vp vs ve vl vm:Value} {rows:List lD} (h:bP S base w b R ms vp vs ve vl vm rows) (hb:Below w.heap.size w w'):bP S base w' b R ms vp vs ve vl vm rows:=
 ⟨h.box.stays hb,h.sb,fun k hk=>⟨(h.lo k hk).1,Nat.lt_of_lt_of_le (h.lo k hk).2 hb.size⟩,h.rd.step (Fr.jF (S:=S) hb) (dw.refl _ _),bK h.ol hb,h.mp,fun r hr=>(h.rw r hr).step (Fr.jF (S:=S) hb) (dw.refl _ _),bK h.om hb,h.sl,h.sm,h.ap,h.lt,h.la,h.re⟩
theorem bP.rlen {S:Nat→Prop} {base:Nat} {w:World} {b:Nat} {R:aC} {ms:List aN} {vp vs ve vl vm:Value} {rows:List lD} (h:bP S base w b R ms vp vs ve vl vm rows):rows.length=ms.length+1:=by
 rw [← wo R ms,← h.mp,List.length_map]
theorem bP.row {S:Nat→Prop} {base:Nat} {w:World} {b:Nat} {R:aC} {ms:List aN} {vp vs ve vl vm:Value} {rows:List lD} (h:bP S base w b R ms vp vs ve vl vm rows) (k:Nat) (hk:k≤ms.length) :
  (rows.getD k default).p=jQ R (aU R) (ms.take k)∧Held S w fun w'=>pX w' (jQ R (aU R) (ms.take k)) (rows.getD k default).vc (rows.getD k default).v0 (rows.getD k default).v1:=by
 have hl:=h.rlen
 have e:(rows.getD k default).p=jQ R (aU R) (ms.take k):=by
  rw [← GN R ms k hk,← h.mp,List.getD_eq_getElem?_getD,List.getD_eq_getElem?_getD,List.getElem?_eq_getElem (by omega),List.getElem?_eq_getElem (by simp; omega)]
  simp
 refine ⟨e,?_⟩
 rw [← e]
 refine h.rw _ ?_
 rw [List.getD_eq_getElem?_getD,List.getElem?_eq_getElem (by omega)]
 exact List.getElem_mem _
theorem bP.pok {S:Nat→Prop} {base:Nat} {w:World} {b:Nat} {R:aC} {ms:List aN} {vp vs ve vl vm:Value} {rows:List lD} (h:bP S base w b R ms vp vs ve vl vm rows) (k:Nat) (hk:k≤ms.length):nV R (jQ R (aU R) (ms.take k)):=GL (GR h.re) h.la k hk
theorem bP.Ub {S:Nat→Prop} {base:Nat} {w:World} {b:Nat} {R:aC} {ms:List aN} {vp vs ve vl vm:Value} {rows:List lD} (h:bP S base w b R ms vp vs ve vl vm rows):nV R (bn R ms):=by
 have:=h.pok ms.length (Nat.le_refl _)
 rwa [List.take_of_length_le (Nat.le_refl _)] at this
theorem bP.frame {S:Nat→Prop} {base:Nat} {w:World} {b:Nat} {R:aC} {ms:List aN} {vp vs ve vl vm:Value} {rows:List lD} (h:bP S base w b R ms vp vs ve vl vm rows) {w':World} (hf:Fr S w w') (hb:base≤w.heap.size):Below base w w':=hf.below (fun k hk=>(h.lo k hk).1) hb
end Go.Proofs.YtmabaojkignodaaGreatDoor
namespace Go.Proofs.YtmabaojkignodaaGreatDoor
open Go.ChangeShapes Go.WideShapes Go.ChangeAt Go.RowKit
set_option linter.unusedVariables false
set_option maxHeartbeats 4000000
set_option maxRecDepth 100000
open Go.Lib (hid)
def Ll (S:Nat→Prop) (R:aC) (ms:List aN) (w:World) (e:Ending) (w':World):Prop:=
 ∃ vc v0 v1,e=.returned (.agg #[vc,v0,v1,.int .i64 (bn R ms).turn,.int .i64 (bn R ms).quiet])∧(Held S w' fun w'=>pX w' (bn R ms) vc v0 v1)∧Below w.heap.size w w'
theorem wu {S:Nat→Prop} {base b:Nat} {R:aC} {ms:List aN} {vp vs ve vl vm:Value} {rows:List lD} (w:World) (h:bP S base w b R ms vp vs ve vl vm rows):Calls Tryz.prog 108 #[.pointer (some ⟨b,0,none⟩)] w (Ll S R ms w):=by
 obtain ⟨g,c,hv⟩:=iq h.ol (by omega)
 subst hv
 have hlt:=(h.ol.lt g rfl).2
 have hb:=h.box.lt
 have hrl:=h.rlen
 have hms:=h.lt
 obtain ⟨e0,e1⟩:=h.row ms.length (Nat.le_refl _)
 obtain ⟨c0,c1,c2,c3,c4⟩:=Aj rows ms.length (by omega)
 rw [e0] at c3 c4
 have q0:=(h.ol.cellAt (ms.length * 5) (by omega)).trans c0
 have q1:=(h.ol.cellAt (ms.length * 5+1) (by omega)).trans c1
 have q2:=(h.ol.cellAt (ms.length * 5+2) (by omega)).trans c2
 have q3:=(h.ol.cellAt (ms.length * 5+3) (by omega)).trans c3
 have q4:=(h.ol.cellAt (ms.length * 5+4) (by omega)).trans c4
 have hbx:=h.box.cell 11 rfl
 have eN:jQ R (aU R) (ms.take ms.length)=bn R ms:=by rw [List.take_of_length_le (Nat.le_refl _)]; rfl
 rw [eN] at e1 q3 q4
 generalize hN:bn R ms=N at *
 have HNN:=hid hN
 obtain ⟨xa,xn,f0,-,-⟩:=e1.now.1.form
 obtain ⟨xa0,uF,f1,-,-⟩:=e1.now.2.1.form
 obtain ⟨xa1,uG,f2,-,-⟩:=e1.now.2.2.form
 rw [f0] at e1 q0
 rw [f1] at e1 q1
 rw [f2] at e1 q2
 obtain ⟨n,hn⟩:∃ n,n=ms.length:=⟨_,rfl⟩
 rw [← hn] at q0 q1 q2 q3 q4 hbx hms
 have hD:=e1
 clear e0 c0 c1 c2 c3 c4 h hrl eN f0 f1 f2 hn e1 hN
 have hw1:IntKind.i64.wrap ((n:Int)+1 - 1)=(n:Int):=by rw [Int.add_sub_cancel]; exact IntWalk.i64_in _ (by omega)
 have hw2:IntKind.i64.wrap (n:Int)=(n:Int):=IntWalk.i64_in _ (by omega)
 have ai8:(n:Int)<(n:Int)+1:=by omega
 have hcast:((n+1:Nat):Int)=(n:Int)+1:=by omega
 go_enter Tryz.func108,Tryz.ntmps108
 go_upto_region 1 with (fail)
 have HK:=hid (And.intro (eX hbx (.cells #[.slice none 0 0,.slice none 0 0,.slice none 0 0,.int .i64 0,.int .i64 0] 78)) (And.intro (eX q0 (.cells #[.slice none 0 0,.slice none 0 0,.slice none 0 0,.int .i64 0,.int .i64 0] 78)) (And.intro (eX q1 (.cells #[.slice none 0 0,.slice none 0 0,.slice none 0 0,.int .i64 0,.int .i64 0] 78)) (And.intro (eX q2 (.cells #[.slice none 0 0,.slice none 0 0,.slice none 0 0,.int .i64 0,.int .i64 0] 78)) (And.intro (eX q3 (.cells #[.slice none 0 0,.slice none 0 0,.slice none 0 0,.int .i64 0,.int .i64 0] 78)) (eX q4 (.cells #[.slice none 0 0,.slice none 0 0,.slice none 0 0,.int .i64 0,.int .i64 0] 78)))))))
 have fH:=hid (Box.new w [.slice none 0 0,.slice none 0 0,.slice none 0 0,.int .i64 0,.int .i64 0] 78)
 have HLn:=hid ((Below.refl w.heap.size w).alloc (Nat.le_refl _) (.cells #[.slice none 0 0,.slice none 0 0,.slice none 0 0,.int .i64 0,.int .i64 0] 78))
 have HD:=hid hD
 clear hbx q0 q1 q2 q3 q4 hD
 generalize (w.alloc (.cells #[.slice none 0 0,.slice none 0 0,.slice none 0 0,.int .i64 0,.int .i64 0] 78))=wq at *
 have By:Box wq w.heap.size [.slice none 0 0,.slice none 0 0,.slice none 0 0,.int .i64 0,.int .i64 0] 78:=fH.out
 have Bz:=fH.out.drew
 have Lz:Below w.heap.size w wq.drew:=aA HLn.out
 obtain ⟨kb,k0,k1,k2,k3,k4⟩:wq.drew.cell? ⟨b,11,none⟩=_∧wq.drew.cell? ⟨g,n * 5,none⟩=_∧wq.drew.cell? ⟨g,n * 5+1,none⟩=_∧wq.drew.cell? ⟨g,n * 5+2,none⟩=_∧wq.drew.cell? ⟨g,n * 5+3,none⟩=_∧wq.drew.cell? ⟨g,n * 5+4,none⟩=_:=HK.out
 clear HK fH HLn
 refine wp_region_noPanic ?_
 refine bG (S:=(fun w'=>w'.cell? ⟨b,11,none⟩=some (.slice (some ⟨g,0,none⟩) (n+1) c)∧w'.cell? ⟨g,n * 5,none⟩=some (.slice xa N.cells.length xn)∧w'.cell? ⟨g,n * 5+1,none⟩=some (.slice xa0 N.h0.length uF)∧w'.cell? ⟨g,n * 5+2,none⟩=some (.slice xa1 N.h1.length uG)∧w'.cell? ⟨g,n * 5+3,none⟩=some (.int .i64 N.turn)∧w'.cell? ⟨g,n * 5+4,none⟩=some (.int .i64 N.quiet))) (L:=[12]) (by kernel_rfl) ⟨kb,k0,k1,k2,k3,k4⟩ (fun hHeld=>?_)
 refine aF 0 ?_
 refine aF 4 ?_
 refine aF 1 ?_
 refine aF 5 ?_
 refine aF 2 ?_
 refine aF 6 ?_
 refine dL 3 ?_
 refine dL 7 ?_
 refine aF 8 ?_
 refine aF 9 ?_
 refine aF 10 ?_
 refine dL 11 ?_
 refine xE 12 fun K hK=>?_
 have z0:=By.cell 0 rfl
 have z1:=By.cell 1 rfl
 have z2:=By.cell 2 rfl
 have z3:=By.cell 3 rfl
 have z4:=By.cell 4 rfl
 have zf0:=By.frozen 0
 have zf1:=By.frozen 1
 have zf2:=By.frozen 2
 have zf3:=By.frozen 3
 have zf4:=By.frozen 4
 go_simp
 refine aK ?_
 intro w9 e9
 have E9:w9=wq.drew.setCells w.heap.size 0 [.slice xa N.cells.length xn,.slice xa0 N.h0.length uF,.slice xa1 N.h1.length uG,.int .i64 N.turn,.int .i64 N.quiet]:=e9
 clear e9 z0 zf0 z1 zf1 z2 zf2 z3 zf3 z4 zf4
 refine hK.out _ _ ?_
 clear hK K
 refine iE ?_
 have B9:=Bz.store (vs:=[.slice xa N.cells.length xn,.slice xa0 N.h0.length uF,.slice xa1 N.h1.length uG,.int .i64 N.turn,.int .i64 N.quiet]) rfl
 have L9:=below_setCells Lz (Nat.le_refl w.heap.size) 0 [.slice xa N.cells.length xn,.slice xa0 N.h0.length uF,.slice xa1 N.h1.length uG,.int .i64 N.turn,.int .i64 N.quiet]
 rw [← E9] at B9 L9
 have bI:=hid B9
 have yE:=hid L9
 clear B9 L9 E9 Bz Lz By hHeld
 go_wp2_with fail
 exact bodyPost_ret (dR rfl (by rfl) bI.out Tryz.underlying78 (by rfl) (by kernel_rfl)) rfl (by unfold Ll; rw [HNN.out]; exact ⟨_,_,_,rfl,HD.out.step (Fr.jF (S:=S) yE.out) (dw.refl _ _),yE.out⟩)
def ji {α:Type} (el:El α) (t:TypeId) (xs:List α) (w:World) (e:Ending) (w':World):Prop:=
 ∃ (v:Value) (vs:List Value),e=.returned v∧w'.ownsRow w.heap.size t el.k v xs.length vs∧(∀ i (h:i<xs.length),el.E w' xs[i] ((vs.drop (i * el.k)).take el.k))∧Below w.heap.size w w'
theorem ji.rd {α:Type} {el:El α} {t:TypeId} {w:World} {v:Value} {xs:List α} {vs:List Value} {b:Nat} (h:w.ownsRow b t el.k v xs.length vs) (hE:∀ i (h:i<xs.length),el.E w xs[i] ((vs.drop (i * el.k)).take el.k)):gI el w v xs:=gI.fD h hE
theorem jC {P:Program} {e:TypeId} {z:Value} {k b:Nat} (h:(P.info? e).map (fun i=>(i.zero,i.size,i.bytes))=some (some z,k,b)):∃ i,P.info? e=some i∧i.zero=some z∧i.size=k∧i.bytes=b:=by
 cases hh:P.info? e with
 | none=>rw [hh] at h; cases h
 | some i =>
  rw [hh] at h
  simp only [Option.map_some,Option.some.injEq,Prod.mk.injEq] at h
  exact ⟨i,rfl,h.1,h.2.1,h.2.2⟩
theorem Ak {k:Nat}:∀ (css:List (List Value)),(∀ cs∈css,cs.length=k)→css.flatten.length=css.length * k∧∀ i (h:i<css.length),(css.flatten.drop (i * k)).take k=css[i]
 | [],_=>⟨by simp,fun i h=>by cases h⟩
 | cs :: t,hall=>by
  have hc:=hall cs (by simp)
  obtain ⟨h1,h2⟩:=Ak t (fun c h=>hall c (by simp [h]))
  refine ⟨by rw [List.flatten_cons,List.length_append,h1,hc,List.length_cons,Nat.add_mul,Nat.one_mul,Nat.add_comm],fun i hi=>?_⟩
  cases i with
  | zero=>simp [hc]
  | succ i =>
   have:=h2 i (by simpa using hi)
   rw [List.flatten_cons,Nat.add_mul,Nat.one_mul,Nat.add_comm,← hc,← List.drop_drop,List.drop_left,hc,this]
   rfl
theorem mX {α:Type} {el:El α} (h1:∀ (w:World) (x:α) (cs:List Value),el.E w x cs→∀ u∈cs,u.oneCell'=true) {w:World} {v:Value} {xs:List α} (h:gI el w v xs) :
  ∃ (a:Option Addr) (n c:Nat) (vs:List Value),v=.slice a n c∧n=xs.length∧vs.length=n * el.k∧(∀ u∈vs,u.oneCell'=true)∧(∀ i (h:i<xs.length),el.E w xs[i] ((vs.drop (i * el.k)).take el.k)) ∧
   ((a=none→n=0)∧∀ ad,a=some ad→∀ j u,vs[j]?=some u→w.cell? (ad.add j)=some u):=by
 rcases h with ⟨a,c,rfl,_,hz⟩ | ⟨g,o,c,rfl,h2,h3,h4,h5⟩
 ·exact ⟨a,0,c,[],rfl,hz.symm,by simp,by simp,fun i hi=>by omega,fun _=>rfl,fun ad _ j u hu=>by simp at hu⟩
 ·have hch:∀ i:Fin xs.length,∃ cs,el.E w xs[i] cs∧∀ j,j<el.k→w.cell? ⟨g,o+i * el.k+j,none⟩=cs[j]?:=fun i=>h5 i i.2
  let css:=List.ofFn fun i=>Classical.choose (hch i)
  have hlen:css.length=xs.length:=by simp [css]
  have hsp:∀ i (hi:i<css.length),el.E w xs[i] css[i]∧∀ j,j<el.k→w.cell? ⟨g,o+i * el.k+j,none⟩=css[i][j]?:=fun i hi=>by
   have:=Classical.choose_spec (hch ⟨i,by omega⟩)
   simpa [css] using this
  have hk:∀ cs∈css,cs.length=el.k:=fun cs hcs=>by
   obtain ⟨i,hi,rfl⟩:=List.mem_iff_getElem.1 hcs
   exact el.len (hsp i hi).1
  obtain ⟨f1,f2⟩:=Ak css hk
  refine ⟨_,xs.length,c,css.flatten,rfl,rfl,by rw [f1,hlen],fun u hu=>?_,fun i hi=>by rw [f2 i (by omega)]; exact (hsp i (by omega)).1,(fun e=>by cases e),fun ad had j u hu=>?_⟩
  ·obtain ⟨cs,hcs,hu⟩:=List.mem_flatten.1 hu
   obtain ⟨i,hi,rfl⟩:=List.mem_iff_getElem.1 hcs
   exact h1 w _ _ (hsp i hi).1 u hu
  ·simp only [Option.some.injEq] at had
   subst had
   have hj:=(List.getElem?_eq_some_iff.1 hu).1
   rw [f1] at hj
   have hk0:0<el.k:=by
    rcases Nat.eq_zero_or_pos el.k with e | e
    ·rw [e] at hj; omega
    ·exact e
   have hi:j / el.k<css.length:=Nat.div_lt_of_lt_mul (by rw [Nat.mul_comm]; exact hj)
   have hm:j % el.k<el.k:=Nat.mod_lt _ hk0
   have e:=(hsp (j / el.k) hi).2 (j % el.k) hm
   have e2:o+j / el.k * el.k+j % el.k=o+j:=by have:=Nat.div_add_mod j el.k; rw [Nat.mul_comm] at this; omega
   rw [e2] at e
   have e3:(⟨g,o,none⟩:Addr).add j=⟨g,o+j,none⟩:=by unfold Addr.add; split <;> simp_all
   rw [e3,e,← hu]
   rw [← f2 _ hi,List.getElem?_take_of_lt hm,List.getElem?_drop]
   congr 1
   have:=Nat.div_add_mod j el.k
   rw [Nat.mul_comm] at this
   exact this
theorem Qm:(Tryz.prog.info? 194).map (fun i=>(i.zero,i.size,i.bytes))=some (some (.agg #[.int .i64 0,.int .i64 0,.int .i64 0,.int .i64 0]),4,32):=by kernel_rfl
theorem Nl {α:Type} (el:El α) (hk:el.k=4) (h1:∀ (w:World) (x:α) (cs:List Value),el.E w x cs→∀ u∈cs,u.oneCell'=true) (v:Value) (xs:List α) (w:World) (h:gI el w v xs) (hl:xs.length≤1000000) :
  Calls Tryz.prog 86 #[v] w (ji el 194 xs w):=by
 obtain ⟨i0,hi,hz0,hz1,hz2⟩:=jC Qm
 have hq:=fun (w:World) (a:Option Addr) (n c:Nat)=>Lib.run_eql_slice_nil (P:=Tryz.prog) w 143 194 a n c 0 0 Tryz.underlying143
 have hown0:(w.alloc (.cells #[] 194)).ownsRow w.heap.size 194 4 (.slice (some ⟨w.heap.size,0,none⟩) 0 0) 0 []:=World.ownsRow_made w #[] 0 (Nat.le_refl _) (by unfold maxLen; omega) rfl
 obtain ⟨a,n,c,vs,rfl,hn,hvl,hone,hE,hcell⟩:=mX h1 h
 rw [hk] at hvl
 have HR:=hid hE
 cases a with
 | none =>
  have hn0:n=0:=hcell.1 rfl
  subst hn0
  obtain rfl:xs=[]:=List.length_eq_zero_iff.1 hn.symm
  clear h hl hE hcell hown0 hn hvl hone HR hi hz0 hz1 hz2
  go_enter Tryz.func86,Tryz.ntmps86
  go_wp2
  go_ret
  exact ⟨_,[],rfl,World.ownsRow_nil _ _ _ _,(fun i hi=>by cases hi),Below.refl _ _⟩
 | some ad =>
  have hnews:∀ j u,vs[j]?=some u→(w.alloc (.cells #[] 194)).cell? (ad.add j)=some u:=fun j u hu=>by
   have hc:=hcell.2 ad rfl j u hu
   rw [World.cell?_of_block (w:=w) (a:=ad.add j) (Below.heap_alloc w _ _ (World.block_lt_of_cell? w _ hc))]
   exact hc
  have oM:=hid hown0
  have oN:=hid hnews
  have ML:=hid hvl
  have Ej:=hid hone
  have hnl:n≤1000000:=by omega
  have HN:=hid hn
  clear hown0 hnews hcell h hE hvl hone hl hn
  go_enter Tryz.func86,Tryz.ntmps86
  go_wp2_with (at_builtin; refine wpList_append_own _ rfl _ _ 143 rfl w.heap.size 194 i0 (.agg #[.int .i64 0,.int .i64 0,.int .i64 0,.int .i64 0]) 4 32 Tryz.underlying143 hi hz0 hz1 hz2 rfl (by decide) _ 0 [] rfl oM.out ad n c vs rfl ML.out oN.out Ej.out ?c3 ?c4 ?c5 ?_)
  case c3=>unfold maxLen; omega
  case c4=>omega
  case c5=>simp
  intro v' w2 hown' hgrow _
  try simp only [Nat.zero_add,List.nil_append] at hown'
  have hb:Below w.heap.size w w2:=Below.grown ((Below.refl _ w).alloc (Nat.le_refl _) _) hgrow (by simp) (fun q hq=>by simp [Value.ownBlock] at hq; omega)
  have HO:=hid hown'
  have HB:=hid hb
  clear hown' hgrow hb
  go_wp2
  go_ret
  exact ⟨v',vs,rfl,by rw [← HN.out,hk]; exact HO.out,fun i hi=>el.mono (HR.out i hi) HB.out (Nat.le_refl _),HB.out⟩
theorem Qn:(Tryz.prog.info? 147).map (fun i=>(i.zero,i.size,i.bytes))=some (some (.agg #[.int .i64 0,.int .i64 0,.int .i64 0,.bool false]),4,32):=by kernel_rfl
theorem Np {α:Type} (el:El α) (hk:el.k=4) (h1:∀ (w:World) (x:α) (cs:List Value),el.E w x cs→∀ u∈cs,u.oneCell'=true) (v:Value) (xs:List α) (w:World) (h:gI el w v xs) (hl:xs.length≤1000000) :
  Calls Tryz.prog 87 #[v] w (ji el 147 xs w):=by
 obtain ⟨i0,hi,hz0,hz1,hz2⟩:=jC Qn
 have hq:=fun (w:World) (a:Option Addr) (n c:Nat)=>Lib.run_eql_slice_nil (P:=Tryz.prog) w 44 147 a n c 0 0 Tryz.underlying44
 have hown0:(w.alloc (.cells #[] 147)).ownsRow w.heap.size 147 4 (.slice (some ⟨w.heap.size,0,none⟩) 0 0) 0 []:=World.ownsRow_made w #[] 0 (Nat.le_refl _) (by unfold maxLen; omega) rfl
 obtain ⟨a,n,c,vs,rfl,hn,hvl,hone,hE,hcell⟩:=mX h1 h
 rw [hk] at hvl
 have HR:=hid hE
 cases a with
 | none =>
  have hn0:n=0:=hcell.1 rfl
  subst hn0
  obtain rfl:xs=[]:=List.length_eq_zero_iff.1 hn.symm
  clear h hl hE hcell hown0 hn hvl hone HR hi hz0 hz1 hz2
  go_enter Tryz.func87,Tryz.ntmps87
  go_wp2
  go_ret
  exact ⟨_,[],rfl,World.ownsRow_nil _ _ _ _,(fun i hi=>by cases hi),Below.refl _ _⟩
 | some ad =>
  have hnews:∀ j u,vs[j]?=some u→(w.alloc (.cells #[] 147)).cell? (ad.add j)=some u:=fun j u hu=>by
   have hc:=hcell.2 ad rfl j u hu
   rw [World.cell?_of_block (w:=w) (a:=ad.add j) (Below.heap_alloc w _ _ (World.block_lt_of_cell? w _ hc))]
   exact hc
  have oM:=hid hown0
  have oN:=hid hnews
  have ML:=hid hvl
  have Ej:=hid hone
  have hnl:n≤1000000:=by omega
  have HN:=hid hn
  clear hown0 hnews hcell h hE hvl hone hl hn
  go_enter Tryz.func87,Tryz.ntmps87
  go_wp2_with (at_builtin; refine wpList_append_own _ rfl _ _ 44 rfl w.heap.size 147 i0 (.agg #[.int .i64 0,.int .i64 0,.int .i64 0,.bool false]) 4 32 Tryz.underlying44 hi hz0 hz1 hz2 rfl (by decide) _ 0 [] rfl oM.out ad n c vs rfl ML.out oN.out Ej.out ?c3 ?c4 ?c5 ?_)
  case c3=>unfold maxLen; omega
  case c4=>omega
  case c5=>simp
  intro v' w2 hown' hgrow _
  try simp only [Nat.zero_add,List.nil_append] at hown'
  have hb:Below w.heap.size w w2:=Below.grown ((Below.refl _ w).alloc (Nat.le_refl _) _) hgrow (by simp) (fun q hq=>by simp [Value.ownBlock] at hq; omega)
  have HO:=hid hown'
  have HB:=hid hb
  clear hown' hgrow hb
  go_wp2
  go_ret
  exact ⟨v',vs,rfl,by rw [← HN.out,hk]; exact HO.out,fun i hi=>el.mono (HR.out i hi) HB.out (Nat.le_refl _),HB.out⟩
theorem UR:(Tryz.prog.info? 52).map (fun i=>(i.zero,i.size,i.bytes))=some (some (.agg #[.int .i64 0,.int .i64 0,.int .i64 0]),3,24):=by kernel_rfl
theorem Qo {α:Type} (el:El α) (hk:el.k=3) (h1:∀ (w:World) (x:α) (cs:List Value),el.E w x cs→∀ u∈cs,u.oneCell'=true) (v:Value) (xs:List α) (w:World) (h:gI el w v xs) (hl:xs.length≤1000000) :
  Calls Tryz.prog 106 #[v] w (ji el 52 xs w):=by
 obtain ⟨i0,hi,hz0,hz1,hz2⟩:=jC UR
 have hq:=fun (w:World) (a:Option Addr) (n c:Nat)=>Lib.run_eql_slice_nil (P:=Tryz.prog) w 64 52 a n c 0 0 Tryz.underlying64
 have hown0:(w.alloc (.cells #[] 52)).ownsRow w.heap.size 52 3 (.slice (some ⟨w.heap.size,0,none⟩) 0 0) 0 []:=World.ownsRow_made w #[] 0 (Nat.le_refl _) (by unfold maxLen; omega) rfl
 obtain ⟨a,n,c,vs,rfl,hn,hvl,hone,hE,hcell⟩:=mX h1 h
 rw [hk] at hvl
 have HR:=hid hE
 cases a with
 | none =>
  have hn0:n=0:=hcell.1 rfl
  subst hn0
  obtain rfl:xs=[]:=List.length_eq_zero_iff.1 hn.symm
  clear h hl hE hcell hown0 hn hvl hone HR hi hz0 hz1 hz2
  go_enter Tryz.func106,Tryz.ntmps106
  go_wp2
  go_ret
  exact ⟨_,[],rfl,World.ownsRow_nil _ _ _ _,(fun i hi=>by cases hi),Below.refl _ _⟩
 | some ad =>
  have hnews:∀ j u,vs[j]?=some u→(w.alloc (.cells #[] 52)).cell? (ad.add j)=some u:=fun j u hu=>by
   have hc:=hcell.2 ad rfl j u hu
   rw [World.cell?_of_block (w:=w) (a:=ad.add j) (Below.heap_alloc w _ _ (World.block_lt_of_cell? w _ hc))]
   exact hc
  have oM:=hid hown0
  have oN:=hid hnews
  have ML:=hid hvl
  have Ej:=hid hone
  have hnl:n≤1000000:=by omega
  have HN:=hid hn
  clear hown0 hnews hcell h hE hvl hone hl hn
  go_enter Tryz.func106,Tryz.ntmps106
  go_wp2_with (at_builtin; refine wpList_append_own _ rfl _ _ 64 rfl w.heap.size 52 i0 (.agg #[.int .i64 0,.int .i64 0,.int .i64 0]) 3 24 Tryz.underlying64 hi hz0 hz1 hz2 rfl (by decide) _ 0 [] rfl oM.out ad n c vs rfl ML.out oN.out Ej.out ?c3 ?c4 ?c5 ?_)
  case c3=>unfold maxLen; omega
  case c4=>omega
  case c5=>simp
  intro v' w2 hown' hgrow _
  try simp only [Nat.zero_add,List.nil_append] at hown'
  have hb:Below w.heap.size w w2:=Below.grown ((Below.refl _ w).alloc (Nat.le_refl _) _) hgrow (by simp) (fun q hq=>by simp [Value.ownBlock] at hq; omega)
  have HO:=hid hown'
  have HB:=hid hb
  clear hown' hgrow hb
  go_wp2
  go_ret
  exact ⟨v',vs,rfl,by rw [← HN.out,hk]; exact HO.out,fun i hi=>el.mono (HR.out i hi) HB.out (Nat.le_refl _),HB.out⟩
theorem Qp (w:World) (x:aN) (cs:List Value) (h:ni.E w x cs):∀ u∈cs,u.oneCell'=true:=by
 simp only [ni] at h
 subst h
 intro u hu
 simp at hu
 rcases hu with rfl | rfl | rfl <;> rfl
theorem Jw (m:aN) (t:List aN):bJ (m :: t)=.int .i64 m.src :: .int .i64 m.dst :: .int .i64 m.piece :: bJ t:=rfl
theorem GU {w:World}:∀ (xs:List aN) (vs:List Value),vs.length=xs.length * 3→(∀ i (h:i<xs.length),ni.E w xs[i] ((vs.drop (i * 3)).take 3))→vs=bJ xs
 | [],vs,hl,_=>by
  have:vs.length=0:=by simpa using hl
  rw [List.length_eq_zero_iff.1 this]; rfl
 | x :: t,vs,hl,h=>by
  have h0:vs.take 3=[.int .i64 x.src,.int .i64 x.dst,.int .i64 x.piece]:=h 0 (by simp)
  have ih:=GU (w:=w) t (vs.drop 3) (by simp at hl ⊢; omega) (fun i hi=>by
   have:=h (i+1) (by simpa using hi)
   rw [show (i+1) * 3=3+i * 3 by omega] at this
   rw [List.drop_drop]
   exact this)
  rw [Jw,← ih,← List.take_append_drop 3 vs,h0]
  simp
theorem Qq (v:Value) (xs:List aN) (w:World) (h:gI ni w v xs) (hl:xs.length≤1000000) :
  Calls Tryz.prog 106 #[v] w fun e w'=>∃ v',e=.returned v'∧w'.ownsRow w.heap.size 52 3 v' xs.length (bJ xs)∧Below w.heap.size w w':=by
 refine (Qo ni rfl Qp v xs w h hl).mono ?_
 rintro e w' ⟨v',vs,rfl,ho,hE,hb⟩
 have e1:=GU xs vs ho.1 hE
 subst e1
 exact ⟨v',rfl,ho,hb⟩
theorem Nq {R:aC} {p:bg} (K:nV R p):p.cells.length≤1000∧p.h0.length≤1000∧p.h1.length≤1000:=by
 have:=K.len; have:=K.l0; have:=K.l1; have:=K.r.np; omega
theorem iG {S:Nat→Prop} {base b:Nat} {R:aC} {ms:List aN} {vp vs ve vl vm:Value} {rows:List lD} (w:World) (h:bP S base w b R ms vp vs ve vl vm rows):Calls Tryz.prog 61 #[.pointer (some ⟨b,0,none⟩)] w fun e w'=>∃ vc v0 v1,e=.returned (.agg #[vc,v0,v1,.int .i64 (bn R ms).turn,.int .i64 (bn R ms).quiet])∧lu w.heap.size w' (bn R ms) vc v0 v1∧Below w.heap.size w w':=by
 have hsm:=Nq h.Ub
 have Uc:=hid (h.below ((Below.refl _ w).alloc (Nat.le_refl _) (.cells #[.slice none 0 0,.slice none 0 0,.slice none 0 0,.int .i64 0,.int .i64 0] 78)))
 have fH:=hid (Box.new w [.slice none 0 0,.slice none 0 0,.slice none 0 0,.int .i64 0,.int .i64 0] 78)
 have HLn:=hid ((Below.refl w.heap.size w).alloc (Nat.le_refl _) (.cells #[.slice none 0 0,.slice none 0 0,.slice none 0 0,.int .i64 0,.int .i64 0] 78))
 clear h
 go_enter Tryz.func61,Tryz.ntmps61
 go_upto_region 1 with (fail)
 generalize (w.alloc (.cells #[.slice none 0 0,.slice none 0 0,.slice none 0 0,.int .i64 0,.int .i64 0] 78))=w0 at *
 go_wp2_with fail
 refine (wu w0 Uc.out).mono ?_
 rintro e w1 ⟨nc,n0,n1,rfl,hn1,hb1⟩
 have HN1:=hid hn1.now
 have HB1:=hid (fH.out.stays hb1)
 have FH:=hid (aj HLn.out hb1 HLn.out.size)
 clear hn1 hb1
 go_wp2_with fail
 refine (Gt (bn R ms) nc n0 n1 w1 HN1.out (by omega) (by omega) (by omega)).mono ?_
 rintro e w2 ⟨c,c0,c1,rfl,ho2,hb2⟩
 obtain ⟨pa,pn,rfl⟩:=aI ho2.1
 obtain ⟨pa0,pn0,rfl⟩:=aI ho2.2.1
 obtain ⟨Ud,Ue,rfl⟩:=aI ho2.2.2.1
 have HB2:=hid (HB1.out.stays hb2)
 have HL2:=hid (aj FH.out hb2 FH.out.size)
 have hz:=HB1.out.lt
 have uw:=hid ho2
 clear hb2 ho2
 unfold xB
 go_wp2_with (refine aT (vs:=[.slice pa (bn R ms).cells.length pn,.slice pa0 (bn R ms).h0.length pn0,.slice Ud (bn R ms).h1.length Ue,.int .i64 (bn R ms).turn,.int .i64 (bn R ms).quiet]) (by rfl) 78 (.tmp 2) (.tmp 5) (by rfl) (w.heap.size) (by rfl) (by rfl) HB2.out rfl (by kernel_rfl) (by rfl) ?_)
 exact bodyPost_ret (dR rfl (by rfl) (HB2.out.store rfl) Tryz.underlying78 (by rfl) (by kernel_rfl)) rfl ⟨_,_,_,rfl,(uw.out.setCells hz 0 _).base (by have:=FH.out.size; omega),below_setCells HL2.out (Nat.le_refl _) 0 _⟩
theorem tC {S:Nat→Prop} {base b:Nat} {R:aC} {ms:List aN} {vp vs ve vl vm:Value} {rows:List lD} (w:World) (h:bP S base w b R ms vp vs ve vl vm rows):Calls Tryz.prog 58 #[.pointer (some ⟨b,0,none⟩)] w fun e w'=>∃ v,e=.returned v∧w'.ownsRow w.heap.size 52 3 v ms.length (bJ ms)∧Below w.heap.size w w':=by
 have HC:=hid (Qq vm ms w (kQ h.om) (by have:=h.lt; omega))
 have hc:=h.box.cell 12 rfl
 have hlt:=h.box.lt
 clear h
 go_enter Tryz.func58,Tryz.ntmps58
 go_wp2_with fail
 refine HC.out.mono ?_
 rintro e w1 ⟨v,rfl,ho,hb⟩
 obtain ⟨x,y,rfl⟩:=aI ho
 have HO:=hid ho
 have HB:=hid hb
 clear ho hb
 go_wp2_with fail
 go_ret
 exact ⟨_,rfl,HO.out,HB.out⟩
def GV (R:aC) (ms:List aN) (k:Nat):Nat:=(((vZ R ms).take k).filter fun p=>rQ p (bn R ms)).length
theorem Jy (R:aC) (ms:List aN) (k:Nat) (h:k≤ms.length):GV R ms (k+1)=GV R ms k+if rQ (jQ R (aU R) (ms.take k)) (bn R ms)=true then 1 else 0:=by
 unfold GV
 have hl:=wo R ms
 rw [List.take_succ_eq_append_getElem (by omega),List.filter_append,List.length_append]
 have e:=GN R ms k h
 rw [List.getD_eq_getElem?_getD,List.getElem?_eq_getElem (by omega)] at e
 simp only [Option.getD_some] at e
 rw [e]
 congr 1
 by_cases hs:rQ (jQ R (aU R) (ms.take k)) (bn R ms)=true <;> simp [hs]
theorem count_any {S:Nat→Prop} {base b:Nat} {R:aC} {ms:List aN} {vp vs ve vl vm:Value} {rows:List lD} (w:World) (h:bP S base w b R ms vp vs ve vl vm rows):Calls Tryz.prog 132 #[.pointer (some ⟨b,0,none⟩)] w fun e w'=>e=.returned (.int .i64 (iI R ms))∧Below w.heap.size w w':=by
 have hms:=h.lt
 obtain ⟨g,c,hv⟩:=iq h.ol (by omega)
 subst hv
 have HG:=hid h
 have hc:=h.box.cell 11 rfl
 have hlt:=h.box.lt
 clear h
 have hcast:((ms.length+1:Nat):Int)=(ms.length:Int)+1:=by omega
 go_enter Tryz.func132,Tryz.ntmps132
 go_wp2_with fail
 clear hc hlt
 go_loopw [11,3,5] (fun vi vn vp' wr=>∃ (k cnt:Nat),k≤ms.length+1∧cnt≤k∧vi=.int .i64 k∧vn=.int .i64 cnt∧Hid (GV R ms k=cnt)∧Hid (bP S base wr b R ms vp vs ve (.slice (some ⟨g,0,none⟩) (ms.length+1) c) vm rows)∧Hid (Below w.heap.size w wr)) (fun i _ _ _=>ms.length+1 - (intOf i).toNat)
 case atStart=>exact ⟨0,0,Nat.zero_le _,Nat.zero_le _,rfl,rfl,hid rfl,HG,hid (Below.refl _ _)⟩
 case round =>
  obtain ⟨k,cnt,hk,hcn,rfl,rfl,HCn,UU,bC⟩:=hrel
  have hkI:(k:Int)≤(ms.length:Int)+1:=by omega
  by_cases hlt:k<ms.length+1
  ·have ajf:(k:Int)<(ms.length:Int)+1:=by omega
   have hgl:=(UU.out.ol.lt g rfl).2
   obtain ⟨e0,e1⟩:=UU.out.row k (by omega)
   obtain ⟨c0,c1,c2,c3,c4⟩:=Aj rows k (by have:=UU.out.rlen; omega)
   rw [e0] at c3 c4
   have q0:=(UU.out.ol.cellAt (k * 5) (by omega)).trans c0
   have q1:=(UU.out.ol.cellAt (k * 5+1) (by omega)).trans c1
   have q2:=(UU.out.ol.cellAt (k * 5+2) (by omega)).trans c2
   have q3:=(UU.out.ol.cellAt (k * 5+3) (by omega)).trans c3
   have q4:=(UU.out.ol.cellAt (k * 5+4) (by omega)).trans c4
   have Uf:=hid (Jy R ms k (by omega))
   generalize jQ R (aU R) (ms.take k)=Pk at *
   obtain ⟨xa,xn,f0,-,-⟩:=e1.now.1.form
   obtain ⟨xa0,uF,f1,-,-⟩:=e1.now.2.1.form
   obtain ⟨xa1,uG,f2,-,-⟩:=e1.now.2.2.form
   rw [f0] at e1 q0
   rw [f1] at e1 q1
   rw [f2] at e1 q2
   have HP:=hid e1.now
   clear e0 c0 c1 c2 c3 c4 f0 f1 f2 e1
   go_upto_region 5 with (fail)
   have hBn:Box (wr.alloc (.cells #[.slice xa Pk.cells.length xn,.slice xa0 Pk.h0.length uF,.slice xa1 Pk.h1.length uG,.int .i64 Pk.turn,.int .i64 Pk.quiet] 78)) wr.heap.size [.slice xa Pk.cells.length xn,.slice xa0 Pk.h0.length uF,.slice xa1 Pk.h1.length uG,.int .i64 Pk.turn,.int .i64 Pk.quiet] 78:=Box.new wr _ _
   have hLn:=bC.out.alloc bC.out.size (.cells #[.slice xa Pk.cells.length xn,.slice xa0 Pk.h0.length uF,.slice xa1 Pk.h1.length uG,.int .i64 Pk.turn,.int .i64 Pk.quiet] 78)
   have hGn:=UU.out.below ((Below.refl _ wr).alloc (Nat.le_refl _) (.cells #[.slice xa Pk.cells.length xn,.slice xa0 Pk.h0.length uF,.slice xa1 Pk.h1.length uG,.int .i64 Pk.turn,.int .i64 Pk.quiet] 78))
   have hPn:=HP.out.below ((Below.refl _ wr).alloc (Nat.le_refl _) (.cells #[.slice xa Pk.cells.length xn,.slice xa0 Pk.h0.length uF,.slice xa1 Pk.h1.length uG,.int .i64 Pk.turn,.int .i64 Pk.quiet] 78)) (Nat.le_refl _)
   clear q0 q1 q2 q3 q4 hgl
   generalize (wr.alloc (.cells #[.slice xa Pk.cells.length xn,.slice xa0 Pk.h0.length uF,.slice xa1 Pk.h1.length uG,.int .i64 Pk.turn,.int .i64 Pk.quiet] 78))=wq at *
   have Bz:Box wq.drew wr.heap.size [.slice xa Pk.cells.length xn,.slice xa0 Pk.h0.length uF,.slice xa1 Pk.h1.length uG,.int .i64 Pk.turn,.int .i64 Pk.quiet] 78:=hBn
   have Lz:Below w.heap.size w wq.drew:=aA hLn
   have Gz:bP S base wq.drew b R ms vp vs ve (.slice (some ⟨g,0,none⟩) (ms.length+1) c) vm rows:=hGn.below (aA (Below.refl _ _))
   have Pz:pX wq.drew Pk (.slice xa Pk.cells.length xn) (.slice xa0 Pk.h0.length uF) (.slice xa1 Pk.h1.length uG):=hPn.below (aA (Below.refl _ _)) (Nat.le_refl _)
   clear hBn hLn hGn hPn
   refine wp_region_noPanic ?_
   refine bG (S:=(fun w'=>w'.cell? ⟨wr.heap.size,0,none⟩=some (.slice xa Pk.cells.length xn)∧w'.cell? ⟨wr.heap.size,1,none⟩=some (.slice xa0 Pk.h0.length uF)∧w'.cell? ⟨wr.heap.size,2,none⟩=some (.slice xa1 Pk.h1.length uG)∧w'.cell? ⟨wr.heap.size,3,none⟩=some (.int .i64 Pk.turn)∧w'.cell? ⟨wr.heap.size,4,none⟩=some (.int .i64 Pk.quiet))) (L:=[]) (by kernel_rfl) (by and_intros <;> exact Bz.cell _ rfl) (fun hHeld=>?_)
   refine dL 0 ?_
   refine aF 1 ?_
   refine dO 2 fun K hK=>?_
   go_simp
   refine (wu _ Gz).mono ?_
   rintro e w5 ⟨nc,n0,n1,rfl,Du,hb5⟩
   have G5:=Gz.below hb5
   have B5:=Bz.stays hb5
   have L5:=aj Lz hb5 Lz.size
   have P5:=Pz.below hb5 (Nat.le_refl _)
   have N5:=Du.now
   clear hb5 Du
   refine hK.out _ _ (by and_intros <;> exact B5.cell _ rfl) (fun hHeld=>?_)
   clear hK K
   refine dO 3 fun K hK=>?_
   go_simp
   refine (Qk Pk (bn R ms) _ _ _ nc n0 n1 _ P5 N5).mono ?_
   rintro e w6 ⟨rfl,hb6⟩
   have G6:=G5.below hb6
   have B6:=B5.stays hb6
   have L6:=aj L5 hb6 L5.size
   clear hb6
   refine hK.out _ _ (by and_intros <;> exact B6.cell _ rfl) (fun hHeld=>?_)
   clear hK K
   refine iE ?_
   have HG6:=hid G6
   have yJ:=hid L6
   clear G6 L6 B6 G5 B5 L5 P5 N5 hHeld Gz Bz Lz Pz
   cases hsm:rQ Pk (bn R ms)
   ·go_wp2_with fail
    go_roundw
    case rel=>exact ⟨k+1,cnt,by omega,by omega,by go_num,rfl,hid (by rw [Uf.out,HCn.out,hsm]; simp),HG6,yJ⟩
    case measure=>simp [intOf]; omega
   ·go_wp2_with fail
    go_roundw
    case rel=>exact ⟨k+1,cnt+1,by omega,by omega,by go_num,by go_num,hid (by rw [Uf.out,HCn.out,hsm]; simp),HG6,yJ⟩
    case measure=>simp [intOf]; omega
  ·obtain rfl:k=ms.length+1:=by omega
   have HE:Hid (iI R ms=cnt):=hid (by rw [← HCn.out]; unfold iI GV; rw [List.take_of_length_le (by rw [wo]; omega)])
   have hlt':¬ ((ms.length:Int)+1<(ms.length:Int)+1):=by omega
   go_wp2_with fail
   go_ret
   exact ⟨by rw [HE.out]; rfl,bC.out⟩
theorem rU (HS:SortMvSaid) {S:Nat→Prop} {base b:Nat} {R:aC} {ms:List aN} {vp vs ve vl vm:Value} {rows:List lD} (w:World) (h:bP S base w b R ms vp vs ve vl vm rows):Calls Tryz.prog 93 #[.pointer (some ⟨b,0,none⟩)] w fun e w'=>e=.returned (.int .i64 (fM R ms))∧Below w.heap.size w w':=by
 have lY:=hid HS
 have HK:=hid h.Ub
 have HG:=hid h
 clear h HS
 go_enter Tryz.func93,Tryz.ntmps93
 go_upto_region 1 with (fail)
 have Gz:bP S base w.drew b R ms vp vs ve vl vm rows:=HG.out.below (aA (Below.refl _ _))
 have Lz:Below w.heap.size w w.drew:=aA (Below.refl _ _)
 clear HG
 refine wp_region_noPanic ?_
 refine bG (S:=(fun w'=>w'.cell? ⟨b,0,none⟩=some (.string R.name)∧w'.cell? ⟨b,1,none⟩=some (.int .i64 R.width)∧w'.cell? ⟨b,2,none⟩=some (.int .i64 R.height)∧w'.cell? ⟨b,3,none⟩=some vp∧w'.cell? ⟨b,4,none⟩=some vs∧w'.cell? ⟨b,5,none⟩=some (.bool R.falls)∧w'.cell? ⟨b,6,none⟩=some (.bool R.keeps)∧w'.cell? ⟨b,7,none⟩=some ve∧w'.cell? ⟨b,8,none⟩=some (.int .i64 R.blocked)∧w'.cell? ⟨b,9,none⟩=some (.int .i64 R.quiet)∧w'.cell? ⟨b,10,none⟩=some (.int .i64 R.bF))) (L:=[]) (by kernel_rfl) (by and_intros <;> exact Gz.box.cell _ rfl) (fun hHeld=>?_)
 refine aF 0 ?_
 refine aF 4 ?_
 refine aF 1 ?_
 refine aF 2 ?_
 refine dL 3 ?_
 refine dO 5 fun K hK=>?_
 go_simp
 refine (wu _ Gz).mono ?_
 rintro e w5 ⟨nc,n0,n1,rfl,Du,hb5⟩
 have G5:=Gz.below hb5
 have L5:=aj Lz hb5 Lz.size
 have N5:=Du.now
 clear hb5 Du
 refine hK.out _ _ (by and_intros <;> exact G5.box.cell _ rfl) (fun hHeld=>?_)
 clear hK K
 refine dO 6 fun K hK=>?_
 go_simp
 refine (Ah lY.out R vp vs ve (bn R ms) nc n0 n1 _ G5.rd.now N5 HK.out).mono ?_
 rintro e w6 ⟨rfl,hb6⟩
 have G6:=G5.below hb6
 have L6:=aj L5 hb6 L5.size
 clear hb6
 refine hK.out _ _ (by and_intros <;> exact G6.box.cell _ rfl) (fun hHeld=>?_)
 clear hK K
 refine aF 7 ?_
 refine iE ?_
 have HG6:=hid G6
 have yJ:=hid L6
 clear G6 L6 G5 L5 N5 hHeld Gz Lz
 go_upto_region 2 with (fail)
 have Gy:bP S base w6.drew b R ms vp vs ve vl vm rows:=HG6.out.below (aA (Below.refl _ _))
 have Ly:Below w.heap.size w w6.drew:=aA yJ.out
 clear HG6 yJ
 generalize hx:dJ R (bn R ms)=x at *
 by_cases hx0:x=0
 rotate_left
 ·have hxb:(x == 0)=false:=by simpa using hx0
  have HE:Hid (fM R ms=x):=hid (by unfold fM; rw [hx,if_neg (by simp [hx0])])
  clear hx hx0
  refine wp_region_noPanic ?_
  refine bG (S:=(fun w'=>w'.cell? ⟨b,10,none⟩=some (.int .i64 R.bF))) (L:=[]) (by kernel_rfl) (Gy.box.cell 10 rfl) (fun hHeld=>?_)
  refine aF 0 ?_
  refine aF 1 ?_
  refine aF 2 ?_
  refine lJ 3 ?_
  refine lJ 4 ?_
  refine lJ 5 ?_
  refine lJ 6 ?_
  refine lJ 7 ?_
  refine lJ 8 ?_
  refine aF 9 ?_
  refine aF 10 ?_
  refine lJ 11 ?_
  refine lJ 13 ?_
  refine lJ 12 ?_
  refine lJ 14 ?_
  refine lJ 15 ?_
  refine lJ 16 ?_
  refine lJ 17 ?_
  refine lJ 18 ?_
  refine aF 19 ?_
  refine iE ?_
  have pY:=hid Ly
  go_wp2_with fail
  go_ret
  exact ⟨by rw [HE.out]; rfl,pY.out⟩
 subst hx0
 by_cases hr0:R.bF=0
 ·have hrb:(R.bF != 0)=false:=by simpa using hr0
  have HE:Hid (fM R ms=0):=hid (by unfold fM; rw [hx,if_neg (by simp [hr0])])
  clear hx hr0
  refine wp_region_noPanic ?_
  refine bG (S:=(fun w'=>w'.cell? ⟨b,10,none⟩=some (.int .i64 R.bF))) (L:=[]) (by kernel_rfl) (Gy.box.cell 10 rfl) (fun hHeld=>?_)
  refine aF 0 ?_
  refine aF 1 ?_
  refine aF 2 ?_
  refine aF 3 ?_
  refine aF 4 ?_
  refine aF 5 ?_
  refine aF 6 ?_
  refine dL 7 ?_
  refine aF 8 ?_
  refine aF 9 ?_
  refine aF 10 ?_
  refine lJ 11 ?_
  refine lJ 13 ?_
  refine lJ 12 ?_
  refine lJ 14 ?_
  refine lJ 15 ?_
  refine lJ 16 ?_
  refine lJ 17 ?_
  refine lJ 18 ?_
  refine aF 19 ?_
  refine iE ?_
  have pY:=hid Ly
  go_wp2_with fail
  go_ret
  exact ⟨by rw [HE.out]; rfl,pY.out⟩
 have hrb:(R.bF != 0)=true:=by simpa using hr0
 by_cases hc:R.bF≤(iI R ms:Int)
 ·have HE:Hid (fM R ms=3):=hid (by unfold fM; rw [hx,if_pos ⟨rfl,hr0,hc⟩])
  clear hx hr0
  refine wp_region_noPanic ?_
  refine bG (S:=(fun w'=>w'.cell? ⟨b,10,none⟩=some (.int .i64 R.bF))) (L:=[]) (by kernel_rfl) (Gy.box.cell 10 rfl) (fun hHeld=>?_)
  refine aF 0 ?_
  refine aF 1 ?_
  refine aF 2 ?_
  refine aF 3 ?_
  refine aF 4 ?_
  refine aF 5 ?_
  refine aF 6 ?_
  refine dL 7 ?_
  refine aF 8 ?_
  refine aF 9 ?_
  refine aF 10 ?_
  refine aF 11 ?_
  refine aF 13 ?_
  refine aF 14 ?_
  refine aF 15 ?_
  refine aF 16 ?_
  refine dL 17 ?_
  refine dO 12 fun K hK=>?_
  go_simp
  refine (count_any _ Gy).mono ?_
  rintro e w7 ⟨rfl,hb7⟩
  have G7:=Gy.below hb7
  have L7:=aj Ly hb7 Ly.size
  clear hb7
  refine hK.out _ _ (G7.box.cell 10 rfl) (fun hHeld=>?_)
  clear hK K
  refine aF 18 ?_
  refine aF 19 ?_
  refine iE ?_
  have pY:=hid L7
  go_wp2_with fail
  go_ret
  exact ⟨by rw [HE.out]; rfl,pY.out⟩
 ·have HE:Hid (fM R ms=0):=hid (by unfold fM; rw [hx,if_neg (by simp [hc])])
  clear hx hr0
  refine wp_region_noPanic ?_
  refine bG (S:=(fun w'=>w'.cell? ⟨b,10,none⟩=some (.int .i64 R.bF))) (L:=[]) (by kernel_rfl) (Gy.box.cell 10 rfl) (fun hHeld=>?_)
  refine aF 0 ?_
  refine aF 1 ?_
  refine aF 2 ?_
  refine aF 3 ?_
  refine aF 4 ?_
  refine aF 5 ?_
  refine aF 6 ?_
  refine dL 7 ?_
  refine aF 8 ?_
  refine aF 9 ?_
  refine aF 10 ?_
  refine aF 11 ?_
  refine aF 13 ?_
  refine aF 14 ?_
  refine aF 15 ?_
  refine aF 16 ?_
  refine dL 17 ?_
  refine dO 12 fun K hK=>?_
  go_simp
  refine (count_any _ Gy).mono ?_
  rintro e w7 ⟨rfl,hb7⟩
  have G7:=Gy.below hb7
  have L7:=aj Ly hb7 Ly.size
  clear hb7
  refine hK.out _ _ (G7.box.cell 10 rfl) (fun hHeld=>?_)
  clear hK K
  refine aF 18 ?_
  refine aF 19 ?_
  refine iE ?_
  have pY:=hid L7
  go_wp2_with fail
  go_ret
  exact ⟨by rw [HE.out]; rfl,pY.out⟩
end Go.Proofs.YtmabaojkignodaaGreatDoor
