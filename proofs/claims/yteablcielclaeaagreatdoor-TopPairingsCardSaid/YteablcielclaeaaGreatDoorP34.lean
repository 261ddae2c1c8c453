/- TwSwAddL, TwSwF, TwSwPC, TwSwD, TwSwG, TwApRd. -/
import Derived.Test.YteablcielclaeaaGreatDoorP33
import Derived.Maps.RangeWalk
namespace Go.Proofs.YteablcielclaeaaGreatDoor
open Go.ChangeShapes Go.WideShapes Go.ChangeAt Go.RowKit
set_option linter.unusedVariables false
def parts:List (Int×Int)→Int→List Int
 | [],_=>[]
 | p :: t,z=>((if p.1=z then [p.2] else [])++(if p.2=z then [p.1] else []))++parts t z
theorem JB (a b:List (Int×Int)) (z:Int):parts (a++b) z=parts a z++parts b z:=by
 induction a with
 | nil=>rfl
 | cons p t ih=>rw [List.cons_append,parts,parts,ih]; simp only [List.append_assoc]
theorem uQ (z:Int):∀ l:List (Int×Int),(parts l z).length=nI l z
 | []=>rfl
 | p :: t=>by
  rw [parts,nI,List.length_append,List.length_append,uQ z t]
  split <;> split <;> rfl
theorem Vq (i j z:Nat) (h:i≠j):parts [((i:Int),(j:Int))] (z:Int)=if z=i then [(j:Int)] else if z=j then [(i:Int)] else []:=by
 rw [parts,parts,List.append_nil]
 by_cases e1:z=i
 ·subst e1; rw [if_pos rfl,if_pos rfl,if_neg (by omega)]; rfl
 ·rw [if_neg (by show ¬ (i:Int)=z; omega),if_neg e1]
  by_cases e2:z=j
  ·subst e2; rw [if_pos rfl,if_pos rfl]; rfl
  ·rw [if_neg (by show ¬ (j:Int)=z; omega),if_neg e2]; rfl
theorem Ia {ps:List dH} {W:List Int} (z:Nat) (y:Int):∀ l:List (Int×Int),(∀ p∈l,Jz ps W p)→y∈parts l (z:Int)→W.getD z 0=y
 | [],_,h=>by cases h
 | p :: t,hg,h=>by
  rw [parts] at h
  rcases List.mem_append.1 h with h | h
  ·obtain ⟨i,j,rfl,-,-,-,w1,w2,-⟩:=hg p (List.mem_cons_self ..)
   rcases List.mem_append.1 h with h' | h'
   ·by_cases e:(i:Int)=(z:Int)
    ·rw [if_pos e] at h'
     have h2:=List.mem_singleton.1 h'
     obtain rfl:i=z:=by omega
     rw [h2]; exact w1
    ·rw [if_neg e] at h'; cases h'
   ·by_cases e:(j:Int)=(z:Int)
    ·rw [if_pos e] at h'
     have h2:=List.mem_singleton.1 h'
     obtain rfl:j=z:=by omega
     rw [h2]; exact w2
    ·rw [if_neg e] at h'; cases h'
  ·exact Ia z y t (fun q hq=>hg q (List.mem_cons_of_mem _ hq)) h
theorem parts_all {ps:List dH} {W:List Int} (h:Whole ps W) (z:Nat) (hz:z<ps.length):parts (dW ps W ps.length) (z:Int)=if W.getD z 0=ps.length then [] else [W.getD z 0]:=by
 have hl:=uQ (z:Int) (dW ps W ps.length)
 rw [uP h z hz] at hl
 have hm:=fun y=>Ia (ps:=ps) (W:=W) z y _ (jd h _ (Nat.le_refl _))
 by_cases e:W.getD z 0=ps.length
 ·rw [if_pos e] at hl ⊢
  exact List.length_eq_zero_iff.1 hl
 ·rw [if_neg e] at hl ⊢
  obtain ⟨y,hy⟩:=List.length_eq_one_iff.1 hl
  rw [hy,hm y (by rw [hy]; exact List.mem_singleton.2 rfl)]
theorem Ak (f g:Nat→Int):∀ n,dh n (fun z=>f z+g z)=dh n f+dh n g
 | 0=>rfl
 | n+1=>by unfold dh; rw [Ak f g n]; show _+_+(f n+g n)=_; omega
theorem l9 (c:Int):∀ n:Nat,dh n (fun _=>c)=n * c
 | 0=>by rw [dh]; simp
 | n+1=>by
  unfold dh
  rw [l9 c n,Int.natCast_add,Int.add_mul]
  simp
theorem Am (n i:Nat) (h:i<n):dh n (fun z=>if (i:Int)=(z:Int) then 1 else 0)=1:=by
 rw [lQ (fun _=>0) (fun z=>if (i:Int)=(z:Int) then 1 else 0) i n (fun k _ he=>if_neg (by omega)) h,l9,if_pos rfl]
 omega
theorem SY {ps:List dH} {W:List Int}:∀ l:List (Int×Int),(∀ p∈l,Jz ps W p)→dh ps.length (fun z=>((nI l (z:Int):Nat):Int))=2 * l.length
 | [],_=>by
  show dh ps.length (fun z=>0)=0
  rw [l9]; omega
 | p :: t,h=>by
  obtain ⟨i,j,rfl,hi,hj,-⟩:=h p (List.mem_cons_self ..)
  have ih:=SY t (fun q hq=>h q (List.mem_cons_of_mem _ hq))
  have e:∀ z:Nat,((nI (((i:Int),(j:Int)) :: t) (z:Int):Nat):Int)=((if (i:Int)=(z:Int) then 1 else 0)+(if (j:Int)=(z:Int) then 1 else 0))+((nI t (z:Int):Nat):Int):=fun z=>by
   rw [nI]
   simp only [Int.natCast_add]
   congr 2 <;> split <;> rfl
  rw [sumTo_congr (fun z=>((if (i:Int)=(z:Int) then (1:Int) else 0)+(if (j:Int)=(z:Int) then 1 else 0))+((nI t (z:Int):Nat):Int)) _ ps.length (fun k _=>e k),Ak,Ak,ih,Am _ _ hi,Am _ _ hj,List.length_cons]
  omega
theorem pF {ps:List dH} {W:List Int} (h:Whole ps W):2 * ((dW ps W ps.length).length:Int)+(if 0≤lH ps.length W ps.length then 1 else 0)=ps.length:=by
 have hs:=SY _ (jd h ps.length (Nat.le_refl _))
 rcases Ew h with ⟨e,-,hno⟩ | ⟨i,hi,e,-,-,hw,hu⟩
 ·rw [e,if_neg (by omega)]
  rw [sumTo_congr (fun _=>1) _ ps.length (fun k hk=>by rw [uP h k hk,if_neg (hno k hk)]; rfl),l9] at hs
  omega
 ·rw [e,if_pos (by omega)]
  rw [lQ (fun _=>1) _ i ps.length (fun k hk he=>by rw [uP h k hk,if_neg (fun q=>he (hu k hk q))]; rfl) hi,l9,uP h i hi,if_pos hw] at hs
  omega
structure Ey (ps:List dH) (l:List (Int×Int)) (f:Nat→dH):Prop where
 bZ:∀ i,i<ps.length→(f i).bZ=(aZ ps i).bZ++parts l (i:Int)
 dX:∀ i,i<ps.length→(f i).dX=(aZ ps i).dX
 sum:dh ps.length (fun i=>(f i).score)=dh ps.length (fun i=>(aZ ps i).score)+2 * l.length
 sc:∀ i,i<ps.length→0≤(f i).score∧(f i).score≤40+2 * l.length
 col:∀ i,i<ps.length→-20 - (l.length:Int)≤(f i).colour∧(f i).colour≤20+l.length
 scr:∀ i,i<ps.length→(f i).score≤(aZ ps i).score+2 * l.length
 Vr:∀ i,i<ps.length→(aZ ps i).colour - (l.length:Int)≤(f i).colour∧(f i).colour≤(aZ ps i).colour+l.length
theorem Ey.start (ps:List dH) (hs:∀ i,i<ps.length→Small (aZ ps i)):Ey ps [] (aZ ps):=
 ⟨fun i _=>by rw [parts,List.append_nil],fun _ _=>rfl,by simp,fun i hi=>by obtain ⟨⟨a,b⟩,-⟩:=hs i hi; simp; omega,fun i hi=>by obtain ⟨-,a,b⟩:=hs i hi; simp; omega,fun i hi=>by simp,fun i hi=>by simp⟩
def plays (f:Nat→dH) (i j:Nat) (r:Int):Nat→dH:=
 bT (bT f i ⟨(f i).score+r,(f i).bZ++[(j:Int)],(f i).colour+1,(f i).dX⟩) j ⟨(f j).score+(2 - r),(f j).bZ++[(i:Int)],(f j).colour - 1,(f j).dX⟩
theorem mg (f:Nat→dH) (i j:Nat) (r:Int) (z:Nat):plays f i j r z=if z=j then ⟨(f j).score+(2 - r),(f j).bZ++[(i:Int)],(f j).colour - 1,(f j).dX⟩ else if z=i then ⟨(f i).score+r,(f i).bZ++[(j:Int)],(f i).colour+1,(f i).dX⟩ else f z:=rfl
theorem Ey.step {ps:List dH} {l:List (Int×Int)} {f:Nat→dH} (h:Ey ps l f) (i j:Nat) (hi:i<ps.length) (hj:j<ps.length) (hij:i≠j) (r:Int) (h0:0≤r) (h2:r≤2) :
  Ey ps (l++[((i:Int),(j:Int))]) (plays f i j r):=by
 have hlen:((l++[((i:Int),(j:Int))]).length:Int)=l.length+1:=by rw [List.length_append]; rfl
 refine ⟨fun z hz=>?_,fun z hz=>?_,?_,fun z hz=>?_,fun z hz=>?_,fun z hz=>?_,fun z hz=>?_⟩
 ·rw [JB,Vq i j z hij,mg]
  by_cases e1:z=j
  ·subst e1
   rw [if_pos rfl,if_neg (fun e=>hij e.symm),if_pos rfl]
   show (f z).bZ++_=_
   rw [h.bZ z hz,List.append_assoc]
  ·rw [if_neg e1]
   by_cases e2:z=i
   ·subst e2
    rw [if_pos rfl,if_pos rfl]
    show (f z).bZ++_=_
    rw [h.bZ z hz,List.append_assoc]
   ·rw [if_neg e2,if_neg e2,if_neg e1,List.append_nil,h.bZ z hz]
 ·rw [mg]
  by_cases e1:z=j
  ·subst e1; rw [if_pos rfl]; exact h.dX z hz
  ·rw [if_neg e1]
   by_cases e2:z=i
   ·subst e2; rw [if_pos rfl]; exact h.dX z hz
   ·rw [if_neg e2]; exact h.dX z hz
 ·have e1:=lQ (fun k=>(f k).score) (fun k=>(bT f i ⟨(f i).score+r,(f i).bZ++[(j:Int)],(f i).colour+1,(f i).dX⟩ k).score) i ps.length (fun k _ hk=>by show (bT f i _ k).score=_; rw [aW _ _ hk]) hi
  have e2:=lQ (fun k=>(bT f i ⟨(f i).score+r,(f i).bZ++[(j:Int)],(f i).colour+1,(f i).dX⟩ k).score) (fun k=>(plays f i j r k).score) j ps.length (fun k _ hk=>by show (plays f i j r k).score=_; unfold plays; rw [aW _ _ hk]) hj
  rw [e2,e1,h.sum,hlen]
  unfold plays
  simp only [fD,aW _ _ (fun e:j=i=>hij e.symm)]
  omega
 ·have a1:=h.sc i hi
  have a2:=h.sc j hj
  have a3:=h.sc z hz
  rw [mg,hlen]
  by_cases e1:z=j
  ·rw [if_pos e1]; simp only; omega
  ·rw [if_neg e1]
   by_cases e2:z=i
   ·rw [if_pos e2]; simp only; omega
   ·rw [if_neg e2]; omega
 ·have a1:=h.col i hi
  have a2:=h.col j hj
  have a3:=h.col z hz
  rw [mg,hlen]
  by_cases e1:z=j
  ·rw [if_pos e1]; simp only; omega
  ·rw [if_neg e1]
   by_cases e2:z=i
   ·rw [if_pos e2]; simp only; omega
   ·rw [if_neg e2]; omega
 ·have a1:=h.scr i hi
  have a2:=h.scr j hj
  have a3:=h.scr z hz
  rw [mg,hlen]
  by_cases e1:z=j
  ·subst e1; rw [if_pos rfl]; simp only; omega
  ·rw [if_neg e1]
   by_cases e2:z=i
   ·subst e2; rw [if_pos rfl]; simp only; omega
   ·rw [if_neg e2]; omega
 ·have a1:=h.Vr i hi
  have a2:=h.Vr j hj
  have a3:=h.Vr z hz
  rw [mg,hlen]
  by_cases e1:z=j
  ·subst e1; rw [if_pos rfl]; simp only; omega
  ·rw [if_neg e1]
   by_cases e2:z=i
   ·subst e2; rw [if_pos rfl]; simp only; omega
   ·rw [if_neg e2]; omega
def rests (f:Nat→dH) (i:Nat):Nat→dH:=bT f i ⟨(f i).score+2,(f i).bZ,(f i).colour,true⟩
structure Fin1 (ps:List dH) (W:List Int) (off:Int) (f:Nat→dH):Prop where
 bZ:∀ i,i<ps.length→(f i).bZ=(aZ ps i).bZ++(if W.getD i 0=ps.length then [] else [W.getD i 0])
 dX:∀ i,i<ps.length→(f i).dX=((aZ ps i).dX || decide ((i:Int)=off))
 sum:dh ps.length (fun i=>(f i).score)=dh ps.length (fun i=>(aZ ps i).score)+2 * (((ps.length:Int)+1) / 2)
 sc:∀ i,i<ps.length→0≤(f i).score∧(f i).score≤100
 sr:∀ i,i<ps.length→(f i).score≤(aZ ps i).score+10
 co:∀ i,i<ps.length→(aZ ps i).colour - 4≤(f i).colour∧(f i).colour≤(aZ ps i).colour+4
theorem Zw {ps:List dH} {W:List Int} (h:Whole ps W) (h8:ps.length≤8) {f:Nat→dH} (hm:Ey ps (dW ps W ps.length) f) (ho:lH ps.length W ps.length = -1):Fin1 ps W (-1) f:=by
 have hc:=pF h
 rw [ho,if_neg (by omega)] at hc
 refine ⟨fun i hi=>by rw [hm.bZ i hi,parts_all h i hi],fun i hi=>by rw [hm.dX i hi,decide_eq_false (by omega),Bool.or_false],by rw [hm.sum]; omega,fun i hi=>by have:=hm.sc i hi; omega,fun i hi=>by have:=hm.scr i hi; omega,fun i hi=>by have:=hm.Vr i hi; omega⟩
theorem acT {ps:List dH} {W:List Int} (h:Whole ps W) (h8:ps.length≤8) {f:Nat→dH} (hm:Ey ps (dW ps W ps.length) f) (i:Nat) (hi:i<ps.length) (ho:lH ps.length W ps.length=i):Fin1 ps W (i:Int) (rests f i):=by
 have hc:=pF h
 rw [ho,if_pos (by omega)] at hc
 refine ⟨fun k hk=>?_,fun k hk=>?_,?_,fun k hk=>?_,fun k hk=>?_,fun k hk=>?_⟩
 ·rw [← parts_all h k hk,← hm.bZ k hk]
  by_cases e:k=i
  ·subst e; unfold rests; rw [fD]
  ·unfold rests; rw [aW _ _ e]
 ·by_cases e:k=i
  ·subst e; unfold rests; rw [fD,decide_eq_true rfl,Bool.or_true]
  ·unfold rests; rw [aW _ _ e,hm.dX k hk,decide_eq_false (by omega),Bool.or_false]
 ·rw [lQ (fun k=>(f k).score) (fun k=>(rests f i k).score) i ps.length (fun k _ he=>by show (rests f i k).score=_; unfold rests; rw [aW _ _ he]) hi,hm.sum]
  unfold rests
  simp only [fD]
  omega
 ·have a1:=hm.sc i hi
  have a2:=hm.sc k hk
  unfold rests
  by_cases e:k=i
  ·subst e; rw [fD]; simp only; omega
  ·rw [aW _ _ e]; omega
 ·have a1:=hm.scr i hi
  have a2:=hm.scr k hk
  unfold rests
  by_cases e:k=i
  ·subst e; rw [fD]; simp only; omega
  ·rw [aW _ _ e]; omega
 ·have a1:=hm.Vr i hi
  have a2:=hm.Vr k hk
  unfold rests
  by_cases e:k=i
  ·subst e; rw [fD]; simp only; omega
  ·rw [aW _ _ e]; omega
def newL (n:Nat) (f:Nat→dH):List dH:=(List.range n).map f
theorem zh (n:Nat) (f:Nat→dH):(newL n f).length=n:=by simp [newL]
theorem pG (n:Nat) (f:Nat→dH) (i:Nat) (h:i<n):aZ (newL n f) i=f i:=by
 unfold aZ newL
 rw [List.getD_eq_getElem?_getD,List.getElem?_map,List.getElem?_range h]; rfl
theorem uS {ps:List dH} {W:List Int} (h:Whole ps W) {off:Int} {f:Nat→dH} (hf:Fin1 ps W off f) (i j:Nat) (hi:i<ps.length) (hj:j<ps.length) :
  ji (newL ps.length f) i (j:Int)=ji ps i (j:Int)+(if W.getD i 0=(j:Int) then 1 else 0):=by
 unfold ji
 rw [pG _ _ _ hi,hf.bZ i hi,List.filter_append,List.length_append]
 congr 1
 by_cases e:W.getD i 0=ps.length
 ·rw [if_pos e,if_neg (by omega)]; rfl
 ·rw [if_neg e]
  by_cases e2:W.getD i 0=(j:Int)
  ·rw [if_pos e2,e2]; simp
  ·rw [if_neg e2,List.filter_cons_of_neg (by simpa using e2)]; rfl
theorem Zx {ps:List dH} {W:List Int} (hok:um ps) (h:Whole ps W) {off:Int} {f:Nat→dH} (hf:Fin1 ps W off f) {c:Int} (hc:gW (newL ps.length f) c):c=0∨c=2∨c=4:=by
 obtain ⟨h1,h2,h3⟩:=hok
 unfold gW at hc
 rw [zh] at hc
 have acS:∀ i j:Nat,i<ps.length→j<ps.length→(W.getD i 0=(j:Int)↔W.getD j 0=(i:Int)):=fun i j hi hj=>⟨h.sym hi hj,h.sym hj hi⟩
 rcases hc with ⟨hc,-⟩ | ⟨hc,-⟩ | ⟨hc,-⟩ | ⟨-,hc⟩ | ⟨-,i,hi,j,hj,hc⟩
 ·exact .inl hc
 ·exact .inr (.inl hc)
 ·exact .inr (.inr hc)
 ·exfalso
  rcases hc with ⟨i,hi,hc⟩ | ⟨i,hi,j,hj,hc⟩
  ·rw [pG _ _ _ hi,hf.bZ i hi,List.any_append,(h2 i hi).2.2,Bool.false_or] at hc
   rcases h.ent i hi with ⟨q,-⟩ | ⟨j,j1,j2,j3,-⟩
   ·rw [if_pos q] at hc; cases hc
   ·rw [if_neg (by omega),j2] at hc
    simp [FM] at hc
    omega
  ·apply hc
   rw [uS h hf i j hi (by omega),uS h hf j i (by omega) hi,(h3 i hi j hj).1]
   have:=acS i j hi (by omega)
   by_cases e:W.getD i 0=(j:Int)
   ·rw [if_pos e,if_pos (this.1 e)]
   ·rw [if_neg e,if_neg (fun q=>e (this.2 q))]
 ·exfalso
  rw [uS h hf i j hi (by omega)] at hc
  have h4:=(h3 i hi j hj).2
  by_cases e:W.getD i 0=(j:Int)
  ·rw [if_pos e] at hc
   rcases h.ent i hi with ⟨q,-⟩ | ⟨m,m1,m2,-,-,m5⟩
   ·omega
   ·have:m=j:=by omega
    subst this
    omega
  ·rw [if_neg e] at hc; omega
theorem ND:(Tryz.prog.info? 49).map (fun i=>(i.zero,i.size,i.bytes))=some (some (.agg #[.int .i64 0,.slice none 0 0,.int .i64 0,.bool false]),4,48):=by kernel_rfl
end Go.Proofs.YteablcielclaeaaGreatDoor
namespace Go.Proofs.YteablcielclaeaaGreatDoor
open Go.ChangeShapes Go.WideShapes Go.ChangeAt Go.RowKit
set_option linter.unusedVariables false
open Go.Lib (hid)
theorem nP (F:Nat→List Value) (hF:∀ i,(F i).length=4):∀ n,((List.range n).flatMap F).length=n * 4
 | 0=>rfl
 | n+1=>by rw [List.range_succ,List.flatMap_append,List.length_append,nP F hF n,List.flatMap_singleton,hF]; omega
theorem EC (F:Nat→List Value) (hF:∀ i,(F i).length=4) (j:Nat) (hj:j<4):∀ n i,i<n→((List.range n).flatMap F)[i * 4+j]?=(F i)[j]?
 | 0,i,hi=>absurd hi (Nat.not_lt_zero _)
 | n+1,i,hi=>by
  rw [List.range_succ,List.flatMap_append,List.flatMap_singleton]
  by_cases e:i=n
  ·subst e
   rw [List.getElem?_append_right (by rw [nP F hF]; omega),nP F hF]
   congr 1; omega
  ·rw [List.getElem?_append_left (by rw [nP F hF]; omega)]
   exact EC F hF j hj n i (by omega)
def FN (f:Nat→dH) (v:Nat→Value) (i:Nat):List Value:=[.int .i64 (f i).score,v i,.int .i64 (f i).colour,.bool (f i).dX]
theorem acU {w:World} {a:Option Addr} {n c:Nat} {ps:List dH} (h:kZ w (.slice a n c) ps) (hn:0<ps.length):∃ g o,∃ vo:Nat→Value,a=some ⟨g,o,none⟩∧g<w.heap.size ∧
  (∀ i,i<ps.length→fQ w (vo i) (aZ ps i).bZ)∧∀ i,i<ps.length→∀ j,j<4→w.cell? ⟨g,o+i * 4+j,none⟩=(FN (aZ ps) vo i)[j]?:=by
 obtain ⟨g,o,ha,hg,hc⟩:=kZ.some h hn
 have hch:∀ i,∃ v,i<ps.length→w.cell? ⟨g,o+i * 4,none⟩=some (.int .i64 (aZ ps i).score)∧w.cell? ⟨g,o+i * 4+1,none⟩=some v∧w.cell? ⟨g,o+i * 4+2,none⟩=some (.int .i64 (aZ ps i).colour) ∧
   w.cell? ⟨g,o+i * 4+3,none⟩=some (.bool (aZ ps i).dX)∧fQ w v (aZ ps i).bZ:=fun i=>by
  by_cases hi:i<ps.length
  ·obtain ⟨v,hv⟩:=hc i hi
   exact ⟨v,fun _=>hv⟩
  ·exact ⟨.bool false,fun h=>absurd h hi⟩
 refine ⟨g,o,fun i=>Classical.choose (hch i),ha,hg,fun i hi=>(Classical.choose_spec (hch i) hi).2.2.2.2,fun i hi j hj=>?_⟩
 obtain ⟨h0,h1,h2,h3,-⟩:=Classical.choose_spec (hch i) hi
 match j,hj with
 | 0,_=>exact h0
 | 1,_=>exact h1
 | 2,_=>exact h2
 | 3,_=>exact h3
set_option maxRecDepth 100000 in
set_option maxHeartbeats 2000000 in
theorem QM (s:Value) (ps:List dH) (w:World) (h:kZ w s ps) (hn:2≤ps.length) (h8:ps.length≤8) :
  Calls Tryz.prog 33 #[s] w fun e w'=>∃ ob c vo,e=.returned (.slice (some ⟨ob,0,none⟩) ps.length c)∧ps.length≤c∧c≤maxLen∧w.heap.size≤ob∧Below w.heap.size w w' ∧
   Cells w' ob ps.length (aZ ps) vo∧∀ i,i<ps.length→fQ w (vo i) (aZ ps i).bZ:=by
 obtain ⟨i0,hi,hz0,hz1,hz2⟩:=info_parts ND
 obtain ⟨sa,sc,rfl,hs1,hs2⟩:=h.form
 obtain ⟨g,o,vo,rfl,hg,hv,hcell⟩:=acU h (by omega)
 have hq:=fun (w:World) (a:Option Addr) (n c:Nat)=>Lib.run_eql_slice_nil (P:=Tryz.prog) w 43 49 a n c 0 0 Tryz.underlying43
 have hF:∀ i,(FN (aZ ps) vo i).length=4:=fun _=>rfl
 have hown0:(w.alloc (.cells #[] 49)).ownsRow w.heap.size 49 4 (.slice (some ⟨w.heap.size,0,none⟩) 0 0) 0 []:=World.ownsRow_made w #[] 0 (Nat.le_refl _) (by unfold maxLen; omega) rfl
 have hnews:∀ j u,((List.range ps.length).flatMap (FN (aZ ps) vo))[j]?=some u→(w.alloc (.cells #[] 49)).cell? ((⟨g,o,none⟩:Addr).add j)=some u:=by
  intro j u hu
  have hj:j<ps.length * 4:=by
   have:=(List.getElem?_eq_some_iff.1 hu).1
   rwa [nP _ hF] at this
  have e:(⟨g,o,none⟩:Addr).add j=⟨g,o+j,none⟩:=by unfold Addr.add; split <;> simp_all
  have e2:j=j / 4 * 4+j % 4:=by omega
  rw [e,World.cell?_of_block (w:=w) (a:=⟨g,o+j,none⟩) (Below.heap_alloc w _ g hg)]
  rw [e2,EC _ hF _ (by omega) _ _ (by omega)] at hu
  have:=hcell (j / 4) (by omega) (j % 4) (by omega)
  rw [hu,show o+j / 4 * 4+j % 4=o+j by omega] at this
  exact this
 have h1c:∀ u∈(List.range ps.length).flatMap (FN (aZ ps) vo),u.oneCell'=true:=by
  intro u hu
  obtain ⟨i,hi,hu⟩:=List.mem_flatMap.1 hu
  obtain ⟨a,c,hva,-,-⟩:=(hv i (by simpa using hi)).form
  unfold FN at hu
  rw [hva] at hu
  simp at hu
  rcases hu with rfl | rfl | rfl | rfl <;> rfl
 have nX:=hid hown0
 have nY:=hid hnews
 have H1c:=hid h1c
 have HV:=hid hv
 have OU:=hid (show ((List.range ps.length).flatMap (FN (aZ ps) vo)).length=ps.length * 4 by rw [nP _ hF])
 clear hown0 hnews h1c hcell h hv
 have HFl:Hid (∀ i j,i<ps.length→j<4→((List.range ps.length).flatMap (FN (aZ ps) vo))[i * 4+j]?=(FN (aZ ps) vo i)[j]?):=hid (fun i j hi hj=>EC _ hF j hj _ i hi)
 generalize (List.range ps.length).flatMap (FN (aZ ps) vo)=xs at *
 clear hF
 go_enter Tryz.func33,Tryz.ntmps33
 go_wp2_with (at_builtin; refine wpList_append_own _ rfl _ _ 43 rfl w.heap.size 49 i0 (.agg #[.int .i64 0,.slice none 0 0,.int .i64 0,.bool false]) 4 48 Tryz.underlying43 hi hz0 hz1 hz2 rfl (by decide) _ 0 [] rfl nX.out ⟨g,o,none⟩ ps.length sc xs rfl OU.out nY.out H1c.out ?c3 ?c4 ?c5 ?_)
 case c3=>unfold maxLen; omega
 case c4=>omega
 case c5=>simp
 intro v' w2 hown' hgrow _
 try simp only [Nat.zero_add,List.nil_append] at hown'
 have hb:Below w.heap.size w w2:=Below.grown ((Below.refl _ w).alloc (Nat.le_refl _) _) hgrow (by simp) (fun q hq=>by simp [Value.ownBlock] at hq; omega)
 obtain ⟨ob,oc,rfl⟩:=dY hown' (by omega)
 have HO:=hid hown'
 clear hown' hgrow
 go_wp2
 go_ret
 have hcap:ps.length≤oc∧oc≤maxLen:=by
  rcases HO.out.2 with ⟨e,-⟩ | ⟨g',c',cur,e,-,-,h1,h2,-⟩
  ·cases e
  ·simp only [Value.slice.injEq,Option.some.injEq,Addr.mk.injEq,true_and] at e
   obtain ⟨-,rfl⟩:=e
   exact ⟨h1,h2⟩
 have hat:∀ i j u,i<ps.length→j<4→(FN (aZ ps) vo i)[j]?=some u→w2.cell? ⟨ob,i * 4+j,none⟩=some u:=fun i j u hi hj hu =>
  ((HO.out.cellAt (i * 4+j) (by omega)).trans (HFl.out i j hi hj)).trans hu
 exact ⟨ob,oc,vo,rfl,hcap.1,hcap.2,(HO.out.lt ob rfl).1,hb,⟨fun i hi=>hat i 0 _ hi (by decide) rfl,fun i hi=>hat i 1 _ hi (by decide) rfl,fun i hi=>hat i 2 _ hi (by decide) rfl,fun i hi=>hat i 3 _ hi (by decide) rfl,
  fun j=>HO.out.frozenAt j,(HO.out.lt ob rfl).2⟩,HV.out⟩
def S9 (n:Nat) (i j:Int):Bool:=decide (0≤i) && (decide (i<n) && (decide (0≤j) && (decide (j<n) && decide (i≠j))))
set_option maxHeartbeats 2000000 in
theorem Zy (a:Option Addr) (n c:Nat) (i j:Int) (w:World) (hn:(n:Int)<2 ^ 63) :
  Calls Tryz.prog 76 #[.slice a n c,.int .i64 i,.int .i64 j] w fun e w'=>e=.returned (.bool (S9 n i j))∧w=w':=by
 unfold S9
 go_enter Tryz.func76,Tryz.ntmps76
 by_cases h1:0≤i
 ·by_cases h2:i<n
  ·by_cases h3:0≤j
   ·by_cases h4:j<n
    ·by_cases h5:i=j
     ·subst h5
      go_wp2_with fail
      all_goals (try go_ret)
      all_goals first | (refine ⟨?_,rfl⟩; simp <;> omega) | omega
     ·go_wp2_with fail
      all_goals (try go_ret)
      all_goals first | (refine ⟨?_,rfl⟩; simp [h1,h2,h3,h4,h5] <;> omega) | omega
    ·go_wp2_with fail
     all_goals (try go_ret)
     all_goals first | (refine ⟨?_,rfl⟩; simp [h1,h2,h3,h4] <;> omega) | omega
   ·go_wp2_with fail
    all_goals (try go_ret)
    all_goals first | (refine ⟨?_,rfl⟩; simp [h1,h2,h3] <;> omega) | omega
  ·go_wp2_with fail
   all_goals (try go_ret)
   all_goals first | (refine ⟨?_,rfl⟩; simp [h1,h2] <;> omega) | omega
 ·go_wp2_with fail
  all_goals (try go_ret)
  all_goals first | (refine ⟨?_,rfl⟩; simp [h1] <;> omega) | omega
theorem acV {n i j:Nat} (hi:i<n) (hj:j<n) (h:i≠j):S9 n (i:Int) (j:Int)=true:=by
 unfold S9
 simp only [Bool.and_eq_true,decide_eq_true_eq]
 omega
end Go.Proofs.YteablcielclaeaaGreatDoor
namespace Go.Proofs.YteablcielclaeaaGreatDoor
open Go.ChangeShapes Go.WideShapes Go.ChangeAt Go.RowKit Go.Maps
set_option linter.unusedVariables false
open Go.Lib (hid)
def Busy (f:Value→Int) (l:List (Int×Int)) (off:Int):Prop:=∀ z:Int,f (.int .i64 z)=(nI l z:Nat)+(if 0≤off∧z=off then 1 else 0)
theorem ZA {f:Value→Int} {l:List (Int×Int)} (h:Busy f l (-1)) (i j:Nat) (hij:i≠j) (x y:Int) (hx:x=(nI l (i:Int):Nat)) (hy:y=(nI l (j:Int):Nat)) :
  Busy (upd (upd f (.int .i64 (i:Int)) (x+1)) (.int .i64 (j:Int)) (y+1)) (l++[((i:Int),(j:Int))]) (-1):=by
 intro z
 have hz:=h z
 have e:nI [((i:Int),(j:Int))] z=(if (i:Int)=z then 1 else 0)+(if (j:Int)=z then 1 else 0):=by rw [nI,nI,Nat.add_zero]
 rw [oL,e]
 by_cases e1:(j:Int)=z
 ·subst e1
  rw [upd_same,if_neg (by omega),if_pos rfl,if_neg (by omega)]
  omega
 ·rw [fP _ _ (by simp; omega),if_neg e1]
  by_cases e2:(i:Int)=z
  ·subst e2
   rw [upd_same,if_pos rfl,if_neg (by omega)]
   omega
  ·rw [fP _ _ (by simp; omega),if_neg e2,hz,if_neg (by omega)]
   omega
theorem ZB {f:Value→Int} {l:List (Int×Int)} (h:Busy f l (-1)) (i:Nat) (x:Int) (hx:x=(nI l (i:Int):Nat)):Busy (upd f (.int .i64 (i:Int)) (x+1)) l i:=by
 intro z
 by_cases e2:z=(i:Int)
 ·subst e2
  rw [upd_same,if_pos ⟨by omega,rfl⟩]
  omega
 ·rw [fP _ _ (by simp; omega),if_neg (fun h=>e2 h.2),h z,if_neg (by omega)]
theorem ED {ps:List dH} {W:List Int} (z:Int) (hz:z<0∨(ps.length:Int)≤z):∀ l:List (Int×Int),(∀ p∈l,Jz ps W p)→nI l z=0
 | [],_=>rfl
 | p :: t,h=>by
  obtain ⟨i,j,rfl,hi,hj,-⟩:=h p (List.mem_cons_self ..)
  rw [nI,ED z hz t (fun q hq=>h q (List.mem_cons_of_mem _ hq)),if_neg (by show ¬ (i:Int)=z; omega),if_neg (by show ¬ (j:Int)=z; omega)]
theorem acW {ps:List dH} {W:List Int} (h:Whole ps W) {f:Value→Int} (hf:Busy f (dW ps W ps.length) (lH ps.length W ps.length)) (z:Int):f (.int .i64 z)≤1:=by
 rw [hf z]
 rcases (by omega:(z<0∨(ps.length:Int)≤z)∨(0≤z∧z<ps.length)) with hz | hz
 ·rw [ED z hz _ (jd h _ (Nat.le_refl _))]
  split <;> omega
 ·obtain ⟨k,rfl⟩:∃ k:Nat,z=(k:Int):=⟨z.toNat,by omega⟩
  rw [uP h k (by omega)]
  rcases Ew h with ⟨e,-,-⟩ | ⟨i,hi,e,-,-,hw,hu⟩
  ·rw [e,if_neg (show ¬ (0≤(-1:Int)∧(k:Int) = -1) by omega)]
   by_cases hq:W.getD k 0=ps.length
   ·rw [if_pos hq]; omega
   ·rw [if_neg hq]; omega
  ·rw [e]
   by_cases ek:k=i
   ·subst ek; rw [if_pos hw,if_pos ⟨by omega,rfl⟩]; omega
   ·rw [if_neg (show ¬ (0≤(i:Int)∧(k:Int)=i) by omega)]
    by_cases hq:W.getD k 0=ps.length
    ·rw [if_pos hq]; omega
    ·rw [if_neg hq]; omega
set_option maxRecDepth 100000 in
set_option maxHeartbeats 8000000 in
theorem FP (s vg vr:Value) (ps:List dH) (W rs:List Int) (w:World) (hs:kZ w s ps) (hok:um ps) (hw:Whole ps W) (hg:iC Vo w vg (dW ps W ps.length)) (hr:fQ w vr rs)
  (hl:rs.length=(dW ps W ps.length).length) (h2:∀ k,k<rs.length→0≤rs.getD k 0∧rs.getD k 0≤2) :
  Calls Tryz.prog 32 #[s,vg,vr,.int .i64 (lH ps.length W ps.length)] w fun e w'=>e=.returned (.int .i64 0)∧Below w.heap.size w w':=by
 obtain ⟨sa,sc,rfl,hs1,hs2⟩:=hs.form
 obtain ⟨ga,gc,rfl,hg1,hg2⟩:=hg.form
 obtain ⟨ra,rc,rfl,hr1,hr2⟩:=hr.form
 unfold maxLen at hs2 hg2 hr2
 obtain ⟨hn2,MG⟩:=hok.1
 have HBL:Hid (∀ f,Busy f (dW ps W ps.length) (lH ps.length W ps.length)→∀ z,f (.int .i64 z)≤1):=hid (fun f hf z=>acW hw hf z)
 have HGs:=hid (jd hw ps.length (Nat.le_refl _))
 have acX:=hid (Ew hw)
 have HGL:=hid (zf ps W ps.length)
 have HS:=hid hs
 have HG:=hid hg
 have HR:=hid hr
 have H2:=hid h2
 clear hs hg hr h2 hok
 generalize dW ps W ps.length=G at *
 generalize lH ps.length W ps.length=off at *
 rw [hl] at hr1 HR H2 ⊢
 have hle:G.length≤ps.length:=HGL.out
 have hmm:=@run_makeMap Tryz.prog
 go_enter Tryz.func32,Tryz.ntmps32
 go_upto_region 4 with (fail)
 obtain ⟨bm,hbm⟩:∃ bm,bm=w.heap.size:=⟨_,rfl⟩
 have Aa:Hid (dn (w.alloc (.map #[] 0)) Tryz.prog 3 3 bm 0 (fun _=>0)):=hid (by rw [hbm]; exact yT w Tryz.prog 3 3)
 have HB0:Hid (Below bm w (w.alloc (.map #[] 0))):=hid (by rw [hbm]; exact (Below.refl _ w).alloc (Nat.le_refl _) _)
 have hb1:bm≤w.heap.size:=by omega
 have hb2:w.heap.size≤bm:=by omega
 rw [← hbm]
 clear hbm hmm
 generalize w.alloc (.map #[] 0)=wm at *
 go_wp2_with fail
 go_loopw [23,10,11] (fun v23 v10 v11 wr=>∃ (k:Nat) (o1 o2:Value) (f:Value→Int),o1=v10∧o2=v11∧k≤G.length∧v23=.int .i64 k∧Hid (dn wr Tryz.prog 3 3 bm (2 * k) f)∧Hid (Busy f (G.take k) (-1))∧Hid (Below bm w wr)) (fun v _ _ _=>G.length - (intOf v).toNat)
 case atStart=>exact ⟨0,_,_,fun _=>0,rfl,rfl,Nat.zero_le _,rfl,Aa,hid (fun z=>by rw [if_neg (by omega)]; rfl),HB0⟩
 case round =>
  obtain ⟨k,o1,o2,f,rfl,rfl,hk,rfl,HM,HF,HB⟩:=hrel
  have hsr:=HB.out.size
  have hbr:bm<wr.heap.size:=HM.out.lt
  by_cases hlt:k<G.length
  ·obtain ⟨gg,og,rfl,hgg,hcl⟩:=iC.some (iC.below HG.out HB.out (by omega)) (by omega)
   obtain ⟨cs,hcs,hj⟩:=hcl k hlt
   obtain ⟨i,j,hij,hin,hjn,hne,-⟩:=HGs.out _ (List.getElem_mem hlt)
   have HT:Hid (G.take (k+1)=G.take k++[((i:Int),(j:Int))]):=hid (by rw [List.take_add_one,List.getElem?_eq_getElem hlt,hij]; rfl)
   rw [hij] at hcs
   obtain rfl:cs=[.int .i64 (i:Int),.int .i64 (j:Int)]:=hcs
   have c1:wr.cell? ⟨gg,og+k * 2,none⟩=some (.int .i64 (i:Int)):=hj 0 (by decide)
   have c2:wr.cell? ⟨gg,og+k * 2+1,none⟩=some (.int .i64 (j:Int)):=hj 1 (by decide)
   clear hcl hij hj
   obtain ⟨rg,ro,rc2,har,-,-,hrg,hrc⟩:=fQ.some (fQ.below HR.out HB.out (by omega)) (by omega)
   simp only [Value.slice.injEq] at har
   obtain ⟨rfl,-,rfl⟩:=har
   have cr:=hrc k (by omega)
   obtain ⟨hr0,hr3⟩:=H2.out k hlt
   clear hrc
   generalize rs.getD k 0=rk at *
   go_upto_region 7 with (fail)
   obtain ⟨pb,hpb⟩:∃ pb,pb=wr.heap.size:=⟨_,rfl⟩
   rw [← hpb]
   have avr:pb<(wr.alloc (.cells #[.int .i64 (i:Int),.int .i64 (j:Int)] 31)).heap.size:=by rw [World.size_alloc]; omega
   have HP:=hid (Box.new' wr pb [.int .i64 (i:Int),.int .i64 (j:Int)] 31 hpb.symm)
   have kF:=hid (HB.out.alloc (by omega) (.cells #[.int .i64 (i:Int),.int .i64 (j:Int)] 31))
   have HMp:=hid (HM.out.alloc (.cells #[.int .i64 (i:Int),.int .i64 (j:Int)] 31))
   have crp:=eG cr (.cells #[.int .i64 (i:Int),.int .i64 (j:Int)] 31)
   have hbp:bm≠pb:=by omega
   have avs:rg<(wr.alloc (.cells #[.int .i64 (i:Int),.int .i64 (j:Int)] 31)).heap.size:=by rw [World.size_alloc]; omega
   clear HM HB cr c1 c2 hpb
   generalize wr.alloc (.cells #[.int .i64 (i:Int),.int .i64 (j:Int)] 31)=wp at *
   have q0:=HP.out.cell 0 rfl
   have q1:=HP.out.cell 1 rfl
   have hbw:bm<wp.heap.size:=HMp.out.lt
   go_upto_region 9 with (go_at_call 76; refine (Zy _ ps.length _ (i:Int) (j:Int) _ (by omega)).mono ?_; rintro e w2 ⟨rfl,rfl⟩; rw [acV hin hjn hne])
   have kI:=yU (a:=(i:Int)) (by omega) (by omega)
   have kJ:=yU (a:=(j:Int)) (by omega) (by omega)
   have l1:=(HMp.out.look vI Tryz.underlying188 Tryz.underlying3 (Bd _) kI).1
   have hx0:=HF.out (i:Int)
   have hy0:=HF.out (j:Int)
   rw [if_neg (by omega),Int.add_zero] at hx0 hy0
   rw [hx0] at l1
   have hlx:=Aj (i:Int) (G.take k)
   have hly:=Aj (j:Int) (G.take k)
   rw [List.length_take] at hlx hly
   obtain ⟨wA,rA,mA,gA⟩:=HMp.out.store vI Tryz.underlying188 Tryz.underlying3 (by unfold maxLen; omega) kI (v:=(nI (G.take k) (i:Int):Nat)+1) (WalkArith.wf_i64 (by omega))
   have l2:=(mA.look vI Tryz.underlying188 Tryz.underlying3 (Bd _) kJ).1
   rw [fP _ _ (by simp; omega),hy0] at l2
   obtain ⟨wC,rC,mC,gC⟩:=mA.store vI Tryz.underlying188 Tryz.underlying3 (by unfold maxLen; omega) kJ (v:=(nI (G.take k) (j:Int):Nat)+1) (WalkArith.wf_i64 (by omega))
   have HMC:=hid (mC.mono (show 2 * k+1+1≤2 * (k+1) by omega))
   have HFC:=hid (ZA HF.out i j hne _ _ rfl rfl)
   rw [← HT.out] at HFC
   have q1A:=(HP.out.grown gA (by simp; omega)).cell 1 rfl
   have HBC:Hid (Below bm w wC):=hid ((kF.out.grown gA (by omega) (fun j hj=>by cases hj; omega)).grown gC (by have:=gA.size; omega) (fun j hj=>by cases hj; omega))
   have hsA:pb<wA.heap.size:=by have:=gA.size; omega
   clear mA mC gA gC HMp kF HF hx0 hy0
   generalize nI (G.take k) (i:Int)=x at *
   generalize nI (G.take k) (j:Int)=y at *
   have W1:IntKind.i64.wrap ((x:Int)+1)=(x:Int)+1:=IntWalk.i64_in _ (by omega)
   have W2:IntKind.i64.wrap ((y:Int)+1)=(y:Int)+1:=IntWalk.i64_in _ (by omega)
   clear hlx hly
   go_wp2_with fail
   go_roundw
   case rel=>exact ⟨k+1,_,_,_,rfl,rfl,by omega,by go_num,HMC,HFC,HBC⟩
   case measure=>simp [intOf]; omega
  ·obtain rfl:k=G.length:=by omega
   rw [List.take_length] at HF
   rcases acX.out with ⟨rfl,-,-⟩ | ⟨i,hin,rfl,-,aoH,-,-⟩
   ·have HBE:=HB
    have HFE:=HF
    obtain ⟨D,hown,ha⟩:=HM.out
    go_wp2_with (at_range; refine wpList_range_own _ rfl _ 188 rfl 3 3 vI Tryz.underlying188 _ bm (2 * G.length) D rfl hown ?_; intro w0 hrg0 hg0 hs0)
    try go_frame
    have HRg:=hid hrg0
    have HB3:=hid (Below.grown HBE.out hg0 (by have:=HBE.out.size; omega) (fun q hq=>by cases hq))
    have UK:=hid (HBL.out _ HFE.out)
    have HA:=hid ha
    obtain ⟨r,hr⟩:∃ r,r=wr.heap.size:=⟨_,rfl⟩
    have aoJ:bm<r:=by rw [hr]; exact hown.lt
    rw [← hr] at HRg ⊢
    clear hrg0 hg0 hs0 hown ha hr
    go_loopw [12,14] (fun v12 v14 wr=>∃ (left:Lit→Bool) (kN:Nat) (ZC:Value),ZC=v14∧v12=.bool false∧Hid (wr.ranges Tryz.prog 3 (plainElem Tryz.prog 3) bm r (2 * G.length) D left kN)∧Hid (Below bm w wr)) (fun _ _ wr=>wr.rangeLeft bm r)
    case atStart=>exact ⟨_,_,_,rfl,rfl,HRg,HB3⟩
    case round =>
     obtain ⟨left,kN,ZC,rfl,rfl,uT,bn⟩:=hrel
     have hrg:=uT.out
     go_wp2_with (at_next; refine wpList_next_ranges_ii _ rfl _ rfl 3 3 .i64 .i64 vI Tryz.underlying3 Tryz.underlying3 bm r (2 * G.length) _ _ _ rfl hrg ?_ ?_)
     ·intro _ _
      clear hrg
      go_wp2_with fail
      go_ret
      exact ⟨rfl,bn.out.mono (by omega)⟩
     ·intro x c w1 cnt1 hwx hwc hlx hat hrg1 hlt hg1 hs1 hen
      have hc1:c≤1:=by
       have h1:=hat (.lit (.int .i64 0))
       rw [HA.out (.int .i64 x) _ (keyOf_int_mk Tryz.underlying3 hwx)] at h1
       simp only [DataW.lit.injEq,Lit.int.injEq,true_and] at h1
       rw [← h1]
       exact UK.out x
      have hRn:=hid hrg1
      have fM:=hid (bn.out.grown hg1 (by have:=bn.out.size; omega) (fun q hq=>by cases hq; omega))
      have IV:=hid (show w1.rangeLeft bm r<wr.rangeLeft bm r by rw [hrg1.left_eq,hrg.left_eq]; exact hlt)
      clear hrg hrg1 hg1 hs1 hat hlt hlx hwx hwc
      go_wp2_with fail
      go_roundw
      case rel=>exact ⟨_,_,_,rfl,by simp <;> omega,hRn,fM⟩
      case measure=>exact IV.out
   ·have kI:=yU (a:=(i:Int)) (by omega) (by omega)
    have l1:=(HM.out.look vI Tryz.underlying188 Tryz.underlying3 (Bd _) kI).1
    have hx0:=HF.out (i:Int)
    rw [if_neg (by omega),Int.add_zero] at hx0
    rw [hx0] at l1
    have hlx:=Aj (i:Int) G
    obtain ⟨wA,rA,mA,gA⟩:=HM.out.store vI Tryz.underlying188 Tryz.underlying3 (by unfold maxLen; omega) kI (v:=(nI G (i:Int):Nat)+1) (WalkArith.wf_i64 (by omega))
    have HFE:=hid (ZB HF.out i _ rfl)
    have HBE:=hid (HB.out.grown gA (by omega) (fun j hj=>by cases hj; omega))
    obtain ⟨g2,o2,ha2,-,hpc⟩:=kZ.some (iC.below HS.out HB.out (by omega)) (by omega)
    cases ha2
    obtain ⟨vo,-,-,-,cb,-⟩:=hpc i hin
    rw [aoH] at cb
    obtain ⟨D,hown,ha⟩:=mA
    clear hpc gA HM HF HB
    generalize hxx:nI G (i:Int)=x at *
    have W1:IntKind.i64.wrap ((x:Int)+1)=(x:Int)+1:=IntWalk.i64_in _ (by omega)
    clear hxx
    have t1:(i:Int)<(ps.length:Int):=by omega
    have t2:¬ ((i:Int) < -1):=by omega
    have t3:0≤(i:Int):=by omega
    have t4:¬ ps.length≤i:=by omega
    go_wp2_with (at_range; refine wpList_range_own _ rfl _ 188 rfl 3 3 vI Tryz.underlying188 _ bm (2 * G.length+1) D rfl hown ?_; intro w0 hrg0 hg0 hs0)
    try go_frame
    have HRg:=hid hrg0
    have HB3:=hid (Below.grown HBE.out hg0 (by have:=HBE.out.size; omega) (fun q hq=>by cases hq))
    have UK:=hid (HBL.out _ HFE.out)
    have HA:=hid ha
    obtain ⟨r,hr⟩:∃ r,r=wA.heap.size:=⟨_,rfl⟩
    have aoJ:bm<r:=by rw [hr]; exact hown.lt
    rw [← hr] at HRg ⊢
    clear hrg0 hg0 hs0 hown ha hr
    go_loopw [12,14] (fun v12 v14 wr=>∃ (left:Lit→Bool) (kN:Nat) (ZC:Value),ZC=v14∧v12=.bool false∧Hid (wr.ranges Tryz.prog 3 (plainElem Tryz.prog 3) bm r (2 * G.length+1) D left kN)∧Hid (Below bm w wr)) (fun _ _ wr=>wr.rangeLeft bm r)
    case atStart=>exact ⟨_,_,_,rfl,rfl,HRg,HB3⟩
    case round =>
     obtain ⟨left,kN,ZC,rfl,rfl,uT,bn⟩:=hrel
     have hrg:=uT.out
     go_wp2_with (at_next; refine wpList_next_ranges_ii _ rfl _ rfl 3 3 .i64 .i64 vI Tryz.underlying3 Tryz.underlying3 bm r (2 * G.length+1) _ _ _ rfl hrg ?_ ?_)
     ·intro _ _
      clear hrg
      go_wp2_with fail
      go_ret
      exact ⟨rfl,bn.out.mono (by omega)⟩
     ·intro x c w1 cnt1 hwx hwc hlx hat hrg1 hlt hg1 hs1 hen
      have hc1:c≤1:=by
       have h1:=hat (.lit (.int .i64 0))
       rw [HA.out (.int .i64 x) _ (keyOf_int_mk Tryz.underlying3 hwx)] at h1
       simp only [DataW.lit.injEq,Lit.int.injEq,true_and] at h1
       rw [← h1]
       exact UK.out x
      have hRn:=hid hrg1
      have fM:=hid (bn.out.grown hg1 (by have:=bn.out.size; omega) (fun q hq=>by cases hq; omega))
      have IV:=hid (show w1.rangeLeft bm r<wr.rangeLeft bm r by rw [hrg1.left_eq,hrg.left_eq]; exact hlt)
      clear hrg hrg1 hg1 hs1 hat hlt hlx hwx hwc
      go_wp2_with fail
      go_roundw
      case rel=>exact ⟨_,_,_,rfl,by simp <;> omega,hRn,fM⟩
      case measure=>exact IV.out
end Go.Proofs.YteablcielclaeaaGreatDoor
namespace Go.Proofs.YteablcielclaeaaGreatDoor
open Go.ChangeShapes Go.WideShapes Go.ChangeAt Go.RowKit
set_option linter.unusedVariables false
end Go.Proofs.YteablcielclaeaaGreatDoor
