/- Cut, After, Mq2, MtE, RwP, RwQ, RwS, ClaimA, ClaimP, AnS, RwT, RwU, RdP, RdA, RdB, RdC, AnM, RecC, AnN, AnT, AnU, AnV, AnG. -/
import Derived.Test.YteablcielclaeaaGreatDoorC28
import Derived.Test.YteablcielclaeaaGreatDoorC27
import Derived.Lib.SlTrimSet
import Derived.Lib.IndexAny
import Derived.Lib.IndexMore
import Derived.Deep.CutRange
namespace Go.Proofs.YteablcielclaeaaGreatDoor
open Go.ChangeShapes Go.WideShapes Go.ChangeAt Go.RowKit
set_option linter.unusedVariables false
theorem yR:∀ l:List aA,(bT l).length≤l.length
 | []=>by simp [bT]
 | [x]=>by simp [bT]
 | x :: y :: t=>by
  have ih:=yR (y :: t)
  by_cases h:x=y
  ·simp only [bT,if_pos h,List.length_cons] at ih ⊢
   omega
  ·simp only [bT,if_neg h,List.length_cons] at ih ⊢
   omega
theorem Ux {R:au} {p:aV} (K:oK R p):(aW R p).length≤10000:=by
 have h1:=yR (qG (pU R p))
 have h2:(qG (pU R p)).length=(pU R p).length:=List.length_mergeSort _
 have h3:(oU R p).length≤(List.range p.cells.length).length * 6:=qF _ 6 _ (fun s _=>by
  unfold iV
  split
  ·simp
  ·refine Nat.le_trans (List.length_filterMap_le _ _) ?_
   have:=tN K
   have:=K.r.np
   simp; omega)
 have h4:((List.range p.cells.length).flatMap (iP R p)).length≤(List.range p.cells.length).length * 112:=qF _ 112 _ (fun s _=>Aj K.r p s)
 have h5:=K.len
 unfold aW
 have h6:(pU R p).length=(oU R p).length+((List.range p.cells.length).flatMap (iP R p)).length:=by unfold pU; rw [List.length_append]
 simp only [List.length_range] at h3 h4
 omega
theorem Rn {R:au} {p:aV} {m:aA} (K:oK R p) (h:m∈aW R p):aer R p m:=⟨jZ K h,fun h0=>by
 rcases nS h with e | ⟨-,-,e,-⟩
 ·omega
 ·exact e⟩
theorem Yr {R:au} (L:sF R) {p:aV} (K:oK R p) {m:aA} (hm:m∈aW R p):1≤(lu R p (aW R p) m).size∧(lu R p (aW R p) m).size≤20:=by
 rw [← mD]
 rcases nS hm with e | ⟨e,-,-,-⟩
 ·rw [Eh L K hm e]; simp
 ·have F:=jZ K hm
  rw [uF L K hm e]
  have:=Gv K (aW R p) m e (by have:=F.s.2; have:=K.cl; omega)
  rw [← mD] at this
  simp only [List.length_cons,List.length_append]
  split <;> split <;> simp <;> omega
def uG (R:au) (p:aV) (s:ByteArray):Int:=gJ (fun m=>lu R p (aW R p) m == s) (aW R p) 0
def uZ (R:au) (p:aV) (s:ByteArray):Int:=if fB R p≠0 then fB R p else if uG R p s<0 then 13 else 0
def Gw (R:au) (p:aV) (s:ByteArray):aA:=if uZ R p s=0 then (aW R p).getD (uG R p s).toNat default else ⟨0,0,0⟩
abbrev kC:=List UInt8
def bs (l:kC):ByteArray:=⟨l.toArray⟩
def abx (c:UInt8):Bool:=c == 32 || c == 10
def Yt (c:UInt8):Bool:=c == 32 || c == 10 || c == 40 || c == 41 || c == 123 || c == 125
inductive Lex where
 | word (b:kC)
 | cmt (b:kC)
 | opn
 | cls
def Lex.byt:Lex→kC
 | .word b=>b
 | .cmt b=>123 :: (b++[125])
 | .opn=>[40]
 | .cls=>[41]
def Lex.ok:Lex→Prop
 | .word b=>b≠[]∧∀ c∈b,Yt c=false
 | .cmt b=>b≠[]∧∀ c∈b,c≠125
 | _=>True
def Lex.isWord:Lex→Bool
 | .word _=>true
 | _=>false
inductive Ren:List Lex→kC→Prop where
 | nil (b:kC) (hb:∀ c∈b,abx c=true):Ren [] b
 | cons (x:Lex) (l:List Lex) (b s:kC) (hb:∀ c∈b,abx c=true) (hx:x.ok) (h:Ren l s) (hw:x.isWord=true→∀ c t,s=c :: t→Yt c=true):Ren (x :: l) (b++(x.byt++s))
def blank (l:kC):kC:=l.dropWhile abx
def got (c:UInt8) (l:kC):Bool×kC:=
 match blank l with
 | []=>(false,[])
 | x :: t=>if x=c then (true,t) else (false,x :: t)
def Gx:List kC:=[[42],[49,45,48],[48,45,49],[49,47,50]]
structure AO (R:au) (p:aV) (m:aA) (c:ByteArray):Prop where
 opn:dw R p=0
 err:uZ R p (lu R p (aW R p) m)=0
 mv:Gw R p (lu R p (aW R p) m)=m
 dl:∀ x∈(lu R p (aW R p) m).data.toList,Yt x=false
 ne:(lu R p (aW R p) m).data.toList≠[]
 nr:(lu R p (aW R p) m).data.toList∉Gx
 cm:∀ x∈c.data.toList,x≠125
 hd:∀ x u,(lu R p (aW R p) m).data.toList=x :: u→x≠91
mutual
def Jo (R:au) (p:aV):lS→Prop
 | .mk m c ks=>AO R p m c∧oM R (bF R p m) ks
def oM (R:au) (p:aV):List lS→Prop
 | []=>True
 | b :: l=>Jo R p b∧oM R p l
end
theorem Yu {l:List Lex} {b t:kC} (hb:∀ c∈b,abx c=true) (h:Ren l t):Ren l (b++t):=by
 cases h with
 | nil _ h =>
  refine .nil _ (fun c hc=>?_)
  rcases List.mem_append.1 hc with hc | hc
  ·exact hb c hc
  ·exact h c hc
 | cons x l b' s h1 h2 h3 h4 =>
  rw [← List.append_assoc]
  refine .cons x l (b++b') s (fun c hc=>?_) h2 h3 h4
  rcases List.mem_append.1 hc with hc | hc
  ·exact hb c hc
  ·exact h1 c hc
def DlH (s:kC):Prop:=∀ c t,s=c :: t→Yt c=true
def Seg (x:kC) (g:List Lex):Prop:=∀ (rest:List Lex) (s:kC),Ren rest s→DlH s→Ren (g++rest) (x++s)
def ny:List kC→kC
 | []=>[]
 | [x]=>x
 | x :: y :: l=>x++32 :: ny (y :: l)
theorem PO (x:kC) {l:List kC} (h:l≠[]):ny (x :: l)=x++32 :: ny l:=by
 cases l with
 | nil=>exact absurd rfl h
 | cons y l=>rfl
inductive Yv:List kC→List Lex→Prop where
 | nil:Yv [] []
 | cons (x:kC) (g:List Lex) (xs:List kC) (gs:List Lex) (h:Seg x g) (hs:Yv xs gs):Yv (x :: xs) (g++gs)
theorem Yv.join {xs:List kC} {g:List Lex} (h:Yv xs g) (hne:xs≠[]):Seg (ny xs) g:=by
 induction h with
 | nil=>exact absurd rfl hne
 | cons x g xs gs h hs ih =>
  intro rest s hr hd
  cases xs with
  | nil =>
   cases hs
   rw [List.append_nil]
   exact h rest s hr hd
  | cons y l =>
   rw [PO x (by simp),List.append_assoc,List.append_assoc]
   refine h _ _ ?_ (fun c t e=>by obtain ⟨rfl,-⟩:=List.cons.inj e; rfl)
   exact Yu (b:=[32]) (fun c hc=>by rw [List.mem_singleton] at hc; subst hc; rfl) (ih (by simp) rest s hr hd)
def je (R:au) (p:aV) (m:aA) (c:ByteArray):List kC:=(lu R p (aW R p) m).data.toList :: (if c.size=0 then [] else [123 :: (c.data.toList++[125])])
mutual
def yS (R:au) (p:aV):lS→List kC
 | .mk m _ ks=>kU R (bF R p m) ks
def kU (R:au) (p:aV):List lS→List kC
 | []=>[]
 | b :: l=>je R p b.mv b.cm++(jk R p l++yS R p b)
def jk (R:au) (p:aV):List lS→List kC
 | []=>[]
 | b :: l=>(40 :: (ny (je R p b.mv b.cm++yS R p b)++[41])) :: jk R p l
end
end Go.Proofs.YteablcielclaeaaGreatDoor
namespace Go.Proofs.YteablcielclaeaaGreatDoor
set_option linter.unusedVariables false
section
variable {R:au} {l:List aA}
theorem rQ (R:au):∀ (t ms:List aA),runFrom R ms t=0↔∀ j,j<t.length→dG R (ms++t.take j) (t.getD j default)=0
 | [],ms=>by simp [runFrom]
 | m :: t,ms=>by
  rw [runFrom]
  have ih:=rQ R t (ms++[m])
  constructor
  ·intro h j hj
   by_cases e:dG R ms m≠0
   ·rw [if_pos e] at h; exact absurd h e
   rw [if_neg e] at h
   cases j with
   | zero=>simpa using e
   | succ j =>
    have:=ih.1 h j (by simpa using hj)
    simpa using this
  ·intro h
   have h0:=h 0 (by simp)
   simp at h0
   rw [if_neg (by simp [h0])]
   refine ih.2 fun j hj=>?_
   have:=h (j+1) (by simpa using hj)
   simpa using this
theorem aev (h:dA R l=0):aF R=0∧(∀ k,k<l.length→dG R (l.take k) (l.getD k default)=0)∧gZ R (aC R) l∧∀ k,k≤l.length→dA R (l.take k)=0:=by
 unfold dA at h
 by_cases e:aF R=0
 rotate_left
 ·rw [if_pos e] at h; exact absurd h e
 rw [if_neg (by simp [e])] at h
 have hp:=(rQ R l []).1 h
 simp only [List.nil_append] at hp
 refine ⟨e,hp,fun k hk=>?_,fun k hk=>?_⟩
 ·have:=hp k hk
  unfold dG at this
  by_cases e1:dV R (l.take k)≠0
  ·rw [if_pos e1] at this; cases this
  rw [if_neg e1] at this
  by_cases e2:l.getD k default∉aW R (bJ R (l.take k))
  ·rw [if_pos e2] at this; cases this
  ·simpa [bJ] using e2
 ·unfold dA
  rw [if_neg (by simp [e])]
  refine (rQ R (l.take k) []).2 fun j hj=>?_
  simp only [List.nil_append]
  rw [List.length_take] at hj
  have:=hp j (by omega)
  rw [List.take_take,Nat.min_eq_left (by omega),show (l.take k).getD j default=l.getD j default by rw [List.getD_eq_getElem?_getD,List.getD_eq_getElem?_getD,List.getElem?_take,if_pos (by omega)]]
  exact this
end
end Go.Proofs.YteablcielclaeaaGreatDoor
namespace Go.Proofs.YteablcielclaeaaGreatDoor
open Go.ChangeShapes Go.WideShapes Go.ChangeAt Go.RowKit
set_option linter.unusedVariables false
theorem Ro {R:au} {X:iM} (h:dI R X=0):(∀ i,i<X.nodes.length→dQ (aG X.nodes i).comment=0)∧iO X.tags=0∧(0≤X.result∧X.result≤3)∧dQ X.comment=0∧X.tags.length≤10:=by
 obtain ⟨h1,-,h2⟩:=lQ h
 unfold dI at h
 rw [if_neg (by simp [h1])] at h
 split at h
 ·cases h
 rename_i hl
 split at h
 ·rename_i hc; exact absurd h hc
 rename_i ht
 split at h
 ·cases h
 rename_i hs
 split at h
 ·rename_i hc; exact absurd h hc
 rename_i hc
 refine ⟨fun i hi=>?_,Decidable.byContradiction ht,by omega,Decidable.byContradiction hc,by omega⟩
 obtain ⟨ds,hd⟩:=xA _ 0 _ h i (Nat.zero_le _) (by omega)
 unfold dU at hd
 by_cases e:dQ (aG X.nodes i).comment≠0
 ·rw [if_pos e] at hd; exact hd
 ·exact Decidable.byContradiction e
theorem yT {ns:List aX} {p:Int} {k:Nat} (h:k∈lF ns p):k<ns.length∧(aG ns k).parent=p:=by
 unfold lF at h
 rw [List.mem_filter,List.mem_range] at h
 exact ⟨h.1,by simpa using h.2⟩
def trees (X:iM):List lS:=eU X.nodes (X.nodes.length+1) (-1)
theorem Uy {R:au} {X:iM} (h:dI R X=0):(jJ [] (trees X)).length=X.nodes.length:=by
 have hf:=abw (trees X)
 have e:kH (trees X) (-1) []=X.nodes:=Yh h
 rw [e] at hf
 exact hf.len.symm
theorem baB {a b:ByteArray}:(a == b)=true↔a=b:=by
 rw [beq_toListBytes,beq_iff_eq]
 refine ⟨fun h=>?_,fun h=>by rw [h]⟩
 rw [ByteArray.toList_eq,ByteArray.toList_eq] at h
 exact ByteArray.ext (Array.toList_inj.1 h)
theorem Yw {α:Type} [Inhabited α] (f:α→Bool):∀ (l:List α) (k:Int),0≤k→k≤gJ f l k→f (l.getD (gJ f l k - k).toNat default)=true
 | [],k,h0,h=>by unfold gJ at h; omega
 | x :: t,k,h0,h=>by
  unfold gJ at h ⊢
  split
  ·rename_i q
   rw [show (k - k).toNat=0 by omega]
   exact q
  ·rename_i q
   rw [if_neg q] at h
   rcases oz f t (k+1) (by omega) with e | e
   ·omega
   ·have ih:=Yw f t (k+1) (by omega) e.1
    rw [show (gJ f t (k+1) - k).toNat=(gJ f t (k+1) - (k+1)).toNat+1 by omega,List.getD_cons_succ]
    exact ih
theorem Rq {R:au} {p:aV} {m:aA} (he:fB R p=0) (hm:m∈aW R p):uZ R p (lu R p (aW R p) m)=0∧Gw R p (lu R p (aW R p) m)=m:=by
 have hr:aF R=0:=by unfold fB at he; by_cases q:aF R=0; exact q; rw [if_pos q] at he; exact he
 have L:=Jj hr
 have K:=Ig he
 obtain ⟨s,hs⟩:∃ s,s=lu R p (aW R p) m:=⟨_,rfl⟩
 rw [← hs]
 have hany:=qp (fun m=>lu R p (aW R p) m == s) (aW R p) 0 (by omega)
 have h1:(aW R p).any (fun m=>lu R p (aW R p) m == s)=true:=List.any_eq_true.2 ⟨m,hm,by rw [hs]; exact baB.2 rfl⟩
 rw [h1] at hany
 have h0:0≤uG R p s:=by simpa [uG] using hany
 have hre:uZ R p s=0:=by unfold uZ; rw [if_neg (by simp [he]),if_neg (by omega)]
 have hrz:Gw R p s=(aW R p).getD (uG R p s).toNat default:=by unfold Gw; rw [if_pos hre]
 have hrg:=oz (fun m=>lu R p (aW R p) m == s) (aW R p) 0 (by omega)
 have hget:=Yw (fun m=>lu R p (aW R p) m == s) (aW R p) 0 (by omega) h0
 have hrl:(uG R p s).toNat<(aW R p).length:=by unfold uG at h0 ⊢; omega
 rw [Int.sub_zero] at hget
 have hmem:Gw R p s∈aW R p:=by
  rw [hrz,List.getD_eq_getElem?_getD,List.getElem?_eq_getElem hrl]; exact List.getElem_mem hrl
 refine ⟨hre,Yj L K hmem hm ?_⟩
 have h2:=baB.1 hget
 unfold uG at hrz
 rw [hrz,← hs]
 exact h2
theorem Yx {R:au} {p:aV} {m:aA} (he:fB R p=0) (hm:m∈aW R p):(∃ c t,uz (lu R p (aW R p) m)=c :: t∧65≤c∧c≤90)∧(∀ x∈uz (lu R p (aW R p) m),49≤x∧x≤120)∧(uz (lu R p (aW R p) m)).length≤8:=by
 have hr:aF R=0:=by unfold fB at he; by_cases q:aF R=0; exact q; rw [if_pos q] at he; exact he
 have L:=Jj hr
 have K:=Ig he
 have F:=jZ K hm
 obtain ⟨hd1,hd2⟩:=F.d
 have hcl:=K.cl
 have hsq:=pJ K.r hd1 (by omega)
 have hlet:∀ k:Int,0≤k→k<R.pieces.length→65≤(R.pieces.getD k.toNat default).letter.toNat∧(R.pieces.getD k.toNat default).letter.toNat≤90:=fun k h0 h1=>by
  have:=L.rg k.toNat (by omega); omega
 rcases nS hm with e | ⟨e0,e1,e2,-⟩
 ·rw [Eh L K hm e]
  have h1:=hlet m.piece F.k.1 F.k.2
  refine ⟨⟨_,_,rfl,h1⟩,fun x hx=>?_,by simp⟩
  simp only [List.mem_cons,List.not_mem_nil,or_false] at hx
  rcases hx with rfl | rfl | rfl | rfl <;> omega
 ·rw [uF L K hm e0]
  have hk:0≤fH p m∧fH p m<R.pieces.length:=by
   have:=K.cell m.src.toNat
   unfold fH; omega
  have h1:=hlet _ hk.1 hk.2
  have h2:=hlet m.piece F.k.1 F.k.2
  have hsr:=pJ K.r e0 (by omega:m.src<R.width * R.height)
  have hmk:(∀ x∈uz (markT R p (aW R p) m),49≤x∧x≤120)∧(uz (markT R p (aW R p) m)).length≤2:=by
   rcases oI K.r p (aW R p) m e0 (by omega) with ⟨-,h⟩ | ⟨-,h⟩ | ⟨-,h⟩ | h <;> rw [h]
   ·exact ⟨fun x hx=>(List.not_mem_nil hx).elim,by simp⟩
   ·refine ⟨fun x hx=>?_,by simp⟩
    simp only [List.mem_cons,List.not_mem_nil,or_false] at hx
    subst hx; omega
   ·refine ⟨fun x hx=>?_,by simp⟩
    simp only [List.mem_cons,List.not_mem_nil,or_false] at hx
    subst hx; omega
   ·refine ⟨fun x hx=>?_,by simp⟩
    simp only [List.mem_cons,List.not_mem_nil,or_false] at hx
    rcases hx with rfl | rfl <;> omega
  refine ⟨⟨_,_,rfl,h1⟩,fun x hx=>?_,?_⟩
  ·rcases List.mem_cons.1 hx with rfl | hx
   ·omega
   rcases List.mem_append.1 hx with hx | hx
   ·rcases List.mem_append.1 hx with hx | hx
    ·rcases List.mem_append.1 hx with hx | hx
     ·exact hmk.1 x hx
     ·split at hx
      ·rw [List.mem_singleton] at hx; omega
      ·cases hx
    ·simp only [List.mem_cons,List.not_mem_nil,or_false] at hx
     rcases hx with rfl | rfl <;> omega
   ·split at hx
    ·simp only [List.mem_cons,List.not_mem_nil,or_false] at hx
     rcases hx with rfl | rfl <;> omega
    ·cases hx
  ·have:=hmk.2
   simp only [List.length_cons,List.length_append]
   split <;> split <;> simp <;> omega
theorem aby {b:ByteArray} {x:UInt8} (h:x∈b.data.toList):x.toNat∈uz b:=by
 unfold uz; exact List.mem_map_of_mem h
theorem MR (nt:ByteArray) (l:List UInt8):∀ (n k:Nat),jH nt l k n=true→∀ j,k≤j→j<k+n→Ur nt (l.getD j 0)=true
 | 0,k,_,j,h1,h2=>by omega
 | n+1,k,h,j,h1,h2=>by
  rw [jH,Bool.and_eq_true] at h
  by_cases e:j=k
  ·subst e; exact h.1
  ·exact MR nt l n (k+1) h.2 j (by omega) (by omega)
theorem Uz {s nt:ByteArray} (h:kT s nt=true) {x:UInt8} (hx:x∈s.data.toList):32≤x.toNat∧x.toNat≤126∧firstIdx nt x<0:=by
 obtain ⟨j,hj,e⟩:=List.mem_iff_getElem.1 hx
 have h1:=MR nt s.data.toList s.size 0 h j (Nat.zero_le _) (by simpa using hj)
 rw [List.getD_eq_getElem?_getD,List.getElem?_eq_getElem hj,Option.getD_some,e] at h1
 unfold Ur at h1
 simp only [Bool.not_eq_true',Bool.or_eq_false_iff,decide_eq_false_iff_not] at h1
 omega
theorem UA {c:ByteArray} (h:kT c braces=true) (hy:(125:UInt8)∈c.data.toList):False:=by
 have:=(Uz h hy).2.2
 revert this
 decide
theorem ahJ {R:au} {p:aV} {m:aA} {c:ByteArray} (he:fB R p=0) (h0:dw R p=0) (hm:m∈aW R p) (hc:dQ c=0):AO R p m c:=by
 obtain ⟨⟨a,t,hat,ha⟩,h2,h3⟩:=Yx he hm
 have hhead:∃ x u,(lu R p (aW R p) m).data.toList=x :: u∧x.toNat=a:=by
  cases hh:(lu R p (aW R p) m).data.toList with
  | nil=>unfold uz at hat; rw [hh] at hat; cases hat
  | cons x u=>unfold uz at hat; rw [hh] at hat; obtain ⟨e,-⟩:=List.cons.inj hat; exact ⟨x,u,rfl,e⟩
 obtain ⟨x,u,hx,hxa⟩:=hhead
 refine ⟨h0,(Rq he hm).1,(Rq he hm).2,fun y hy=>?_,by rw [hx]; simp,fun hr=>?_,fun y hy=>?_,fun y v hy=>?_⟩
 ·have:=h2 _ (aby hy)
  unfold Yt
  simp only [Bool.or_eq_false_iff,beq_eq_false_iff_ne,ne_eq]
  refine ⟨⟨⟨⟨⟨?_,?_⟩,?_⟩,?_⟩,?_⟩,?_⟩ <;> rintro rfl <;> revert this <;> decide
 ·unfold Gx at hr
  rw [hx] at hr
  simp only [List.mem_cons,List.cons.injEq,List.not_mem_nil,or_false] at hr
  rcases hr with h | h | h | h <;> (obtain ⟨rfl,-⟩:=h; revert hxa; intro hxa; rw [← hxa] at ha; revert ha; decide)
 ·have hp:kT c braces=true:=by
   unfold dQ at hc
   split at hc
   ·cases hc
   ·split at hc
    ·cases hc
    ·rename_i q; simpa using q
  rintro rfl
  exact UA hp hy
 ·rw [hx] at hy
  obtain ⟨rfl,-⟩:=List.cons.inj hy
  rintro rfl
  rw [← hxa] at ha
  revert ha
  decide
theorem Rt {R:au} {p:aV} (g:Nat→lS):∀ l:List Nat,(∀ k∈l,Jo R p (g k))→oM R p (l.map g)
 | [],_=>by rw [List.map_nil,oM]; trivial
 | k :: l,h=>by
  rw [List.map_cons,oM]
  exact ⟨h k (List.mem_cons_self ..),Rt g l (fun j hj=>h j (List.mem_cons_of_mem _ hj))⟩
theorem MV {R:au} {ns:List aX} (hN:rJ R ns ns.length) (hr:aF R=0) (hc:∀ i,i<ns.length→dQ (aG ns i).comment=0):∀ (f:Nat) (p:Int),oM R (bJ R (dX ns p)) (eU ns f p)
 | 0,p=>by rw [eU,oM]; trivial
 | f+1,p=>by
  rw [eU]
  refine Rt _ _ (fun k hk=>?_)
  obtain ⟨hkl,hkp⟩:=yT hk
  have hw:=MK hN.back k hkl
  rw [hkp] at hw
  have hrun:=aev (hN.run k hkl)
  have hlen:(dX ns p).length<(dX ns (k:Int)).length:=by rw [hw]; simp
  have hpl:=hrun.2.1 (dX ns p).length hlen
  have htk:(dX ns (k:Int)).take (dX ns p).length=dX ns p:=by rw [hw]; exact List.take_left
  have hgd:(dX ns (k:Int)).getD (dX ns p).length default=(aG ns k).m:=by rw [hw,List.getD_eq_getElem?_getD]; simp
  rw [htk,hgd] at hpl
  unfold dG at hpl
  by_cases hg:dV R (dX ns p)≠0
  ·rw [if_pos hg] at hpl; cases hpl
  rw [if_neg hg] at hpl
  by_cases hm:(aG ns k).m∉aW R (bJ R (dX ns p))
  ·rw [if_pos hm] at hpl; cases hpl
  have hm':(aG ns k).m∈aW R (bJ R (dX ns p)):=Decidable.byContradiction hm
  have hg':dV R (dX ns p)=0:=Decidable.byContradiction hg
  have h0:dw R (bJ R (dX ns p))=0:=by
   unfold dV at hg'
   split at hg'
   ·cases hg'
   ·exact hg'
  have hK:oK R (bJ R (dX ns p)):=by
   have:=CZ (yw hr) hrun.2.2.1 (dX ns p).length (by omega)
   rw [htk] at this
   exact this
  rw [Jo]
  refine ⟨ahJ (V9 hr hK) h0 hm' (hc k hkl),?_⟩
  have OX:bF R (bJ R (dX ns p)) (aG ns k).m=bJ R (dX ns (k:Int)):=by
   rw [hw]
   unfold bJ
   rw [wP]
  rw [OX]
  exact MV hN hr hc f (k:Int)
theorem UC {R:au} {X:iM} (h:dI R X=0):oM R (aC R) (trees X):=by
 have h1:=MV (lQ h).2.1 (lQ h).1 (Ro h).1 (X.nodes.length+1) (-1)
 rw [Q9 _ _ (by decide)] at h1
 exact h1
def bt (b:ByteArray):kC:=b.data.toList
def UD (t:sO):kC:=91 :: (bt t.key++32 :: 34 :: (bt t.value++[34,93,10]))
def pK (l:List sO):kC:=l.flatMap UD
def UE (n:Int):kC:=Gx.getD n.toNat []
def Em (R:au) (X:iM):List kC:=(if X.comment.size=0 then [] else [123 :: (bt X.comment++[125])])++(kU R (aC R) (trees X)++[UE X.result])
def wH (R:au) (X:iM):kC:=pK X.tags++(ny (Em R X)++[10])
end Go.Proofs.YteablcielclaeaaGreatDoor
namespace Go.Proofs.YteablcielclaeaaGreatDoor
open Go.ChangeShapes Go.WideShapes Go.ChangeAt Go.RowKit
set_option linter.unusedVariables false
def Mx (base:Nat) (w:World):Prop:=∃ (g:Nat) (m:Int),Tryz.prog.globalNamed "internal/bytealg.MaxLen" = some g∧g<base∧w.cell? ⟨g,0,none⟩=some (.int .i64 m)
theorem Mx.below {base:Nat} {w w':World} (h:Mx base w) (hb:Below base w w'):Mx base w':=by
 obtain ⟨g,m,h1,h2,h3⟩:=h
 exact ⟨g,m,h1,h2,by rw [Below.cell hb h2]; exact h3⟩
theorem Mx.mono {base base':Nat} {w:World} (h:Mx base w) (hb:base≤base'):Mx base' w:=by
 obtain ⟨g,m,h1,h2,h3⟩:=h
 exact ⟨g,m,h1,Nat.lt_of_lt_of_le h2 hb,h3⟩
theorem Mx.fr {b:Nat} {w w':World} (h:Mx b w) (hf:Fr (· = b) w w') (hb:b<w.heap.size):Mx b w':=by
 obtain ⟨g,m,h1,h2,h3⟩:=h
 exact ⟨g,m,h1,h2,by rw [World.cell?_of_block (w:=w) (hf.block g (by omega) (show ¬ g=b by omega))]; exact h3⟩
theorem aew (s:ByteArray):(bt s).length=s.size:=Array.length_toList
theorem Ru (l:kC):(bs l).size=l.length:=by simp [bs,ByteArray.size]
set_option maxRecDepth 100000
set_option maxHeartbeats 8000000
variable {R:au} {vp vs ve x0 x1 x2 x3:Value}
end Go.Proofs.YteablcielclaeaaGreatDoor
namespace Go.Proofs.YteablcielclaeaaGreatDoor
open Go.ChangeShapes Go.WideShapes Go.ChangeAt Go.RowKit
set_option linter.unusedVariables false
def ac1 (Q:Exit→Act→World→Prop) (Z:List PanicEntry→World→Prop):Exit→Act→World→Prop
 | .panic c,a,w=>a.defers=[]∧Z c w
 | e,a,w=>Q e a w
theorem ac1.normal {Q:Exit→Act→World→Prop} {Z:List PanicEntry→World→Prop} {a:Act} {w:World} (h:Q .normal a w):ac1 Q Z .normal a w:=h
structure RdH (b:Nat) (R:au) (vp vs ve:Value) (w:World):Prop where
 rd:Held (· = b) w fun w'=>qo w' R vp vs ve
 nm:R.name.size≤maxLen
 re:aF R=0
 mx:Mx b w
 bl:b<w.heap.size
theorem RdH.step {b:Nat} {R:au} {vp vs ve:Value} {w w':World} (h:RdH b R vp vs ve w) (hf:Fr (· = b) w w'):RdH b R vp vs ve w':=
 ⟨h.rd.step hf (iI.refl _ _),h.nm,h.re,h.mx.fr hf h.bl,Nat.lt_of_lt_of_le h.bl hf.size⟩
set_option maxRecDepth 100000
set_option maxHeartbeats 8000000
variable {R:au} {vp vs ve x0 x1 x2 x3:Value}
end Go.Proofs.YteablcielclaeaaGreatDoor
namespace Go.Proofs.YteablcielclaeaaGreatDoor
open Go.ChangeShapes Go.WideShapes Go.ChangeAt Go.RowKit
set_option linter.unusedVariables false
def resV:List Value:=Gx.map fun x=>.string (bs x)
set_option maxRecDepth 100000
set_option maxHeartbeats 8000000
end Go.Proofs.YteablcielclaeaaGreatDoor
namespace Go.Proofs.YteablcielclaeaaGreatDoor
open Go.ChangeShapes Go.WideShapes Go.ChangeAt Go.RowKit
set_option linter.unusedVariables false
structure Keep (base:Nat) (w w':World):Prop where
 size:w.heap.size≤w'.heap.size
 block:∀ k,base≤k→k<w.heap.size→w'.heap[k]?=w.heap[k]?
theorem Keep.refl (base:Nat) (w:World):Keep base w w:=⟨Nat.le_refl _,fun _ _ _=>rfl⟩
theorem Keep.trans {base:Nat} {a b c:World} (h:Keep base a b) (k:Keep base b c):Keep base a c:=
 ⟨Nat.le_trans h.size k.size,fun i h1 h2=>(k.block i h1 (Nat.lt_of_lt_of_le h2 h.size)).trans (h.block i h1 h2)⟩
theorem Keep.mono {base base':Nat} {w w':World} (h:Keep base w w') (hb:base≤base'):Keep base' w w':=⟨h.size,fun k h1 h2=>h.block k (Nat.le_trans hb h1) h2⟩
theorem Keep.set {base:Nat} {a w:World} (h:Keep base a w) {p:Addr} (hp:p.block<base) (u:Value):Keep base a (w.setCell p u):=
 ⟨by simpa using h.size,fun k h1 h2=>(Below.heap_setCell w p u k (by omega)).trans (h.block k h1 h2)⟩
variable {q:Nat→Prop} {tb te:TypeId}
theorem rU {w w':World} {base n sz:Nat} {e:TypeId} {v:Value} {xs:List Value} (h:w.ownsRow base e sz v n xs) (hk:∀ g,v.ownBlock=some g→w'.heap[g]?=w.heap[g]?):w'.ownsRow base e sz v n xs:=by
 refine ⟨h.1,?_⟩
 rcases h.2 with h0 | ⟨g,c,cur,hv,hg,hbk,r⟩
 ·exact .inl h0
 ·exact .inr ⟨g,c,cur,hv,hg,by rw [hk g (by rw [hv]; rfl)]; exact hbk,r⟩
end Go.Proofs.YteablcielclaeaaGreatDoor
namespace Go.Proofs.YteablcielclaeaaGreatDoor
open Go.ChangeShapes Go.WideShapes Go.ChangeAt Go.RowKit
set_option linter.unusedVariables false
open Go.Lib (hid)
theorem UF:(Tryz.prog.info? 68).map (fun i=>(i.zero,i.size,i.bytes))=some (some (.agg #[.int .i64 0,.int .i64 0,.int .i64 0]),3,24):=by kernel_rfl
def PS (ns:List aX) (l:List Nat):List aA:=l.map fun k=>(aG ns k).m
theorem abz (ns:List aX) (n:Int):dX ns n=(PS ns (zO ns n)).reverse:=rfl
set_option maxRecDepth 100000 in
set_option maxHeartbeats 4000000 in
theorem Rw (X:iM) (vt vn:Value) (nd i:Nat) (w:World) (h:Vx w X vt vn) (hb:Back X.nodes i) (hi:i≤X.nodes.length) (hl:nd<i) (hm:X.nodes.length≤1000) :
  Calls Tryz.prog 151 #[vP X vt vn,.int .i64 nd] w fun e w'=>∃ v',e=.returned v'∧w'.ownsRow w.heap.size 68 3 v' (dX X.nodes nd).length (bf (dX X.nodes nd))∧Below w.heap.size w w':=by
 obtain ⟨na,nc,rfl,h1,h2⟩:=h.2.1.form
 unfold maxLen at h2
 have HR:=hid h.2.1
 have HK:=hid hb
 clear h hb
 unfold vP
 go_enter Tryz.func151,Tryz.ntmps151
 go_upto_region 1 with (fail)
 have hb0:=(Box.new' w w.heap.size [vt,.string X.comment,.slice na X.nodes.length nc,.int .i64 X.result] 79 rfl)
 have HB:Hid (Below w.heap.size w (w.alloc (.cells #[vt,.string X.comment,.slice na X.nodes.length nc,.int .i64 X.result] 79))):=hid ((Below.refl w.heap.size w).alloc (Nat.le_refl _) _)
 obtain ⟨bb,hbb⟩:∃ bb,bb=w.heap.size:=⟨_,rfl⟩
 rw [← hbb] at HB hb0 ⊢
 generalize (w.alloc (.cells #[vt,.string X.comment,.slice na X.nodes.length nc,.int .i64 X.result] 79))=w0 at *
 have HX:=hid hb0
 have hw0:=hb0.lt
 have zU:w.heap.size≤bb:=by omega
 have Mc:Hid (w0.ownsRow (bb+1) 68 3 (.slice none 0 0) 0 (bf [])):=hid (World.ownsRow_nil _ _ _ _)
 clear hb0 hbb
 go_wp2_with fail
 go_loopw [6,5] (fun v6 v5 wr=>∃ (n:Int) (ms:List aA) (o5:Value),o5=v5∧v6=.int .i64 n∧n<i∧Hid (PS X.nodes (zO X.nodes nd)=ms++PS X.nodes (zO X.nodes n))∧ms.length+(n+1).toNat≤nd+1∧Hid (wr.ownsRow (bb+1) 68 3 o5 ms.length (bf ms))∧Hid (Below bb w wr)∧Hid (Box wr bb [vt,.string X.comment,.slice na X.nodes.length nc,.int .i64 X.result] 79)) (fun v _ _=>(intOf v+1).toNat)
 case atStart=>exact ⟨nd,[],_,rfl,rfl,by omega,hid rfl,by simp,Mc,HB,HX⟩
 case round =>
  obtain ⟨n,ms,o5,rfl,rfl,hn,HU,hlen,HO,bD,BJ⟩:=hrel
  have hsr:=BJ.out.lt
  by_cases h0:0≤n
  ·obtain ⟨m,rfl⟩:∃ m:Nat,n=(m:Int):=⟨n.toNat,by omega⟩
   obtain ⟨g,o,rfl,hg,hc⟩:=oH HR.out (by omega)
   obtain ⟨e0,e1,e2,e3,-⟩:=hc m (by omega)
   have hgb:g<bb:=by omega
   have c1:=(bD.out.cell (p:=⟨g,o+m * 5+1,none⟩) hgb).trans e1
   have c2:=(bD.out.cell (p:=⟨g,o+m * 5+2,none⟩) hgb).trans e2
   have c3:=(bD.out.cell (p:=⟨g,o+m * 5+3,none⟩) hgb).trans e3
   have sN:=hid e0
   have HC:=hid (rH HK.out m (by omega))
   have hpm:=HK.out m (by omega)
   have ZH:Hid (PS X.nodes (zO X.nodes nd)=(ms++[(aG X.nodes m).m])++PS X.nodes (zO X.nodes (aG X.nodes m).parent)):=hid (by rw [HU.out,HC.out,List.append_assoc]; rfl)
   clear hc HU HC e0 e1 e2 e3
   generalize (aG X.nodes m).parent=p at *
   generalize (aG X.nodes m).m=mv at *
   have hml:(m:Int)<(X.nodes.length:Int):=by omega
   have q2:=BJ.out.cell 2 rfl
   obtain ⟨oa,oc,rfl⟩:=aH HO.out
   have hrs:bb+1≤wr.heap.size:=by omega
   have hgw:g<wr.heap.size:=by omega
   go_wp2_with (at_builtin; refine fU 80 68 (.agg #[.int .i64 0,.int .i64 0,.int .i64 0]) 3 24 UF Tryz.underlying80 rfl (by decide) (by rfl) _ _ (by rfl) (bb+1) _ ms.length (bf ms) [.int .i64 mv.src,.int .i64 mv.dst,.int .i64 mv.piece] wr HO.out hrs rfl jq (by omega) (by omega) (by rfl) (by rfl) ?_)
   intro g3 cap3 w3 hown3 bZ Yy
   have HB3:=hid (bZ.below bD.out (by omega))
   have A8:=hid ((BJ.out.alloc (.cells #[.int .i64 mv.src,.int .i64 mv.dst,.int .i64 mv.piece] 68)).grown Yy (fun e=>by have:=(HO.out.lt bb e.symm).1; omega))
   have qX:Hid (w3.ownsRow (bb+1) 68 3 (.slice (some ⟨g3,0,none⟩) (ms.length+1) cap3) (ms++[mv]).length (bf (ms++[mv]))):=hid (by
    rw [← iF,List.length_append]
    exact hown3)
   have c0:=(HB3.out.cell (p:=⟨g,o+m * 5,none⟩) hgb).trans sN.out
   have q23:=A8.out.cell 2 rfl
   have hg3:g<w3.heap.size:=by have:=A8.out.lt; omega
   have hb3:=A8.out.lt
   clear hown3 bZ Yy q2 c1 c2 c3 sN
   go_wp2_with fail
   go_roundw
   case rel=>exact ⟨p,ms++[mv],_,rfl,rfl,by omega,ZH,by rw [List.length_append]; simp; omega,qX,HB3,A8⟩
   case measure=>simp [intOf]; omega
  ·have ZH:Hid (PS X.nodes (zO X.nodes nd)=ms):=hid (by rw [HU.out,Je X.nodes n (by omega)]; exact List.append_nil _)
   have hne:0<ms.length:=by
    rw [← ZH.out,rH HK.out nd hl]
    simp [PS]
   obtain ⟨G,cc,rfl⟩:=dY HO.out hne
   have alX:=hid (Jb ms G ms.length cc bb w wr (own_base HO.out (Nat.le_succ bb)) bD.out (by omega))
   go_upto_region 7 with (go_at_call 186; refine alX.out.mono ?_; rintro e w5 ⟨rfl,ho5,hb5⟩; have FK:=hid ho5; have wO:=hid hb5; clear ho5 hb5)
   go_wp2_with fail
   go_ret
   refine ⟨_,rfl,?_,wO.out.mono zU⟩
   rw [abz,ZH.out,List.length_reverse]
   exact own_base FK.out zU
def jF (ns:List aX) (p:Int) (k:Nat):List Nat:=(List.range k).filter fun j=>(aG ns j).parent == p
theorem PU (ns:List aX) (p:Int) (k:Nat):jF ns p (k+1)=if (aG ns k).parent=p then jF ns p k++[k] else jF ns p k:=by
 unfold jF
 rw [List.range_succ,List.filter_append,List.filter_cons,List.filter_nil]
 by_cases h:(aG ns k).parent=p
 ·rw [if_pos (by simpa using h),if_pos h]
 ·rw [if_neg (by simpa using h),if_neg h,List.append_nil]
theorem GH (ns:List aX) (p:Int) (k:Nat):(jF ns p k).length≤k:=by
 unfold jF
 exact Nat.le_trans (List.length_filter_le _ _) (by simp)
def nums (l:List Nat):List Int:=l.map fun (k:Nat)=>(k:Int)
theorem UG (l:List Nat) (k:Nat):ints (nums l)++[.int .i64 (k:Int)]=ints (nums (l++[k])):=by rw [nums,nums,List.map_append]; exact gU _ _
set_option maxRecDepth 100000 in
set_option maxHeartbeats 4000000 in
theorem YA (X:iM) (vt vn:Value) (p:Int) (w:World) (h:Vx w X vt vn) (hm:X.nodes.length≤1000) :
  Calls Tryz.prog 103 #[vP X vt vn,.int .i64 p] w fun e w'=>∃ v',e=.returned v'∧w'.ownsRow w.heap.size 3 1 v' (lF X.nodes p).length (ints (nums (lF X.nodes p)))∧Below w.heap.size w w':=by
 obtain ⟨na,nc,rfl,h1,h2⟩:=h.2.1.form
 unfold maxLen at h2
 have HR:=hid h.2.1
 have HKZ:Hid (lF X.nodes p=jF X.nodes p X.nodes.length):=hid rfl
 clear h
 unfold vP
 go_enter Tryz.func103,Tryz.ntmps103
 go_upto_region 1 with (fail)
 have hb0:=(Box.new' w w.heap.size [vt,.string X.comment,.slice na X.nodes.length nc,.int .i64 X.result] 79 rfl)
 have HB:Hid (Below w.heap.size w (w.alloc (.cells #[vt,.string X.comment,.slice na X.nodes.length nc,.int .i64 X.result] 79))):=hid ((Below.refl w.heap.size w).alloc (Nat.le_refl _) _)
 obtain ⟨bb,hbb⟩:∃ bb,bb=w.heap.size:=⟨_,rfl⟩
 rw [← hbb] at HB hb0 ⊢
 generalize (w.alloc (.cells #[vt,.string X.comment,.slice na X.nodes.length nc,.int .i64 X.result] 79))=w0 at *
 have HX:=hid hb0
 have q2:=hb0.cell 2 rfl
 have hw0:=hb0.lt
 have zU:w.heap.size≤bb:=by omega
 have Mc:Hid (w0.ownsRow (bb+1) 3 1 (.slice none 0 0) (jF X.nodes p 0).length (ints (nums (jF X.nodes p 0)))):=hid (World.ownsRow_nil _ _ _ _)
 clear hb0 hbb
 go_wp2_with fail
 go_loopw [11,5] (fun v11 v5 wr=>∃ (k:Nat) (o5:Value),o5=v5∧v11=.int .i64 k∧k≤X.nodes.length∧Hid (wr.ownsRow (bb+1) 3 1 o5 (jF X.nodes p k).length (ints (nums (jF X.nodes p k))))∧Hid (Below bb w wr)∧Hid (Box wr bb [vt,.string X.comment,.slice na X.nodes.length nc,.int .i64 X.result] 79)) (fun v _ _=>X.nodes.length - (intOf v).toNat)
 case atStart=>exact ⟨0,_,rfl,rfl,Nat.zero_le _,Mc,HB,HX⟩
 case round =>
  obtain ⟨k,o5,rfl,rfl,hk,HO,bD,BJ⟩:=hrel
  have hsr:=BJ.out.lt
  by_cases hlt:(k:Int)<(X.nodes.length:Int)
  ·obtain ⟨g,o,rfl,hg,hc⟩:=oH HR.out (by omega)
   obtain ⟨e0,e1,e2,e3,e4,-⟩:=hc k (by omega)
   have hgb:g<bb:=by omega
   have c0:=(bD.out.cell (p:=⟨g,o+k * 5,none⟩) hgb).trans e0
   have c1:=(bD.out.cell (p:=⟨g,o+k * 5+1,none⟩) hgb).trans e1
   have c2:=(bD.out.cell (p:=⟨g,o+k * 5+2,none⟩) hgb).trans e2
   have c3:=(bD.out.cell (p:=⟨g,o+k * 5+3,none⟩) hgb).trans e3
   have c4:=(bD.out.cell (p:=⟨g,o+k * 5+4,none⟩) hgb).trans e4
   have HS:=hid (PU X.nodes p k)
   have hL:=GH X.nodes p k
   clear hc e0 e1 e2 e3 e4
   generalize (aG X.nodes k).parent=q at *
   obtain ⟨oa,oc,rfl⟩:=aH HO.out
   have hgw:g<wr.heap.size:=by omega
   go_upto_region 5 with (fail)
   have UH:=hid (Box.new wr [.int .i64 q,.int .i64 (aG X.nodes k).m.src,.int .i64 (aG X.nodes k).m.dst,.int .i64 (aG X.nodes k).m.piece,.string (aG X.nodes k).comment] 75)
   have Vy:=hid (bD.out.alloc (by omega) (.cells #[.int .i64 q,.int .i64 (aG X.nodes k).m.src,.int .i64 (aG X.nodes k).m.dst,.int .i64 (aG X.nodes k).m.piece,.string (aG X.nodes k).comment] 75))
   have HXa:=hid (BJ.out.alloc (.cells #[.int .i64 q,.int .i64 (aG X.nodes k).m.src,.int .i64 (aG X.nodes k).m.dst,.int .i64 (aG X.nodes k).m.piece,.string (aG X.nodes k).comment] 75))
   have Vs:=hid (HO.out.alloc (.cells #[.int .i64 q,.int .i64 (aG X.nodes k).m.src,.int .i64 (aG X.nodes k).m.dst,.int .i64 (aG X.nodes k).m.piece,.string (aG X.nodes k).comment] 75))
   generalize (wr.alloc (.cells #[.int .i64 q,.int .i64 (aG X.nodes k).m.src,.int .i64 (aG X.nodes k).m.dst,.int .i64 (aG X.nodes k).m.piece,.string (aG X.nodes k).comment] 75))=wa at *
   have n0:=UH.out.cell 0 rfl
   have hnl:=UH.out.lt
   clear bD BJ HO c0 c1 c2 c3 c4
   by_cases hq:q=p
   ·subst hq
    have HS2:Hid (jF X.nodes q (k+1)=jF X.nodes q k++[k]):=hid (HS.out.trans (if_pos rfl))
    clear HS
    have hrs:bb+1≤wa.heap.size:=by omega
    go_wp2_with (at_builtin; refine fU 22 3 (.int .i64 0) 1 8 info3 Tryz.underlying22 rfl (by decide) (by rfl) _ _ (by rfl) (bb+1) _ (jF X.nodes q k).length (ints (nums (jF X.nodes q k))) [.int .i64 (k:Int)] wa Vs.out hrs rfl lX (by omega) (by omega) (by rfl) (by rfl) ?_)
    intro g3 cap3 w3 hown3 bZ Yy
    have HB3:=hid (bZ.below Vy.out (by omega))
    have A8:=hid ((HXa.out.alloc (.cells #[.int .i64 (k:Int)] 3)).grown Yy (fun e=>by have:=(Vs.out.lt bb e.symm).1; omega))
    have qX:Hid (w3.ownsRow (bb+1) 3 1 (.slice (some ⟨g3,0,none⟩) ((jF X.nodes q k).length+1) cap3) (jF X.nodes q (k+1)).length (ints (nums (jF X.nodes q (k+1))))):=hid (by
     rw [HS2.out,← UG,List.length_append]
     exact hown3)
    clear hown3 bZ Yy
    go_wp2_with fail
    go_roundw
    case rel=>exact ⟨k+1,_,rfl,by go_num,by omega,qX,HB3,A8⟩
    case measure=>simp [intOf]; omega
   ·have HS2:Hid (jF X.nodes p (k+1)=jF X.nodes p k):=hid (HS.out.trans (if_neg hq))
    have qX:Hid (wa.ownsRow (bb+1) 3 1 (.slice oa (jF X.nodes p k).length oc) (jF X.nodes p (k+1)).length (ints (nums (jF X.nodes p (k+1))))):=hid (by rw [HS2.out]; exact Vs.out)
    clear HS Vs HS2
    go_wp2_with fail
    go_roundw
    case rel=>exact ⟨k+1,_,rfl,by go_num,by omega,qX,Vy,HXa⟩
    case measure=>simp [intOf]; omega
  ·obtain rfl:k=X.nodes.length:=by omega
   go_wp2_with fail
   go_ret
   exact ⟨_,rfl,by rw [HKZ.out]; exact own_base HO.out (by omega),bD.out.mono zU⟩
end Go.Proofs.YteablcielclaeaaGreatDoor
namespace Go.Proofs.YteablcielclaeaaGreatDoor
open Go.ChangeShapes Go.WideShapes Go.ChangeAt Go.RowKit
set_option linter.unusedVariables false
def En (g:Nat):Value:=.pointer (some ⟨g,0,none⟩)
variable {q:Nat→Prop} {tb te:TypeId}
structure alY (q:Nat→Prop) (tb te:TypeId) (base:Nat) (w:World) (ns:List aX) (ord:Int→List Nat) (A:Nat→Nat) (K:Nat→Value) (k:Nat):Prop where
 lo:base≤A k
 box:Box w (A k) [.int .i64 (aG ns k).m.src,.int .i64 (aG ns k).m.dst,.int .i64 (aG ns k).m.piece,.string (aG ns k).comment,K k] tb
 sz:(aG ns k).comment.size≤maxLen
 row:w.ownsRow base te 1 (K k) (ord (k:Int)).length ((ord (k:Int)).map fun j=>En (A j))
 nil:q (A k)∧∀ g,(K k).ownBlock=some g→q g
end Go.Proofs.YteablcielclaeaaGreatDoor
