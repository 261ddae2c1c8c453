/- A region that draws its order, whose last operations may write what the others read: what only reads is taken first; the condition S holds till the first of the late operations. -/
import Derived.OrdersHeld
import Derived.RegionTactic
import Derived.Deep.RegionHeld3
namespace Go.Proofs.YteablcielclaeaaGreatDoor
set_option linter.unusedVariables false
section
variable {P:Program} {ops:Array Oper} {Q:Exit→Act→World→Prop} {md:Region.Mode} {S:World→Prop} {L:List Nat}
def early (L:List Nat) (listed:Array Bool):Bool:=L.all fun l=>!listed.getD l true
theorem xK {listed:Array Bool} {i:Nat} (h:early L (listed.setIfInBounds i true)=true):early L listed=true:=by
 simp only [early,List.all_eq_true] at h ⊢
 intro l hl
 have:=h l hl
 by_cases e:i=l
 ·subst e
  rcases Nat.lt_or_ge i listed.size with h' | h'
  ·simp [h'] at this
  ·rw [Array.setIfInBounds_eq_of_size_le h'] at this; exact this
 ·rwa [getD_set_ne true e] at this
theorem zG {listed:Array Bool} {i:Nat} (h:early L listed=true) (hi:L.contains i=false):early L (listed.setIfInBounds i true)=true:=by
 simp only [early,List.all_eq_true] at h ⊢
 intro l hl
 rw [getD_set_ne true (fun e=>by subst e; simp at hi; exact hi hl)]
 exact h l hl
def wpAnyL (P:Program) (md:Region.Mode) (ops:Array Oper) (Q:Exit→Act→World→Prop) (S:World→Prop) (L:List Nat):Nat→Array Bool→Act→World→Prop
 | 0,listed,a,w=>Region.ready md ops listed=[]∧Q .normal a w
 | fuel+1,listed,a,w =>
  (Region.ready md ops listed=[]→Q .normal a w) ∧
  ∀ i∈Region.ready md ops listed,wpOp P ops Q i (fun a' w'=>(early L (listed.setIfInBounds i true)=true→S w')∧wpAnyL P md ops Q S L fuel (listed.setIfInBounds i true) a' w') a w
theorem vN:∀ (fuel:Nat) (listed:Array Bool) (a:Act) (w:World),wpAnyL P md ops Q S L fuel listed a w→wpAny P md ops Q fuel listed a w
 | 0,_,_,_,h=>h
 | fuel+1,_,_,_,h=>⟨h.1,fun i hi=>wpOp_mono (fun a' w' h'=>vN fuel _ a' w' h'.2) (h.2 i hi)⟩
def Closed (md:Region.Mode) (ops:Array Oper) (listed:Array Bool):Prop:=
 ∀ k ok,ops[k]?=some ok→listed.getD k false=true→∀ e∈ok.after,Region.binds md e=true→listed.getD e.on false=true
def Ih (md:Region.Mode) (ops:Array Oper) (listed:Array Bool):Bool:=
 (List.range ops.size).all fun k=>!listed.getD k false || match ops[k]? with
  | some ok=>ok.after.all fun e=>!Region.binds md e || listed.getD e.on false
  | none=>true
theorem Tt {listed:Array Bool} (h:Ih md ops listed=true):Closed md ops listed:=by
 intro k ok hk hl e he hb
 have hlt:=(Array.getElem?_eq_some_iff.1 hk).1
 have h1:=List.all_eq_true.1 h k (List.mem_range.2 hlt)
 rw [hk,hl] at h1
 simp only [Bool.not_true,Bool.false_or,Array.all_eq_true_iff_forall_mem] at h1
 have h2:=h1 e he
 rw [hb] at h2
 simpa using h2
theorem OL {listed:Array Bool} {j:Nat} (h:Closed md ops listed) (hj:j∈Region.ready md ops listed):Closed md ops (listed.setIfInBounds j true):=by
 obtain ⟨_,oj,hoj,hall⟩:=mem_ready.1 hj
 intro k ok hk hl e he hb
 by_cases e1:j=k
 ·subst e1
  rw [hoj] at hk
  cases hk
  exact getD_set_true (hall e he hb)
 ·rw [getD_set_ne false e1] at hl
  exact getD_set_true (h k ok hk hl e he hb)
def reaches (md:Region.Mode) (ops:Array Oper) (i:Nat):Nat→Nat→Bool
 | 0,_=>false
 | n+1,j=>match ops[j]? with
  | some oj=>oj.after.any fun e=>Region.binds md e && (e.on == i || reaches md ops i n e.on)
  | none=>false
theorem Au {listed:Array Bool} {i:Nat} (hc:Closed md ops listed) (hi:listed.getD i false=false):∀ (n j:Nat) (oj:Oper),ops[j]?=some oj→reaches md ops i n j=true →
  (∀ e∈oj.after,Region.binds md e=true→listed.getD e.on false=true)→False
 | 0,_,_,_,h,_=>by cases h
 | n+1,j,oj,hoj,h,hall=>by
  simp only [reaches,hoj] at h
  obtain ⟨k,hk,hb⟩:=Array.any_eq_true.1 h
  simp only [Bool.and_eq_true,Bool.or_eq_true,beq_iff_eq] at hb
  have hl:=hall _ (Array.getElem_mem hk) hb.1
  rcases hb.2 with e | e
  ·rw [e,hi] at hl; cases hl
  ·cases ho:ops[(oj.after[k]).on]? with
   | none=>cases n <;> simp [reaches,ho] at e
   | some o'=>exact Au hc hi n _ o' ho e (fun e' he' hb'=>hc _ o' ho hl e' he' hb')
def OM (md:Region.Mode) (ops:Array Oper) (L:List Nat) (i:Nat):Bool:=L.all fun j=>reaches md ops i ops.size j
theorem WM {listed:Array Bool} {i:Nat} (hr:i∈Region.ready md ops listed):listed.getD i false=false:=by
 have h0:=(mem_ready.1 hr).1
 rcases Nat.lt_or_ge i listed.size with h' | h'
 ·simp [h'] at h0 ⊢; exact h0
 ·simp [Array.getElem?_eq_none h']
theorem Gj {listed:Array Bool} {i j:Nat} {oj:Oper} (hr:i∈Region.ready md ops listed) (hall:∀ e∈oj.after,Region.binds md e=true→listed.getD e.on false=true) :
  ∀ e∈oj.after,Region.binds md e=true→e.on≠i:=fun e he hb heq=>by
 have h1:=hall e he hb
 have h0:=(mem_ready.1 hr).1
 rw [heq] at h1
 rcases Nat.lt_or_ge i listed.size with h' | h'
 ·simp [h'] at h0 h1; rw [h0] at h1; cases h1
 ·simp [Array.getElem?_eq_none h'] at h1
theorem wpAnyL_first {i:Nat} {oi:Oper} {v:Value} (hi:ops[i]?=some oi) (hsel:∀ (j:Nat) (o:Oper) cs b,ops[j]?=some o→o.op≠.select cs b)
  (hQ:∀ c a w,Q (.panic c) (a.put oi.dst v) w→Q (.panic c) a w) (hLi:L.contains i=false) (hl:OM md ops L i=true) :
  ∀ (fuel:Nat) (listed:Array Bool) (a:Act) (w:World),
   (∀ j oj,ops[j]?=some oj→j≠i→listed.getD j true=false→(∀ e∈oj.after,Region.binds md e=true→e.on≠i)→oi.apart ops oj=true) →
   i∈Region.ready md ops listed→YieldsIf P ops S oi v a→S w→early L listed=true→Closed md ops listed →
   wpAnyL P md ops Q S L fuel (listed.setIfInBounds i true) (a.put oi.dst v) w→wpAnyL P md ops Q S L (fuel+1) listed a w:=by
 intro fuel
 induction fuel with
 | zero =>
  intro listed a w _ hr hy hS hE hC H
  refine ⟨fun h=>(by rw [h] at hr; cases hr),fun j hj=>?_⟩
  by_cases hji:j=i
  ·subst hji; exact hy.wpOp hi hS ⟨fun _=>hS,H⟩
  ·have:=ready_mono hj hji
   rw [H.1] at this
   cases this
 | succ fuel ih =>
  intro listed a w hfree hr hy hS hE hC H
  refine ⟨fun h=>(by rw [h] at hr; cases hr),fun j hj=>?_⟩
  by_cases hji:j=i
  ·subst hji; exact hy.wpOp hi hS ⟨fun _=>hS,H⟩
  ·have h1:=H.2 j (ready_mono hj hji)
   obtain ⟨hjun,oj,hoj,hall⟩:=mem_ready.1 hj
   have hnot:=Gj (j:=j) hr hall
   have h2:=wpOp_putIf hoj (hfree j oj hoj hji hjun hnot) (fun cs b=>hsel i oi cs b hi) (fun cs b=>hsel j oj cs b hoj) hQ hy h1
   have hfree':∀ k ok,ops[k]?=some ok→k≠i→(listed.setIfInBounds j true).getD k true=false →
     (∀ e∈ok.after,Region.binds md e=true→e.on≠i)→oi.apart ops ok=true:=fun k ok hk hki hun hno=>by
    refine hfree k ok hk hki ?_ hno
    by_cases hjk:j=k
    ·subst hjk; exact hjun
    ·rw [getD_set_ne true hjk] at hun; exact hun
   have hLj:L.contains j=false:=by
    cases hc:L.contains j with
    | false=>rfl
    | true =>
     have hm:j∈L:=by simpa using hc
     exact (Au hC (WM hr) ops.size j oj hoj (List.all_eq_true.1 hl j hm) hall).elim
   have hEj:=zG hE hLj
   refine wpOp_mono (fun a' w' h3=>?_) h2
   obtain ⟨hy',hS',hW'⟩:=h3
   have hSj:early L (listed.setIfInBounds j true)=true→S w':=fun he=>hS' (by rw [Array.setIfInBounds_comm _ _ (Ne.symm hji)]; exact zG he hLi)
   refine ⟨hSj,ih (listed.setIfInBounds j true) a' w' hfree' (ready_mono hr (Ne.symm hji)) hy' (hSj hEj) hEj (OL hC hj) ?_⟩
   rw [Array.setIfInBounds_comm _ _ hji]
   exact hW'
theorem Ii {i:Nat} {oi:Oper} {v:Value} (hi:ops[i]?=some oi) (hsel:∀ (j:Nat) (o:Oper) cs b,ops[j]?=some o→o.op≠.select cs b)
  (hQ:∀ c a w,Q (.panic c) (a.put oi.dst v) w→Q (.panic c) a w) (hLi:L.contains i=false) :
  ∀ (fuel:Nat) (listed:Array Bool) (a:Act) (w:World),
   (∀ j oj,ops[j]?=some oj→j≠i→listed.getD j true=false→(∀ e∈oj.after,Region.binds md e=true→e.on≠i)→oi.apart ops oj=true) →
   i∈Region.ready md ops listed→YieldsIf P ops (fun _=>True) oi v a→(early L listed=true→S w) →
   wpAnyL P md ops Q S L fuel (listed.setIfInBounds i true) (a.put oi.dst v) w→wpAnyL P md ops Q S L (fuel+1) listed a w:=by
 intro fuel
 induction fuel with
 | zero =>
  intro listed a w _ hr hy hS H
  refine ⟨fun h=>(by rw [h] at hr; cases hr),fun j hj=>?_⟩
  by_cases hji:j=i
  ·subst hji; exact hy.wpOp hi trivial ⟨fun he=>hS (xK he),H⟩
  ·have:=ready_mono hj hji
   rw [H.1] at this
   cases this
 | succ fuel ih =>
  intro listed a w hfree hr hy hS H
  refine ⟨fun h=>(by rw [h] at hr; cases hr),fun j hj=>?_⟩
  by_cases hji:j=i
  ·subst hji; exact hy.wpOp hi trivial ⟨fun he=>hS (xK he),H⟩
  ·have h1:=H.2 j (ready_mono hj hji)
   obtain ⟨hjun,oj,hoj,hall⟩:=mem_ready.1 hj
   have hnot:=Gj (j:=j) hr hall
   have h2:=wpOp_putIf hoj (hfree j oj hoj hji hjun hnot) (fun cs b=>hsel i oi cs b hi) (fun cs b=>hsel j oj cs b hoj) hQ hy h1
   have hfree':∀ k ok,ops[k]?=some ok→k≠i→(listed.setIfInBounds j true).getD k true=false →
     (∀ e∈ok.after,Region.binds md e=true→e.on≠i)→oi.apart ops ok=true:=fun k ok hk hki hun hno=>by
    refine hfree k ok hk hki ?_ hno
    by_cases hjk:j=k
    ·subst hjk; exact hjun
    ·rw [getD_set_ne true hjk] at hun; exact hun
   refine wpOp_mono (fun a' w' h3=>?_) h2
   obtain ⟨hy',hS',hW'⟩:=h3
   have hSj:early L (listed.setIfInBounds j true)=true→S w':=fun he=>hS' (by rw [Array.setIfInBounds_comm _ _ (Ne.symm hji)]; exact zG he hLi)
   refine ⟨hSj,ih (listed.setIfInBounds j true) a' w' hfree' (ready_mono hr (Ne.symm hji)) hy' hSj ?_⟩
   rw [Array.setIfInBounds_comm _ _ hji]
   exact hW'
theorem adr {i:Nat} {oi:Oper} {v:Value} {fuel:Nat} {listed:Array Bool} {a:Act} {w:World} (hi:ops[i]?=some oi)
  (hs:Region.noSelect ops=true) (hf:Region.free md ops listed i=true) (hr:(Region.ready md ops listed).contains i=true) (hl:OM md ops L i=true) (hLi:L.contains i=false) (hE:early L listed=true) (hC:Ih md ops listed=true)
  (hQ:∀ c a w,Q (.panic c) (a.put oi.dst v) w→Q (.panic c) a w) (hy:YieldsIf P ops S oi v a) (hS:S w)
  (h:wpAnyL P md ops Q S L fuel (listed.setIfInBounds i true) (a.put oi.dst v) w):wpAnyL P md ops Q S L (fuel+1) listed a w:=
 wpAnyL_first hi (Region.noSelect_spec hs) hQ hLi hl fuel listed a w (Region.free_spec hi hf) (by simpa using hr) hy hS hE (Tt hC) h
theorem ads {i:Nat} {oi:Oper} {v:Value} {fuel:Nat} {listed:Array Bool} {a:Act} {w:World} (hi:ops[i]?=some oi)
  (hs:Region.noSelect ops=true) (hf:Region.free md ops listed i=true) (hr:(Region.ready md ops listed).contains i=true) (hLi:L.contains i=false)
  (hQ:∀ c a w,Q (.panic c) (a.put oi.dst v) w→Q (.panic c) a w) (hy:YieldsIf P ops (fun _=>True) oi v a) (hS:early L listed=true→S w)
  (h:wpAnyL P md ops Q S L fuel (listed.setIfInBounds i true) (a.put oi.dst v) w):wpAnyL P md ops Q S L (fuel+1) listed a w:=
 Ii hi (Region.noSelect_spec hs) hQ hLi fuel listed a w (Region.free_spec hi hf) (by simpa using hr) hy hS h
def aU (P:Program) (md:Region.Mode) (ops:Array Oper) (Q:Exit→Act→World→Prop) (S:World→Prop) (L:List Nat) (fuel:Nat) (listed:Array Bool) (a:Act) (w:World) (rs:List Nat):Prop:=
 ∀ i∈rs,wpOp P ops Q i (fun a' w'=>(early L (listed.setIfInBounds i true)=true→S w')∧wpAnyL P md ops Q S L fuel (listed.setIfInBounds i true) a' w') a w
theorem aU.nil {fuel:Nat} {listed:Array Bool} {a:Act} {w:World}:aU P md ops Q S L fuel listed a w []:=fun _ h=>by cases h
theorem aU.cons {fuel:Nat} {listed:Array Bool} {a:Act} {w:World} {i:Nat} {o:Oper} {rs:List Nat} (ho:ops[i]?=some o)
  (h:∀ K':Act→World→Prop,Shut (∀ a w,S w→(S w→wpAnyL P md ops Q S L fuel (listed.setIfInBounds i true) a w)→K' a w)→if Region.wanted o (yielded ops a.tmps)=true then Oper.wp P o a w K' Q else K' (a.put o.dst undef) w)
  (hs:aU P md ops Q S L fuel listed a w rs):aU P md ops Q S L fuel listed a w (i :: rs):=fun j hj=>by
 rcases List.mem_cons.1 hj with rfl | hj
 ·exact wpOp_step ho (fun K' hK=>h K' (fun a w hS hW=>hK a w ⟨fun _=>hS,hW hS⟩))
 ·exact hs j hj
theorem aU.late {fuel:Nat} {listed:Array Bool} {a:Act} {w:World} {i:Nat} {o:Oper} {rs:List Nat} (ho:ops[i]?=some o) (hL:early L (listed.setIfInBounds i true)=false)
  (h:∀ K':Act→World→Prop,Shut (∀ a w,wpAnyL P md ops Q S L fuel (listed.setIfInBounds i true) a w→K' a w)→if Region.wanted o (yielded ops a.tmps)=true then Oper.wp P o a w K' Q else K' (a.put o.dst undef) w)
  (hs:aU P md ops Q S L fuel listed a w rs):aU P md ops Q S L fuel listed a w (i :: rs):=fun j hj=>by
 rcases List.mem_cons.1 hj with rfl | hj
 ·exact wpOp_step ho (fun K' hK=>h K' (fun a w hW=>hK a w ⟨(fun hc=>by rw [hL] at hc; cases hc),hW⟩))
 ·exact hs j hj
theorem OO {rs:List Nat} {fuel:Nat} {listed:Array Bool} {a:Act} {w:World} (hr:Region.ready md ops listed=rs) (hne:rs≠[])
  (h:aU P md ops Q S L fuel listed a w rs):wpAnyL P md ops Q S L (fuel+1) listed a w:=⟨fun h0=>absurd (hr ▸ h0) hne,hr ▸ h⟩
theorem ahk {listed:Array Bool} {a:Act} {w:World} (hr:Region.ready md ops listed=[]) (h:Q .normal a w):∀ fuel,wpAnyL P md ops Q S L fuel listed a w
 | 0=>⟨hr,h⟩
 | _+1=>⟨fun _=>h,by rw [hr]; simp⟩
theorem bI {id:Nat} {a:Act} {w:World} (hm:P.follows .mixedOrders=true) (hS:S w.drew)
  (h:S w.drew→wpAnyL P .any ops Q S L ops.size (Array.replicate ops.size false) a w.drew):(Code.region id ops true).wp P Q a w:=
 wp_region_any hm (vN _ _ _ _ (h hS))
end
end Go.Proofs.YteablcielclaeaaGreatDoor
