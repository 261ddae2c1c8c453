/- Trees of records, laid flat: their nodes pass the record's check, but for its size and depth. -/
import Derived.Test.YteablcielclaeaaGreatDoorC26
namespace Go.Proofs.YteablcielclaeaaGreatDoor
open Go.ChangeShapes Go.WideShapes Go.ChangeAt Go.RowKit
set_option linter.unusedVariables false
theorem zS (ns r:List aX) (k:Nat) (h:k<ns.length):aG (ns++r) k=aG ns k:=by
 unfold aG; rw [List.getD_eq_getElem?_getD,List.getD_eq_getElem?_getD,List.getElem?_append_left h]
theorem Ej (ns:List aX) (x:aX):aG (ns++[x]) ns.length=x:=by
 unfold aG; rw [List.getD_eq_getElem?_getD,List.getElem?_append_right (Nat.le_refl _),Nat.sub_self]; rfl
theorem Yn (ns r:List aX) (hb:Back ns ns.length):∀ (f:Nat) (n:Int),n<ns.length→JR (ns++r) f n=JR ns f n
 | 0,_,_=>rfl
 | f+1,n,h=>by
  unfold JR
  split
  ·rfl
  ·rename_i h0
   have hk:n.toNat<ns.length:=by omega
   rw [zS ns r _ hk]
   have:=hb _ hk
   rw [Yn ns r hb f _ (by omega)]
theorem Rk (ns r:List aX) (hb:Back ns ns.length) (n:Int) (h:n<ns.length):zO (ns++r) n=zO ns n:=by
 unfold zO; exact Yn ns r hb _ n h
theorem Rl (ns r:List aX) (hb:Back ns ns.length) (q n:Int) (h:n<ns.length):wE (ns++r) q n=wE ns q n:=by
 unfold wE; rw [Rk ns r hb n h]
theorem Yo {ns:List aX} {N:Nat} (hb:Back ns N):∀ (f:Nat) (n:Int) (k:Nat),n<N→k∈JR ns f n→k<N
 | 0,_,_,_,h=>by cases h
 | f+1,n,k,hn,h=>by
  unfold JR at h
  split at h
  ·cases h
  ·rcases List.mem_cons.1 h with rfl | h
   ·omega
   ·have:=hb n.toNat (by omega)
    exact Yo hb f _ k (by omega) h
theorem BK (ns r:List aX) (hb:Back ns ns.length) (n:Int) (h:n<ns.length):dX (ns++r) n=dX ns n:=by
 unfold dX
 rw [Rk ns r hb n h]
 congr 1
 refine List.map_congr_left fun k hk=>?_
 rw [zS ns r k (Yo hb _ n k h hk)]
theorem MO {ns:List aX} {N:Nat} (hb:Back ns N) (hl:∀ k,k<N→-1≤(aG ns k).parent) (k:Nat):∀ (f:Nat) (n:Int),n<N→n.toNat<f→k∈JR ns f n→wE ns (aG ns k).parent n=true
 | 0,_,_,hf,_=>absurd hf (Nat.not_lt_zero _)
 | f+1,n,hn,hf,h=>by
  unfold JR at h
  split at h
  ·cases h
  rename_i h0
  have hp:=hb n.toNat (by omega)
  have hc:=rH hb n.toNat (by omega)
  rw [Int.toNat_of_nonneg (by omega)] at hc
  rcases List.mem_cons.1 h with rfl | h
  ·by_cases hz:(aG ns n.toNat).parent<0
   ·have e:wE ns (aG ns n.toNat).parent n=((zO ns n).any (fun (k:Nat)=>(k:Int) == (aG ns n.toNat).parent) || (aG ns n.toNat).parent == -1):=rfl
    by_cases h1:(aG ns n.toNat).parent = -1
    ·rw [e,h1]; simp
    ·have:=hl n.toNat (by omega); omega
   ·unfold wE
    rw [Bool.or_eq_true,List.any_eq_true]
    refine .inl ⟨(aG ns n.toNat).parent.toNat,?_,by simp; omega⟩
    rw [hc]
    refine List.mem_cons_of_mem _ ?_
    have hc2:=rH hb (aG ns n.toNat).parent.toNat (by omega)
    rw [Int.toNat_of_nonneg (by omega)] at hc2
    rw [hc2]
    exact List.mem_cons_self ..
  ·have ih:=MO hb hl k f _ (by omega) (by
    by_cases hz:(aG ns n.toNat).parent<0
    ·rw [Jc ns _ hz] at h; cases h
    ·omega) h
   unfold wE at ih ⊢
   rw [Bool.or_eq_true,List.any_eq_true] at ih ⊢
   rcases ih with ⟨q,hq,he⟩ | he
   ·exact .inl ⟨q,by rw [hc]; exact List.mem_cons_of_mem _ hq,he⟩
   ·exact .inr he
structure qh (ns:List aX) (ws:List (List aA)):Prop where
 len:ns.length=ws.length
 back:Back ns ns.length
 low:∀ k,k<ns.length→-1≤(aG ns k).parent
 on:∀ k,k<ns.length→wE ns (aG ns k).parent ((k:Int) - 1)=true
 way:∀ k,k<ns.length→dX ns (k:Int)=ws.getD k []
theorem qh.nil:qh [] []:=⟨rfl,fun k h=>absurd h (Nat.not_lt_zero _),fun k h=>absurd h (Nat.not_lt_zero _),fun k h=>absurd h (Nat.not_lt_zero _),fun k h=>absurd h (Nat.not_lt_zero _)⟩
theorem abt {α:Type} (l r:List α) (d:α) (k:Nat) (h:k<l.length):(l++r).getD k d=l.getD k d:=by
 rw [List.getD_eq_getElem?_getD,List.getD_eq_getElem?_getD,List.getElem?_append_left h]
theorem MQ {α:Type} (l:List α) (x d:α):(l++[x]).getD l.length d=x:=by
 rw [List.getD_eq_getElem?_getD,List.getElem?_append_right (Nat.le_refl _),Nat.sub_self]; rfl
def AtP (out:List aX) (p:Int) (pre:List aA):Prop:=-1≤p∧p<out.length∧dX out p=pre∧wE out p ((out.length:Int) - 1)=true
theorem qh.snoc {out:List aX} {ws:List (List aA)} (h:qh out ws) {p:Int} {pre:List aA} (hp:AtP out p pre) (m:aA) (c:ByteArray):qh (out++[⟨p,m,c⟩]) (ws++[pre++[m]]):=by
 obtain ⟨p1,p2,p3,p4⟩:=hp
 have hb:Back (out++[(⟨p,m,c⟩:aX)]) (out++[(⟨p,m,c⟩:aX)]).length:=by
  intro k hk
  rw [List.length_append] at hk
  by_cases e:k<out.length
  ·rw [zS out _ k e]; exact h.back k e
  ·have ek:k=out.length:=by have:k<out.length+1:=hk; omega
   subst ek
   rw [Ej]; exact p2
 have cs:∀ k,k<(out++[(⟨p,m,c⟩:aX)]).length→k<out.length∨k=out.length:=fun k hk=>by rw [List.length_append] at hk; have:k<out.length+1:=hk; omega
 refine ⟨by rw [List.length_append,List.length_append,h.len]; rfl,hb,fun k hk=>?_,fun k hk=>?_,fun k hk=>?_⟩
 ·rcases cs k hk with e | rfl
  ·rw [zS out _ k e]; exact h.low k e
  ·rw [Ej]; exact p1
 ·rcases cs k hk with e | rfl
  ·rw [zS out _ k e,Rl out _ h.back _ _ (by omega)]; exact h.on k e
  ·rw [Ej,Rl out _ h.back _ _ (by omega)]; exact p4
 ·rcases cs k hk with e | rfl
  ·rw [BK out _ h.back _ (by omega),abt ws _ _ k (by rw [← h.len]; exact e)]; exact h.way k e
  ·rw [MK hb out.length (by rw [List.length_append]; show out.length<out.length+1; omega),Ej,BK out _ h.back _ p2,p3,h.len,MQ]
mutual
theorem zT:∀ (l:List lS) (p:Int) (out:List aX),∃ r,kH l p out=out++r
 | [],p,out=>⟨[],by rw [kH,List.append_nil]⟩
 | b :: l,p,out=>by
  obtain ⟨r1,h1⟩:=Uw b p out
  obtain ⟨r2,h2⟩:=zT l p (out++r1)
  exact ⟨r1++r2,by rw [kH,h1,h2,List.append_assoc]⟩
theorem Uw:∀ (b:lS) (p:Int) (out:List aX),∃ r,wG b p out=out++r
 | .mk m c ks,p,out=>by
  obtain ⟨r,h⟩:=zT ks (out.length:Int) (out++[⟨p,m,c⟩])
  exact ⟨[⟨p,m,c⟩]++r,by rw [wG,h,List.append_assoc]⟩
end
mutual
theorem abu {PB:lS→Prop} {PL:List lS→Prop} (h1:∀ m c ks,PL ks→PB (.mk m c ks)) (h2:PL []) (h3:∀ b l,PB b→PL l→PL (b :: l)):∀ b,PB b
 | .mk m c ks=>h1 m c ks (BL h1 h2 h3 ks)
theorem BL {PB:lS→Prop} {PL:List lS→Prop} (h1:∀ m c ks,PL ks→PB (.mk m c ks)) (h2:PL []) (h3:∀ b l,PB b→PL l→PL (b :: l)):∀ l,PL l
 | []=>h2
 | b :: l=>h3 b l (abu h1 h2 h3 b) (BL h1 h2 h3 l)
end
def ahI (b:lS):Prop:=∀ (p:Int) (pre:List aA) (out:List aX) (ws:List (List aA)),qh out ws→AtP out p pre→qh (wG b p out) (ws++Ec pre b)∧AtP (wG b p out) p pre
def abv (l:List lS):Prop:=∀ (p:Int) (pre:List aA) (out:List aX) (ws:List (List aA)),qh out ws→AtP out p pre→qh (kH l p out) (ws++jJ pre l)∧AtP (kH l p out) p pre
theorem aeu (m:aA) (c:ByteArray) (ks:List lS) (ih:abv ks):ahI (.mk m c ks):=by
 intro p pre out ws h hp
 have h1:=h.snoc hp m c
 have hl:(out++[(⟨p,m,c⟩:aX)]).length=out.length+1:=by rw [List.length_append]; rfl
 have hw:dX (out++[⟨p,m,c⟩]) (out.length:Int)=pre++[m]:=by rw [h1.way out.length (by omega),h.len,MQ]
 have hon:wE (out++[⟨p,m,c⟩]) (out.length:Int) (((out++[(⟨p,m,c⟩:aX)]).length:Int) - 1)=true:=by
  rw [hl,show ((out.length+1:Nat):Int) - 1=(out.length:Int) by omega]
  have hc:=rH h1.back out.length (by omega)
  unfold wE
  rw [hc,Bool.or_eq_true,List.any_eq_true]
  exact .inl ⟨out.length,List.mem_cons_self ..,beq_self_eq_true _⟩
 have hat:AtP (out++[⟨p,m,c⟩]) (out.length:Int) (pre++[m]):=⟨by omega,by omega,hw,hon⟩
 have hab:=ih (out.length:Int) (pre++[m]) (out++[⟨p,m,c⟩]) _ h1 hat
 obtain ⟨r,hr⟩:=zT ks (out.length:Int) (out++[⟨p,m,c⟩])
 rw [wG,Ec]
 rw [List.append_assoc] at hab
 have hlow:∀ k,k<out.length+1→aG (kH ks (out.length:Int) (out++[⟨p,m,c⟩])) k=aG (out++[⟨p,m,c⟩]) k:=fun k hk=>by rw [hr,zS _ _ k (by omega)]
 have alV:dX (kH ks (out.length:Int) (out++[⟨p,m,c⟩])) p=dX out p:=by rw [hr,BK _ _ h1.back _ (by have:=hp.2.1; omega),BK out _ h.back _ hp.2.1]
 generalize kH ks (out.length:Int) (out++[⟨p,m,c⟩])=res at *
 obtain ⟨a,b1,b2,b3,b4⟩:=hab
 refine ⟨a,hp.1,?_,alV.trans hp.2.2.1,?_⟩
 ·have:=hp.2.1; omega
 ·unfold wE at b4
  rw [Bool.or_eq_true,List.any_eq_true] at b4
  rcases b4 with ⟨k,hk,he⟩ | he
  ·simp only [beq_iff_eq] at he
   have ek:k=out.length:=by omega
   subst ek
   have ht:=MO a.back a.low out.length _ _ (by omega) (by omega) hk
   have hn:(aG res out.length).parent=p:=by rw [hlow _ (by omega),Ej]
   rwa [hn] at ht
  ·simp only [beq_iff_eq] at he; omega
theorem Yp (b:lS) (l:List lS) (h1:ahI b) (h2:abv l):abv (b :: l):=by
 intro p pre out ws h hp
 obtain ⟨a1,a2⟩:=h1 p pre out ws h hp
 obtain ⟨b1,b2⟩:=h2 p pre _ _ a1 a2
 rw [kH,jJ,← List.append_assoc]
 exact ⟨b1,b2⟩
theorem Yq:∀ l,abv l:=BL aeu (fun p pre out ws h hp=>by rw [kH,jJ,List.append_nil]; exact ⟨h,hp⟩) Yp
theorem abw (l:List lS):qh (kH l (-1) []) (jJ [] l):=by
 have:=(Yq l (-1) [] [] [] .nil ⟨by decide,by decide,Q9 _ _ (by decide),by unfold wE; simp⟩).1
 rwa [List.nil_append] at this
end Go.Proofs.YteablcielclaeaaGreatDoor
