/- TsStD, TsStK, TsStC, TsStL, TsStM. -/
import Derived.Test.YteablcielclaeaaGreatDoorC36
import Derived.Shelf.SlSortCmp.KitK
namespace Go.Proofs.YteablcielclaeaaGreatDoor
open Go.ChangeShapes Go.WideShapes Go.ChangeAt Go.RowKit
set_option linter.unusedVariables false
open Go.Lib (hid)
def cmpL:List Int→List Int→Int
 | a :: s,b :: t=>if ku a b=0 then cmpL s t else ku a b
 | _,_=>0
theorem Ve (xs ys:List Int) (k:Nat) (hl:xs.length=ys.length) (hk:k<xs.length):cmpL (xs.drop k) (ys.drop k)=if ku (xs.getD k 0) (ys.getD k 0)=0 then cmpL (xs.drop (k+1)) (ys.drop (k+1)) else ku (xs.getD k 0) (ys.getD k 0):=by
 rw [List.drop_eq_getElem_cons hk,List.drop_eq_getElem_cons (show k<ys.length by omega),cmpL]
 simp [List.getD,hk,show k<ys.length by omega]
theorem NH (v1 v2:Value) (xs ys:List Int) (w:World) (h1:iJ w v1 xs) (h2:iJ w v2 ys) (hl:ys.length=xs.length) :
  Calls Tryz.prog 70 #[v1,v2] w fun e w'=>e=.returned (.int .i64 (cmpL xs ys))∧w=w':=by
 obtain ⟨a,c,rfl,q1,q2⟩:=h1.form
 obtain ⟨a',c',hv,q3,q4⟩:=h2.form
 rw [hl] at hv q3
 subst hv
 unfold maxLen at q2 q4
 have HX:=hid h1
 have HY:=hid h2
 have HL:=hid hl
 clear h1 h2 hl
 go_enter Tryz.func70,Tryz.ntmps70
 go_wp2_with fail
 go_loop [11] (fun i=>∃ k:Nat,k≤xs.length∧i=.int .i64 k∧Hid (cmpL xs ys=cmpL (xs.drop k) (ys.drop k))) (fun i=>xs.length - (intOf i).toNat)
 case atStart=>exact ⟨0,Nat.zero_le _,rfl,hid rfl⟩
 case round =>
  obtain ⟨k,hk,rfl,HK⟩:=hrel
  by_cases hlt:k<xs.length
  ·obtain ⟨g,o,c1,he,_,_,_,hcell⟩:=HX.out.some (by omega)
   simp only [Value.slice.injEq] at he
   obtain ⟨rfl,_,rfl⟩:=he
   obtain ⟨g',o',c2,he,_,_,_,hcell'⟩:=HY.out.some (by rw [HL.out]; omega)
   rw [HL.out] at he
   simp only [Value.slice.injEq] at he
   obtain ⟨rfl,_,rfl⟩:=he
   have ck:=hcell k hlt
   have ck':=hcell' k (by rw [HL.out]; exact hlt)
   have hlz:(k:Int)<xs.length:=by omega
   have HS:=hid (Ve xs ys k HL.out.symm hlt)
   clear hcell hcell'
   generalize xs.getD k 0=x at *
   generalize ys.getD k 0=y at *
   by_cases hz:ku x y=0
   ·have HS2:=hid (show cmpL xs ys=cmpL (xs.drop (k+1)) (ys.drop (k+1)) by rw [HK.out,HS.out,if_pos hz])
    go_wp2_with (refine (kF _ _ _).mono ?_; rintro e w' ⟨rfl,rfl⟩)
    go_round
    case rel=>exact ⟨k+1,by omega,by go_num,HS2⟩
    case measure=>simp [intOf]; omega
   ·have HS2:=hid (show cmpL xs ys=ku x y by rw [HK.out,HS.out,if_neg hz])
    go_wp2_with (refine (kF _ _ _).mono ?_; rintro e w' ⟨rfl,rfl⟩)
    go_ret
    exact ⟨by rw [HS2.out]; rfl,rfl⟩
  ·obtain rfl:k=xs.length:=by omega
   have HE:=hid (show cmpL xs ys=0 by rw [HK.out,List.drop_length,cmpL]; intro a s b t h; cases h)
   go_wp2_with fail
   go_ret
   exact ⟨by rw [HE.out]; rfl,rfl⟩
structure dO where
 pl:Int
 pts:Int
 b0:Int
 b1:Int
 b2:Int
 b3:Int
 fr:Int
 tq:Int
deriving Inhabited
def encR (r:dO):List Value:=[.int .i64 r.pl,.int .i64 r.pts,.int .i64 r.b0,.int .i64 r.b1,.int .i64 r.b2,.int .i64 r.b3,.int .i64 r.fr,.int .i64 r.tq]
def Bh (x y:dO):Int:=FM [ku y.pts x.pts,cmpL [y.b0,y.b1,y.b2,y.b3] [x.b0,x.b1,x.b2,x.b3]]
theorem Zr {w:World} {b:Nat} {v0 v1 v6 v7:Value} {b0 b1 b2 b3:Int} {t:TypeId} (h:Box w b [v0,v1,.int .i64 b0,.int .i64 b1,.int .i64 b2,.int .i64 b3,v6,v7] t):iJ w (.slice (some ⟨b,2,none⟩) 4 4) [b0,b1,b2,b3]:=by
 refine ⟨rfl,.inr ⟨b,2,4,rfl,Nat.le_refl _,by unfold maxLen; decide,fun i hi=>?_⟩⟩
 have hi':i=0∨i=1∨i=2∨i=3:=by simp at hi; omega
 rcases hi' with rfl | rfl | rfl | rfl
 ·exact h.cell 2 rfl
 ·exact h.cell 3 rfl
 ·exact h.cell 4 rfl
 ·exact h.cell 5 rfl
theorem aiQ {w w':World} {x y:Int} (h:w'=(w.alloc (.cells #[.int .i64 x,.int .i64 y] 3)).drew):iJ w' (.slice (some ⟨w.heap.size,0,none⟩) 2 2) [x,y]:=by
 subst h
 refine ⟨rfl,.inr ⟨w.heap.size,0,2,rfl,Nat.le_refl _,by unfold maxLen; decide,fun i hi=>?_⟩⟩
 have hi':i=0∨i=1:=by simp at hi; omega
 have hb:=Box.new w [.int .i64 x,.int .i64 y] 3
 have hb':Box (w.alloc (.cells #[.int .i64 x,.int .i64 y] 3)).drew w.heap.size [.int .i64 x,.int .i64 y] 3:=hb
 rcases hi' with rfl | rfl
 ·exact hb'.cell 0 rfl
 ·exact hb'.cell 1 rfl
set_option maxRecDepth 100000 in
set_option maxHeartbeats 1000000 in
theorem Ho (x y:dO) (W:World):Calls Tryz.prog 28 #[.agg (encR x).toArray,.agg (encR y).toArray] W fun e w'=>e=.returned (.int .i64 (Bh x y))∧∃ q os',w'=Sort.grow (W.drewN q) os':=by
 have HO:Hid (Bh x y=FM [ku y.pts x.pts,cmpL [y.b0,y.b1,y.b2,y.b3] [x.b0,x.b1,x.b2,x.b3]]):=hid rfl
 unfold encR
 go_enter Tryz.func28,Tryz.ntmps28
 go_upto_region 1 with (fail)
 have bx:=(Box.new W [.int .i64 x.pl,.int .i64 x.pts,.int .i64 x.b0,.int .i64 x.b1,.int .i64 x.b2,.int .i64 x.b3,.int .i64 x.fr,.int .i64 x.tq] 41).alloc (.cells #[.int .i64 y.pl,.int .i64 y.pts,.int .i64 y.b0,.int .i64 y.b1,.int .i64 y.b2,.int .i64 y.b3,.int .i64 y.fr,.int .i64 y.tq] 41)
 have by':Box ((W.alloc (.cells #[.int .i64 x.pl,.int .i64 x.pts,.int .i64 x.b0,.int .i64 x.b1,.int .i64 x.b2,.int .i64 x.b3,.int .i64 x.fr,.int .i64 x.tq] 41)).alloc (.cells #[.int .i64 y.pl,.int .i64 y.pts,.int .i64 y.b0,.int .i64 y.b1,.int .i64 y.b2,.int .i64 y.b3,.int .i64 y.fr,.int .i64 y.tq] 41)) (W.heap.size+1) [.int .i64 y.pl,.int .i64 y.pts,.int .i64 y.b0,.int .i64 y.b1,.int .i64 y.b2,.int .i64 y.b3,.int .i64 y.fr,.int .i64 y.tq] 41:=by
  have:=Box.new (W.alloc (.cells #[.int .i64 x.pl,.int .i64 x.pts,.int .i64 x.b0,.int .i64 x.b1,.int .i64 x.b2,.int .i64 x.b3,.int .i64 x.fr,.int .i64 x.tq] 41)) [.int .i64 y.pl,.int .i64 y.pts,.int .i64 y.b0,.int .i64 y.b1,.int .i64 y.b2,.int .i64 y.b3,.int .i64 y.fr,.int .i64 y.tq] 41
  rw [World.size_alloc] at this
  exact this
 generalize hw0:((W.alloc (.cells #[.int .i64 x.pl,.int .i64 x.pts,.int .i64 x.b0,.int .i64 x.b1,.int .i64 x.b2,.int .i64 x.b3,.int .i64 x.fr,.int .i64 x.tq] 41)).alloc (.cells #[.int .i64 y.pl,.int .i64 y.pts,.int .i64 y.b0,.int .i64 y.b1,.int .i64 y.b2,.int .i64 y.b3,.int .i64 y.fr,.int .i64 y.tq] 41))=w0 at bx by' ⊢
 have HW:=hid hw0.symm
 clear hw0
 have Bx:Box w0.drew W.heap.size [.int .i64 x.pl,.int .i64 x.pts,.int .i64 x.b0,.int .i64 x.b1,.int .i64 x.b2,.int .i64 x.b3,.int .i64 x.fr,.int .i64 x.tq] 41:=bx
 have By:Box w0.drew (W.heap.size+1) [.int .i64 y.pl,.int .i64 y.pts,.int .i64 y.b0,.int .i64 y.b1,.int .i64 y.b2,.int .i64 y.b3,.int .i64 y.fr,.int .i64 y.tq] 41:=by'
 clear bx by'
 refine wp_region_noPanic ?_
 refine bU (S:=(fun w'=>w'.cell? ⟨W.heap.size,1,none⟩=some (.int .i64 x.pts)∧w'.cell? ⟨W.heap.size+1,1,none⟩=some (.int .i64 y.pts))) (L:=[]) (by kernel_rfl) ⟨Bx.cell 1 rfl,By.cell 1 rfl⟩ (fun hHeld=>?_)
 refine aJ 0 ?_
 refine aJ 2 ?_
 refine aJ 5 ?_
 refine aJ 7 ?_
 refine eH 1 ?_
 refine eH 3 ?_
 refine aJ 6 ?_
 refine aJ 8 ?_
 refine gI 4 fun K hK=>?_
 go_simp
 refine (kF _ _ _).mono ?_
 rintro e w' ⟨rfl,rfl⟩
 refine hK.out _ _ ⟨Bx.cell 1 rfl,By.cell 1 rfl⟩ (fun hHeld=>?_)
 clear hK K
 refine gI 9 fun K hK=>?_
 go_simp
 refine (NH _ _ _ _ _ (Zr By) (Zr Bx) rfl).mono ?_
 rintro e w' ⟨rfl,rfl⟩
 refine hK.out _ _ ⟨Bx.cell 1 rfl,By.cell 1 rfl⟩ (fun hHeld=>?_)
 clear hK K
 refine gI 10 fun K hK=>?_
 go_simp
 refine Kw ?_
 intro w9 e9
 have Bx9:Box w9 W.heap.size [.int .i64 x.pl,.int .i64 x.pts,.int .i64 x.b0,.int .i64 x.b1,.int .i64 x.b2,.int .i64 x.b3,.int .i64 x.fr,.int .i64 x.tq] 41:=by rw [e9]; exact Bx.alloc _
 have By9:Box w9 (W.heap.size+1) [.int .i64 y.pl,.int .i64 y.pts,.int .i64 y.b0,.int .i64 y.b1,.int .i64 y.b2,.int .i64 y.b3,.int .i64 y.fr,.int .i64 y.tq] 41:=by rw [e9]; exact By.alloc _
 have Z9:=hid (aiQ e9)
 have E9:=hid e9
 clear e9
 refine hK.out _ _ ⟨Bx9.cell 1 rfl,By9.cell 1 rfl⟩ (fun hHeld=>?_)
 clear hK K
 refine gI 11 fun K hK=>?_
 go_simp
 refine (Wn _ _ _ Z9.out (by simp)).mono ?_
 rintro e w' ⟨rfl,rfl⟩
 refine hK.out _ _ ⟨Bx9.cell 1 rfl,By9.cell 1 rfl⟩ (fun hHeld=>?_)
 clear hK K
 refine aJ 12 ?_
 refine kW ?_
 go_wp2_with fail
 go_ret
 exact ⟨rfl,1,#[.cells #[.int .i64 x.pl,.int .i64 x.pts,.int .i64 x.b0,.int .i64 x.b1,.int .i64 x.b2,.int .i64 x.b3,.int .i64 x.fr,.int .i64 x.tq] 41,.cells #[.int .i64 y.pl,.int .i64 y.pts,.int .i64 y.b0,.int .i64 y.b1,.int .i64 y.b2,.int .i64 y.b3,.int .i64 y.fr,.int .i64 y.tq] 41,.cells #[.int .i64 (ku y.pts x.pts),.int .i64 (cmpL [y.b0,y.b1,y.b2,y.b3] [x.b0,x.b1,x.b2,x.b3])] 3],by rw [E9.out,HW.out,acw]⟩
end Go.Proofs.YteablcielclaeaaGreatDoor
namespace Go.Proofs.YteablcielclaeaaGreatDoor
open Go.ChangeShapes Go.WideShapes Go.ChangeAt Go.RowKit Go.Shelf
set_option linter.unusedVariables false
theorem Sj (a b:Int):ku a b<0↔a<b:=by unfold ku; split; · simp [*]
                                      · split <;> simp <;> omega
theorem Sl (a b:Int):ku a b=0↔a=b:=by unfold ku; split; · simp; omega
                                      · split <;> simp <;> omega
theorem aff (a b c:Int):FM [ku a b,c]<0↔a<b∨(a=b∧c<0):=by
  unfold FM FM FM
  have h1:=Sj a b
  have h2:=Sl a b
  split
  · split <;> omega
  · omega
theorem BQ (a b:Int) (s t:List Int):cmpL (a :: s) (b :: t)<0↔a<b∨(a=b∧cmpL s t<0):=by
  rw [cmpL]
  have h1:=Sj a b
  have h2:=Sl a b
  split <;> omega
theorem Zt:cmpL [] []=0:=by rw [cmpL]; intro a s b t h; cases h
theorem JD (x y:dO):Bh x y<0↔y.pts<x.pts∨(y.pts=x.pts∧(y.b0<x.b0∨(y.b0=x.b0∧(y.b1<x.b1∨(y.b1=x.b1∧(y.b2<x.b2∨(y.b2=x.b2∧y.b3<x.b3))))))):=by
  unfold Bh
  rw [aff,BQ,BQ,BQ,BQ,Zt]
  omega
def ZQ:dO→dO→Bool:=ltOf Bh
theorem NI (x y:dO):ZQ x y=true↔Bh x y<0:=by unfold ZQ ltOf; simp
theorem vF (x y:dO):ZQ x y=false↔¬ Bh x y<0:=by unfold ZQ ltOf; simp
theorem Sm:Sort.SWO ZQ where
  irrefl x:=by rw [vF,JD]; omega
  trans x y z h1 h2:=by rw [NI,JD] at *; omega
  ntrans x y z h1 h2:=by rw [vF,JD] at *; omega
theorem ab7 (x y:dO) (h:ZQ x y=false):x.pts≤y.pts:=by rw [vF,JD] at h; omega
def fM (rs:List dO):List Value:=rs.flatMap encR
theorem kJ (rs:List dO):(fM rs).length=rs.length * 8:=by
  induction rs with
  | nil=>rfl
  | cons r t ih =>
    have e:fM (r :: t)=encR r++fM t:=rfl
    rw [e,List.length_append,ih,List.length_cons]
    simp [encR]; omega
theorem JE (xs ys:List dO):fM (xs++ys)=fM xs++fM ys:=by simp [fM]
theorem qW (rs:List dO) (k j:Nat) (hk:k<rs.length) (hj:j<8):(fM rs)[k * 8+j]?=(encR rs[k])[j]?:=by
  induction rs generalizing k with
  | nil=>simp at hk
  | cons r t ih =>
    have e:fM (r :: t)=encR r++fM t:=rfl
    have hl:(encR r).length=8:=rfl
    cases k with
    | zero =>
      rw [e,Nat.zero_mul,Nat.zero_add,List.getElem?_append_left (by omega)]; rfl
    | succ k =>
      rw [e,List.getElem?_append_right (by omega),hl,show (k+1) * 8+j - 8=k * 8+j by omega,ih k (by simpa using hk)]
      rfl
theorem NJ (x:dO):∀ v∈encR x,v.oneCell'=true:=by
  intro v hv
  simp only [encR,List.mem_cons,List.not_mem_nil,or_false] at hv
  rcases hv with rfl | rfl | rfl | rfl | rfl | rfl | rfl | rfl <;> rfl
theorem Hq (rs:List dO):Sort.flatK encR 8 rs.toArray=(fM rs).toArray:=by
  apply Array.ext
  · simp [kJ]
  · intro t h1 h2
    have ht:t<rs.length * 8:=by simpa using h1
    obtain ⟨q,r,hr,rfl⟩:∃ q r,r<8∧t=q * 8+r:=⟨t / 8,t % 8,Nat.mod_lt _ (by decide),by omega⟩
    have hq:q<rs.length:=by omega
    have e1:(q * 8+r) / 8=q:=by omega
    have e2:(q * 8+r) % 8=r:=by omega
    have hg:rs.toArray[q]! = rs[q]:=by
      rw [getElem!_pos _ q (by simpa using hq)]; simp
    have hf:=qW rs q r hq hr
    have hL:(Sort.flatK encR 8 rs.toArray)[q * 8+r]! = (fM rs).toArray[q * 8+r]!:=by
      rw [Sort.get_flatK _ _ _ _ (by simpa using ht),e1,e2,hg]
      simp only [List.getElem!_toArray]
      rw [List.getElem!_eq_getElem?_getD,List.getElem!_eq_getElem?_getD,hf]
    rw [getElem!_pos (Sort.flatK encR 8 rs.toArray) _ h1,getElem!_pos (fM rs).toArray _ h2] at hL
    exact hL
theorem uM {w:World} {g:Nat} {cur:Array Value} {e:TypeId} {vs:List Value} (hb:w.heap[g]?=some (.cells cur e (0,0))) (ht:cur.toList.take vs.length=vs):Sort.Holds id w g 0 vs.toArray:=by
  intro j hj
  have hj':j<vs.length:=by simpa using hj
  refine ⟨?_,by simp [World.frozen?,hb]⟩
  have h1:(cur.toList.take vs.length)[j]?=vs[j]?:=by rw [ht]
  rw [List.getElem?_take_of_lt hj'] at h1
  simp only [World.cell?,hb,Nat.zero_add]
  simp only [Option.isSome_none,Bool.false_eq_true,if_false]
  rw [← Array.getElem?_toList,h1]
  simp [hj']
theorem heap_put {w:World} {g n:Nat} {os:Array Obj} {cur:Array Value} {e:TypeId} {fr:Nat×Nat} (d:Array Value) (hb:w.heap[g]?=some (.cells cur e fr)) :
    (Sort.grow (Sort.putRow id (Sort.ahead w n) g 0 d) os).heap[g]?=some (.cells (Sort.putCells id 0 d cur) e fr):=by
  have hg:g<w.heap.size:=(Array.getElem?_eq_some_iff.1 hb).1
  rw [Sort.heap_grow_old _ _ (by simpa using hg)]
  simp [Sort.putRow,Sort.mapBlock,Sort.ahead,Array.getElem?_modify,hb,Sort.onCells]
theorem Hr {w:World} {g n:Nat} {os:Array Obj} (d:Array Value):w.grownBy (Sort.grow (Sort.putRow id (Sort.ahead w n) g 0 d) os) (some g):=by
  refine ⟨rfl,rfl,rfl,by simp,fun k hk hne=>?_⟩
  rw [Sort.heap_grow_old _ _ (by simpa using hk)]
  have:g≠k:=fun e=>hne (by rw [e])
  simp [Sort.putRow,Sort.mapBlock,Sort.ahead,Array.getElem?_modify,this]
theorem Ht (cur:Array Value) (ts:List Value) (h:ts.length≤cur.size):(Sort.putCells id 0 ts.toArray cur).toList.take ts.length=ts:=by
  apply List.ext_getElem?
  intro j
  by_cases hj:j<ts.length
  · rw [List.getElem?_take_of_lt hj,Array.getElem?_toList]
    simp [Sort.putCells,hj,show j<cur.size by omega]
  · rw [List.getElem?_take_eq_none (by omega),List.getElem?_eq_none (by omega)]
theorem ab8 {w:World} {base g cap n:Nat} {rs rs':List dO} {os:Array Obj} (h:w.ownsRow base 41 8 (.slice (some ⟨g,0,none⟩) rs.length cap) rs.length (fM rs)) (hl:rs'.length=rs.length) :
    (sortWorldK encR 8 w g 0 n rs'.toArray os).ownsRow base 41 8 (.slice (some ⟨g,0,none⟩) rs.length cap) rs.length (fM rs')∧w.grownBy (sortWorldK encR 8 w g 0 n rs'.toArray os) (some g):=by
  rcases h.2 with ⟨h0,_⟩ | ⟨g',cap',cur,hv,hg,hb,hn,hm,hs,ht⟩
  · cases h0
  · simp only [Value.slice.injEq,Option.some.injEq,Addr.mk.injEq,true_and,and_true] at hv
    obtain ⟨rfl,rfl⟩:=hv
    have e:sortWorldK encR 8 w g 0 n rs'.toArray os=Sort.grow (Sort.putRow id (Sort.ahead w n) g 0 (fM rs').toArray) os:=by
      show Sort.grow (Sort.putRow id (Sort.ahead w n) g 0 (Sort.flatK encR 8 rs'.toArray)) os=_
      rw [Hq]
    rw [e]
    refine ⟨⟨by rw [kJ,hl],.inr ⟨g,cap,_,rfl,hg,heap_put _ hb,hn,hm,by simp [Sort.putCells,hs],?_⟩⟩,Hr _⟩
    have h3:=Ht cur (fM rs') (by rw [kJ,hl,hs]; omega)
    rw [kJ,hl] at h3
    exact h3
theorem Hw {w:World} {base g cap:Nat} {rs:List dO} (h:w.ownsRow base 41 8 (.slice (some ⟨g,0,none⟩) rs.length cap) rs.length (fM rs)):Sort.HoldsK encR 8 w g 0 rs.toArray:=by
  rcases h.2 with ⟨h0,_⟩ | ⟨g',cap',cur,hv,hg,hb,hn,hm,hs,ht⟩
  · cases h0
  · simp only [Value.slice.injEq,Option.some.injEq,Addr.mk.injEq,true_and,and_true] at hv
    obtain ⟨rfl,rfl⟩:=hv
    unfold Sort.HoldsK
    rw [Hq]
    exact uM hb (by rw [kJ]; exact ht)
end Go.Proofs.YteablcielclaeaaGreatDoor
namespace Go.Proofs.YteablcielclaeaaGreatDoor
open Go.ChangeShapes Go.WideShapes Go.ChangeAt Go.RowKit
set_option linter.unusedVariables false
open Go.Lib (hid)
def In4 (m:Int) (b0 b1 b2 b3:Int):Prop:=0≤b0∧b0≤m∧0≤b1∧b1≤m∧0≤b2∧b2≤m∧0≤b3∧b3≤m
def four (b0 b1 b2 b3:Int):List Value:=[.int .i64 b0,.int .i64 b1,.int .i64 b2,.int .i64 b3]
theorem Sr {p x:Int} (h0:0≤p) (h1:p≤2) (h2:0≤x) (h3:x≤1200):0≤p * x∧p * x≤2400:=by
 have hp:p=0∨p=1∨p=2:=by omega
 rcases hp with rfl | rfl | rfl <;> omega
def EI (w:World) (e:Ending) (w':World):Prop:=∃ b0 b1 b2 b3,e=.returned (.agg (four b0 b1 b2 b3).toArray)∧Below w.heap.size w w'
set_option maxHeartbeats 4000000 in
theorem Qp (n:Nat) (vg:Value) (gs:List cu) (pl:Int) (w:World) (hg:ED w vg gs) (hgs:gs.length≤600) (h0:1≤n) (h32:n≤32) (hgood:∀ k (hk:k<gs.length),Si n gs[k]) :
  Calls Tryz.prog 26 #[.int .i64 (n:Int),vg,.int .i64 pl] w (EI w):=by
 obtain ⟨a,c,rfl,h1,h2,hcells⟩:=hg.form
 unfold maxLen at h2
 have HG:=hid hcells
 have Zq:=hid hgood
 have HR:=hid hg
 have HC:=hid (fun w1 (h:ED w1 (.slice a gs.length c) gs)=>EH n (.slice a gs.length c) gs w1 h hgs h0 h32 hgood)
 clear hg hcells hgood
 go_enter Tryz.func26,Tryz.ntmps26
 go_wp2_with fail
 have hx0:=hid (Box.new w (four 0 0 0 0) 39)
 have hb0:Below w.heap.size w (w.alloc (.cells (four 0 0 0 0).toArray 39)):=(Below.refl _ w).alloc (Nat.le_refl _) _
 have HP:=hid (HC.out _ (ED.below HR.out hb0 (Nat.le_refl _)))
 go_wp2_with fail
 refine HP.out.mono ?_
 rintro e w1 ⟨v,z,rfl,hown,hz,hb1⟩
 obtain ⟨G,cap,rfl⟩:=dY hown (by omega)
 have hGl:=hown.lt G rfl
 simp only [World.size_alloc] at hGl
 have aiR:Below w.heap.size w w1:=hb0.trans (hb1.mono (by simp))
 have hx1:=hid (hx0.out.stays hb1)
 have HO:=hid (hown.alloc (.cells (four 0 0 0 0).toArray 39))
 have hx2:=hid (Box.new w1 (four 0 0 0 0) 39)
 have hbw2:Below w.heap.size w (w1.alloc (.cells (four 0 0 0 0).toArray 39)):=aiR.alloc aiR.size _
 have hx3:=hid (hx1.out.alloc (.cells (four 0 0 0 0).toArray 39))
 obtain ⟨bo,hbo⟩:∃ bo,bo=w1.heap.size:=⟨_,rfl⟩
 have hs2:(w1.alloc (.cells (four 0 0 0 0).toArray 39)).heap.size=bo+1:=by rw [hbo]; simp
 have HZ:=hid hz
 have hzl:=hz.len
 have amP:Hid (Box (w1.alloc (.cells (four 0 0 0 0).toArray 39)) bo (four 0 0 0 0) 39):=hid (by rw [hbo]; exact hx2.out)
 have HSz:Hid ((w1.alloc (.cells (four 0 0 0 0).toArray 39)).heap.size=bo+1):=hid hs2
 have HBo:Hid (bo=w1.heap.size):=hid hbo
 have HB2:=hid hbw2
 have hGb:G<bo:=by rw [hbo]; omega
 have hwb:w.heap.size<bo:=by rw [hbo]; omega
 clear hbo hs2 hbw2 hx0 hx1 hx2 hown hz
 go_wp2_with fail
 go_loopw [18] (fun i wr=>∃ k:Nat,k≤gs.length∧i=.int .i64 k∧Hid (∃ b0 b1 b2 b3,In4 (2400 * k) b0 b1 b2 b3∧Box wr bo (four b0 b1 b2 b3) 39)∧Below bo (w1.alloc (.cells (four 0 0 0 0).toArray 39)) wr) (fun i _=>gs.length - (intOf i).toNat)
 case atStart=>exact ⟨0,Nat.zero_le _,rfl,hid ⟨0,0,0,0,by unfold In4; omega,amP.out⟩,Below.refl _ _⟩
 case round =>
  obtain ⟨k,hk,rfl,HK,hbl⟩:=hrel
  rw [show w1.heap.size=bo from HBo.out.symm]
  by_cases hlt:k<gs.length
  ·have CY:Below (w1.alloc (.cells (four 0 0 0 0).toArray 39)).heap.size.pred.succ.pred (w1.alloc (.cells (four 0 0 0 0).toArray 39)) wr:=by rw [HSz.out]; exact hbl
   have hbw:Below w.heap.size w wr:=HB2.out.trans (hbl.mono (by omega))
   obtain ⟨gb,o,rfl,hgb,c0,c1,c2⟩:=HG.out k hlt
   have d0:=(hbw.cell (p:=⟨gb,o+k * 3,none⟩) hgb).trans c0
   have d1:=(hbw.cell (p:=⟨gb,o+k * 3+1,none⟩) hgb).trans c1
   have d2:=(hbw.cell (p:=⟨gb,o+k * 3+2,none⟩) hgb).trans c2
   clear c0 c1 c2 CY
   have hsz:bo+1≤wr.heap.size:=by have:=hbl.size; rw [HSz.out] at this; exact this
   have hlz:(k:Int)<gs.length:=by omega
   obtain ⟨r1,r2,r3,r4,r5,r6,r7⟩:=Zq.out k hlt
   obtain ⟨b0,b1,b2,b3,hin,hbx⟩:=HK.out
   obtain ⟨i0,i0',i1,i1',i2,i2',i3,i3'⟩:=hin
   have Vw:=hid hbx
   have e0:wr.cell? ⟨bo,0,none⟩=some (.int .i64 b0):=hbx.cell 0 rfl
   have e1:wr.cell? ⟨bo,1,none⟩=some (.int .i64 b1):=hbx.cell 1 rfl
   have e2:wr.cell? ⟨bo,2,none⟩=some (.int .i64 b2):=hbx.cell 2 rfl
   have e3:wr.cell? ⟨bo,3,none⟩=some (.int .i64 b3):=hbx.cell 3 rfl
   have f0:=hbx.frozen 0
   have f1:=hbx.frozen 1
   have f2:=hbx.frozen 2
   have f3:=hbx.frozen 3
   clear hbx HK
   generalize gs[k]=gk at *
   obtain ⟨x,y,p⟩:=gk
   simp only at *
   obtain ⟨i,rfl⟩:∃ i:Nat,x=(i:Int):=⟨x.toNat,by omega⟩
   obtain ⟨j,rfl⟩:∃ i:Nat,y=(i:Int):=⟨y.toNat,by omega⟩
   have q6:i<n:=by omega
   have q7:j<n:=by omega
   have n1:¬ bo=wr.heap.size:=by omega
   have n2:¬ wr.heap.size=bo:=by omega
   have n5:¬ bo=G:=by omega
   have lb:bo<wr.heap.size:=by omega
   have lG:G<wr.heap.size:=by omega
   have lw:w.heap.size<wr.heap.size:=by omega
   have n6:¬ G=bo:=by omega
   have n7:¬ G=wr.heap.size:=by omega
   have n8:¬ wr.heap.size=G:=by omega
   have k2:wr.cell? ⟨G,i,none⟩=some (.int .i64 (z.getD i 0)):=(hbl.cell (p:=⟨G,i,none⟩) hGb).trans ((HO.out.cellAt i (by omega)).trans (eY _ i (by omega)))
   have k3:wr.cell? ⟨G,j,none⟩=some (.int .i64 (z.getD j 0)):=(hbl.cell (p:=⟨G,j,none⟩) hGb).trans ((HO.out.cellAt j (by omega)).trans (eY _ j (by omega)))
   obtain ⟨m1,m1'⟩:=HZ.out.bnd i
   obtain ⟨m2,m2'⟩:=HZ.out.bnd j
   generalize z.getD i 0=zi at *
   generalize z.getD j 0=zj at *
   have p1:=Sr (p:=p) (x:=zj) r6 r7 m2 (by omega)
   have p2:=Sr (p:=2 - p) (x:=zi) (by omega) (by omega) m1 (by omega)
   by_cases ha:pl=i
   ·subst ha
    have ne1:¬ (i:Int)=(j:Int):=by omega
    obtain ⟨mm,hmm⟩:∃ mm,p * zj=mm:=⟨_,rfl⟩
    rw [hmm] at p1
    by_cases hp:p=2
    ·skip
     go_wp2_with fail
     go_quiet (fail)
     go_wp2_with fail
     go_region
     go_wp2_with fail
     go_region
     go_wp2_with fail
     go_roundw
     case rel=>exact ⟨k+1,by omega,by go_num,hid ⟨b0+zj,b1+2 * zj,b2+1,b3,by unfold In4; push_cast; omega,(((((Vw.out.alloc _).drewN _).set 0 _).set 1 _).set 2 _).drew⟩,(((((below_drewN (hbl.alloc (by omega) _) _)).setCell (Nat.le_refl _) _).setCell (Nat.le_refl _) _).setCell (Nat.le_refl _) _).drew⟩
     case measure=>simp [intOf]; omega
    ·skip
     go_wp2_with fail
     go_quiet (fail)
     go_wp2_with fail
     go_region
     go_wp2_with fail
     go_region
     go_wp2_with fail
     go_roundw
     case rel=>exact ⟨k+1,by omega,by go_num,hid ⟨b0+zj,b1+mm,b2,b3,by unfold In4; push_cast; omega,((((Vw.out.alloc _).drewN _).set 0 _).set 1 _).drew⟩,((((below_drewN (hbl.alloc (by omega) _) _)).setCell (Nat.le_refl _) _).setCell (Nat.le_refl _) _).drew⟩
     case measure=>simp [intOf]; omega
   ·by_cases hb:pl=j
    ·subst hb
     have ne1:¬ (j:Int)=(i:Int):=by omega
     obtain ⟨mm,hmm⟩:∃ mm,(2 - p) * zi=mm:=⟨_,rfl⟩
     rw [hmm] at p2
     by_cases hp:2 - p=2
     ·skip
      go_wp2_with fail
      go_quiet (fail)
      go_wp2_with fail
      go_quiet (fail)
      go_wp2_with fail
      go_region
      go_wp2_with fail
      go_region
      go_wp2_with fail
      go_roundw
      case rel=>exact ⟨k+1,by omega,by go_num,hid ⟨b0+zi,b1+2 * zi,b2+1,b3+1,by unfold In4; push_cast; omega,((((((Vw.out.alloc _).drewN _).set 3 _).set 0 _).set 1 _).set 2 _).drew.drew⟩,((((((below_drewN (hbl.alloc (by omega) _) _)).setCell (Nat.le_refl _) _).setCell (Nat.le_refl _) _).setCell (Nat.le_refl _) _).setCell (Nat.le_refl _) _).drew.drew⟩
      case measure=>simp [intOf]; omega
     ·skip
      go_wp2_with fail
      go_quiet (fail)
      go_wp2_with fail
      go_quiet (fail)
      go_wp2_with fail
      go_region
      go_wp2_with fail
      go_region
      go_wp2_with fail
      go_roundw
      case rel=>exact ⟨k+1,by omega,by go_num,hid ⟨b0+zi,b1+mm,b2,b3+1,by unfold In4; push_cast; omega,(((((Vw.out.alloc _).drewN _).set 3 _).set 0 _).set 1 _).drew.drew⟩,(((((below_drewN (hbl.alloc (by omega) _) _)).setCell (Nat.le_refl _) _).setCell (Nat.le_refl _) _).setCell (Nat.le_refl _) _).drew.drew⟩
      case measure=>simp [intOf]; omega
    ·go_wp2_with fail
     go_quiet (fail)
     go_wp2_with fail
     go_roundw
     case rel=>exact ⟨k+1,by omega,by go_num,hid ⟨b0,b1,b2,b3,by unfold In4; push_cast; omega,(Vw.out.alloc _).drewN _⟩,(below_drewN (hbl.alloc (by omega) _) _)⟩
     case measure=>simp [intOf]; omega
  ·obtain rfl:k=gs.length:=by omega
   obtain ⟨b0,b1,b2,b3,hin,hbx⟩:=HK.out
   have Vw:=hid hbx
   have hbw:Below w.heap.size w wr:=HB2.out.trans (hbl.mono (by omega))
   have hx9:=hid (hx3.out.below hbl hwb)
   clear hbx HK hin
   go_upto_region 17 with (fail)
   refine wp_region_lit ?_
   refine aB (by rfl) 39 (.tmp 8) (by rfl) bo (by rfl) Vw.out Tryz.underlying39 (by rfl) (by kernel_rfl) ?_
   refine aK (vs:=four b0 b1 b2 b3) (by rfl) 39 (.tmp 6) (.tmp 68) (by rfl) w.heap.size (by rfl) (by rfl) hx9.out (by rfl) (by kernel_rfl) (by rfl) ?_
   have HS:=hid (hx9.out.store (vs:=four b0 b1 b2 b3) rfl)
   have Io:=hid (below_setCells hbw (Nat.le_refl _) 0 (four b0 b1 b2 b3))
   generalize wr.setCells w.heap.size 0 (four b0 b1 b2 b3)=wf at *
   go_wp2_with fail
   exact bodyPost_ret (dD rfl (by rfl) HS.out Tryz.underlying39 (by rfl) (by kernel_rfl)) rfl ⟨_,_,_,_,rfl,Io.out⟩
def SortRowsSaid:Prop:=∀ (base g cap:Nat) (rs:List dO) (w:World),1≤rs.length→rs.length<20→w.ownsRow base 41 8 (.slice (some ⟨g,0,none⟩) rs.length cap) rs.length (fM rs) →
 Calls Tryz.prog 27 #[.slice (some ⟨g,0,none⟩) rs.length cap,.func (.func 28) #[] #[]] w fun e w'=>e=.returned (.tuple #[]) ∧
  ∃ ts:List dO,ts.length=rs.length∧ts.Perm rs∧(∀ i j (hi:i<ts.length) (hj:j<ts.length),i<j→ZQ ts[j] ts[i]=false)∧w'.ownsRow base 41 8 (.slice (some ⟨g,0,none⟩) rs.length cap) rs.length (fM ts)∧w.grownBy w' (some g)
def nC (l:List dO) (y:dO):Nat:=(l.filter fun x=>decide (Bh x y<0)).length
def uN (l:List dO) (y:dO):Nat:=(l.filter fun x=>decide (Bh x y=0)).length
theorem xI (l:List dO) (y:dO) (q:Nat) (hq:q<l.length):nC (l.take (q+1)) y=nC (l.take q) y+if Bh l[q] y<0 then 1 else 0:=by
 unfold nC
 rw [List.take_succ_eq_append_getElem hq,List.filter_append,List.length_append]
 congr 1
 by_cases h:Bh l[q] y<0 <;> simp [h]
theorem xJ (l:List dO) (y:dO) (q:Nat) (hq:q<l.length):uN (l.take (q+1)) y=uN (l.take q) y+if Bh l[q] y=0 then 1 else 0:=by
 unfold uN
 rw [List.take_succ_eq_append_getElem hq,List.filter_append,List.length_append]
 congr 1
 by_cases h:Bh l[q] y=0 <;> simp [h]
theorem ab9 (l:List dO) (y:dO) (q:Nat):nC (l.take q) y≤q∧uN (l.take q) y≤q:=by
 unfold nC uN
 exact ⟨Nat.le_trans (List.length_filter_le _ _) (by simp; omega),Nat.le_trans (List.length_filter_le _ _) (by simp; omega)⟩
def jI (l:List dO) (y:dO):dO:={ y with fr:=1+nC l y,tq:=nC l y+uN l y }
structure yY (S T:List dO) (k:Nat) (r:dO):Prop where
 len:T.length=S.length
 done:∀ j (h:j<T.length) (h':j<S.length),j<k→T[j]=jI S S[j]
 here:∀ (h:k<T.length),T[k]=r
 rest:∀ j (h:j<T.length) (h':j<S.length),k<j→T[j]=S[j]
theorem yY.cf {S T:List dO} {k q:Nat} {r:dO} (h:yY S T k r) (hk:k<S.length) (hr:∃ a b,r={ S[k] with fr:=a,tq:=b }) (hq:q<T.length) (hqS:q<S.length) (y:dO):Bh T[q] y=Bh S[q] y:=by
 rcases Nat.lt_trichotomy q k with h1 | h1 | h1
 ·rw [h.done q hq hqS h1]; rfl
 ·subst h1
  obtain ⟨a,b,hr⟩:=hr
  rw [h.here hq,hr]; rfl
 ·rw [h.rest q hq hqS h1]
theorem yY.set {S T:List dO} {k:Nat} {r r':dO} (h:yY S T k r):yY S (T.set k r') k r' where
 len:=by rw [List.length_set]; exact h.len
 done j h1 h2 hj:=by rw [List.getElem_set_ne (by omega)]; exact h.done j (by simpa using h1) h2 hj
 here h1:=by rw [List.getElem_set_self]
 rest j h1 h2 hj:=by rw [List.getElem_set_ne (by omega)]; exact h.rest j (by simpa using h1) h2 hj
theorem vG (T:List dO) (k j:Nat) (hk:k<T.length) (hj:j<8) (v:Value) (r:dO) (hr:(encR T[k]).set j v=encR r):(fM T).set (k * 8+j) v=fM (T.set k r):=by
 apply List.ext_getElem?
 intro t
 by_cases ht:t<T.length * 8
 ·obtain ⟨q,s,hs,rfl⟩:∃ q s,s<8∧t=q * 8+s:=⟨t / 8,t % 8,Nat.mod_lt _ (by decide),by omega⟩
  have hq:q<T.length:=by omega
  rw [qW (T.set k r) q s (by simpa using hq) hs,List.getElem?_set]
  by_cases hqk:k=q
  ·subst hqk
   rw [List.getElem_set_self,← hr,List.getElem?_set]
   by_cases hjs:j=s
   ·subst hjs; simp [kJ]; rw [if_pos (by omega),if_pos (by show j<8; omega)]
   ·rw [if_neg (by omega),if_neg hjs,qW T k s hk hs]
  ·rw [List.getElem_set_ne hqk,if_neg (by omega),qW T q s hq hs]
 ·rw [List.getElem?_eq_none (by simp [kJ]; omega),List.getElem?_eq_none (by simp [kJ]; omega)]
structure NK (n k:Nat) (rs:List dO):Prop where
 len:rs.length=n
 sum:(rs.map (·.pts)).sum=2 * k
 sorted:∀ i j (hi:i<rs.length) (hj:j<rs.length),i<j→ZQ rs[j] rs[i]=false
 fr:∀ i (hi:i<rs.length),rs[i].fr=1+nC rs rs[i]∧rs[i].tq=nC rs rs[i]+uN rs rs[i]
 pb:∀ i (hi:i<rs.length),0≤rs[i].pts∧rs[i].pts≤2 * k
theorem acd (S:List dO) (y z:dO):nC (S.map (jI S)) (jI S z)=nC S z∧uN (S.map (jI S)) (jI S z)=uN S z:=by
 unfold nC uN
 rw [List.filter_map,List.filter_map,List.length_map,List.length_map]
 exact ⟨rfl,rfl⟩
theorem Zu {l l':List Int} (h:l.Perm l'):l.sum=l'.sum:=by
 induction h with
 | nil=>rfl
 | cons x _ ih=>simp [ih]
 | swap x y l=>simp only [List.sum_cons]; omega
 | trans _ _ h1 h2=>exact h1.trans h2
theorem cnt_mono {l:List dO} {y z:dO} (h:∀ x∈l,Bh x y<0→Bh x z<0):nC l y≤nC l z:=by
 unfold nC
 rw [← List.countP_eq_length_filter,← List.countP_eq_length_filter]
 exact List.countP_mono_left (fun x hx hp=>by simpa using h x hx (by simpa using hp))
theorem NK.mono {n k:Nat} {rs:List dO} (h:NK n k rs) (i j:Nat) (hi:i<rs.length) (hj:j<rs.length) (hij:i<j):rs[j].pts≤rs[i].pts∧rs[i].fr≤rs[j].fr:=by
 have hs:=h.sorted i j hi hj hij
 refine ⟨ab7 _ _ hs,?_⟩
 rw [(h.fr i hi).1,(h.fr j hj).1]
 have:=cnt_mono (l:=rs) (y:=rs[i]) (z:=rs[j]) (fun x _ hx=>by
  cases hc:ZQ x rs[j] with
  | true=>exact (NI _ _).1 hc
  | false =>
   have:=(vF _ _).1 (Sm.ntrans _ _ _ hc hs)
   omega)
 omega
theorem afi {n k:Nat} {z:List Int} {rs S T:List dO} (hz:JC n k z) (hrs:rs.map (·.pts)=z) (hp:S.Perm rs) (hs:∀ i j (hi:i<S.length) (hj:j<S.length),i<j→ZQ S[j] S[i]=false)
  (hl:T.length=S.length) (hT:∀ j (h:j<T.length) (h':j<S.length),T[j]=jI S S[j]):NK n k T:=by
 have hTe:T=S.map (jI S):=by
  apply List.ext_getElem (by simpa using hl)
  intro j h1 h2
  rw [hT j h1 (by simpa using h2),List.getElem_map]
 have hrl:rs.length=n:=by rw [← hz.len,← hrs,List.length_map]
 refine ⟨by rw [hl,hp.length_eq,hrl],?_,fun i j hi hj hij=>?_,fun i hi=>?_,fun i hi=>?_⟩
 ·rw [hTe,List.map_map]
  have:((fun r:dO=>r.pts) ∘ jI S)=fun r=>r.pts:=rfl
  rw [this,Zu (hp.map _),hrs,hz.sum]
 ·rw [hT j hj (by omega),hT i hi (by omega)]
  exact hs i j (by omega) (by omega) hij
 ·obtain ⟨e1,e2⟩:=acd S S[i] S[i]
  rw [← hTe] at e1 e2
  rw [hT i hi (by omega),e1,e2]
  exact ⟨rfl,rfl⟩
 ·rw [hT i hi (by omega)]
  have hm:S[i].pts∈z:=by rw [← hrs]; exact List.mem_map_of_mem (hp.mem_iff.1 (List.getElem_mem (by omega)))
  obtain ⟨q,hq,e⟩:=List.getElem_of_mem hm
  have:=hz.bnd q
  rw [List.getD_eq_getElem?_getD,List.getElem?_eq_getElem hq,Option.getD_some,e] at this
  exact this
theorem afj (S:List dO) (y:dO) (q:Nat) (hq:q<S.length) (h:Bh S[q] y<0):jI (S.take (q+1)) y={ jI (S.take q) y with fr:=(jI (S.take q) y).fr+1,tq:=(jI (S.take q) y).tq+1 }:=by
 unfold jI
 rw [xI S y q hq,xJ S y q hq,if_pos h,if_neg (by omega)]
 simp only [dO.mk.injEq,true_and]
 omega
theorem afk (S:List dO) (y:dO) (q:Nat) (hq:q<S.length) (h:Bh S[q] y=0):jI (S.take (q+1)) y={ jI (S.take q) y with tq:=(jI (S.take q) y).tq+1 }:=by
 unfold jI
 rw [xI S y q hq,xJ S y q hq,if_neg (by omega),if_pos h]
 simp only [dO.mk.injEq,true_and]
 omega
theorem afl (S:List dO) (y:dO) (q:Nat) (hq:q<S.length) (h:0<Bh S[q] y):jI (S.take (q+1)) y=jI (S.take q) y:=by
 unfold jI
 rw [xI S y q hq,xJ S y q hq,if_neg (by omega),if_neg (by omega)]
 rfl
theorem ace (S:List dO) (y:dO) (q:Nat):1≤(jI (S.take q) y).fr∧(jI (S.take q) y).fr≤1+q∧0≤(jI (S.take q) y).tq∧(jI (S.take q) y).tq≤2 * q:=by
 have:=ab9 S y q
 unfold jI
 simp only
 omega
structure Out (S T:List dO) (k:Nat):Prop where
 len:T.length=S.length
 done:∀ j (h:j<T.length) (h':j<S.length),j<k→T[j]=jI S S[j]
 rest:∀ j (h:j<T.length) (h':j<S.length),k≤j→T[j]=S[j]
theorem Out.start (S:List dO):Out S S 0:=⟨rfl,fun j _ _ h=>by omega,fun _ _ _ _=>rfl⟩
theorem Out.mid {S T:List dO} {k:Nat} (h:Out S T k) (hk:k<S.length) (h0:S[k].tq=0):yY S (T.set k { S[k] with fr:=1 }) k (jI (S.take 0) S[k]) where
 len:=by rw [List.length_set]; exact h.len
 done j h1 h2 hj:=by rw [List.getElem_set_ne (by omega)]; exact h.done j (by simpa using h1) h2 hj
 here h1:=by
  rw [List.getElem_set_self]
  unfold jI
  simp only [List.take_zero,nC,uN,List.filter_nil,List.length_nil,dO.mk.injEq,true_and]
  rw [h0]
  exact ⟨rfl,rfl⟩
 rest j h1 h2 hj:=by rw [List.getElem_set_ne (by omega)]; exact h.rest j (by simpa using h1) h2 (by omega)
theorem yY.out {S T:List dO} {k:Nat} (hk:k<S.length) (h:yY S T k (jI (S.take S.length) S[k])):Out S T (k+1) where
 len:=h.len
 done j h1 h2 hj:=by
  by_cases e:j=k
  ·subst e; rw [h.here h1,List.take_length]
  ·exact h.done j h1 h2 (by omega)
 rest j h1 h2 hj:=h.rest j h1 h2 (by omega)
theorem dK {w:World} {base G cap n:Nat} {T:List dO} (h:w.ownsRow base 41 8 (.slice (some ⟨G,0,none⟩) n cap) n (fM T)) (hl:T.length=n) (q:Nat) (hq:q<T.length) {x:dO} (hx:T[q]=x) (j:Nat) (hj:j<8) {v:Value} (hv:(encR x)[j]?=some v):w.cell? ⟨G,q * 8+j,none⟩=some v:=by
 rw [h.cellAt (q * 8+j) (by omega),qW T q j hq hj,hx,hv]
def acf (n:Int) (gs:List cu) (w:World) (e:Ending) (w':World):Prop:=
 (vU n gs≠0∧e=.returned (.tuple #[.slice none 0 0,.int .i64 (vU n gs)])∧Below w.heap.size w w') ∨
 (vU n gs=0∧∃ g cap rs,e=.returned (.tuple #[.slice (some ⟨g,0,none⟩) rs.length cap,.int .i64 0])∧w'.ownsRow w.heap.size 41 8 (.slice (some ⟨g,0,none⟩) rs.length cap) rs.length (fM rs)∧NK n.toNat gs.length rs∧Below w.heap.size w w')
theorem Zv:(Tryz.prog.info? 41).map (fun i=>(i.zero,i.size,i.bytes))=some (some (.agg #[.int .i64 0,.int .i64 0,.int .i64 0,.int .i64 0,.int .i64 0,.int .i64 0,.int .i64 0,.int .i64 0]),8,64):=by kernel_rfl
theorem below_grow {w:World} (n:Nat) (os:Array Obj):Below w.heap.size w (Sort.grow (w.drewN n) os):=
 ⟨rfl,rfl,rfl,by rw [Sort.size_grow]; exact Nat.le_add_right _ _,fun k hk=>by rw [Sort.heap_grow_old (w.drewN n) os hk]; rfl⟩
set_option maxRecDepth 100000 in
set_option maxHeartbeats 8000000 in
theorem Vf (HS:SortRowsSaid) (n:Int) (vg:Value) (gs:List cu) (w:World) (hg:ED w vg gs) (h20:n<20):Calls Tryz.prog 8 #[.int .i64 n,vg] w (acf n gs w):=by
 have FD:=hid (Qn n vg gs w hg)
 have HR:=hid hg
 have HSo:=hid HS
 by_cases hc:vU n gs=0
 ·obtain ⟨⟨q1,q2,q3⟩,hgood⟩:=Zo hc
  obtain ⟨N,rfl⟩:∃ N:Nat,n=(N:Int):=⟨n.toNat,by omega⟩
  have hN1:1≤N:=by omega
  have hN2:N≤32:=by omega
  have hN3:N<20:=by omega
  have HP:=hid (fun w1 (h:ED w1 vg gs)=>EH N vg gs w1 h q3 hN1 hN2 hgood)
  have HB:=hid (fun pl w1 (h:ED w1 vg gs)=>Qp N vg gs pl w1 h q3 hN1 hN2 hgood)
  have HC0:=hid hc
  rw [hc] at FD
  clear hg HS hc hgood q1 q2 q3
  go_enter Tryz.func8,Tryz.ntmps8
  go_wp2_with fail
  refine FD.out.mono ?_
  rintro e w1 ⟨rfl,hb1⟩
  go_wp2_with fail
  refine (HP.out w1 (ED.below HR.out hb1 (Nat.le_refl _))).mono ?_
  rintro e w2 ⟨v2,z,rfl,hown2,hz,hb2⟩
  obtain ⟨G2,cap2,rfl⟩:=dY hown2 (by omega)
  have hbw2:Below w.heap.size w w2:=hb1.trans (hb2.mono hb1.size)
  have HZ:=hid hz
  have hzl:=hz.len
  have ET:=hid hown2
  have HB2:=hid hbw2
  have hG2:=(hown2.lt G2 rfl).2
  clear hown2 hz hb1 hb2 hbw2
  go_wp2_with fail
  go_loopw [24,7] (fun i v wr=>∃ k:Nat,k≤N∧i=.int .i64 k∧Hid (∃ rs:List dO,wr.ownsRow w2.heap.size 41 8 v k (fM rs)∧rs.length=k∧rs.map (·.pts)=z.take k∧(∀ r∈rs,r.fr=0∧r.tq=0))∧Below w2.heap.size w2 wr) (fun i _ _=>N - (intOf i).toNat)
  case atStart=>exact ⟨0,Nat.zero_le _,rfl,hid ⟨[],World.ownsRow_nil _ _ _ _,rfl,rfl,by simp⟩,Below.refl _ _⟩
  case round =>
   obtain ⟨k,hk,rfl,HK,hbl⟩:=hrel
   by_cases hlt:k<N
   ·have hlz:(k:Int)<(N:Int):=by omega
    have ck:wr.cell? ⟨G2,k,none⟩=some (.int .i64 (z.getD k 0)):=(hbl.cell (p:=⟨G2,k,none⟩) hG2).trans ((ET.out.cellAt k (by omega)).trans (eY _ k (by omega)))
    have hbw:Below w.heap.size w wr:=HB2.out.trans (hbl.mono HB2.out.size)
    have hbr:=HB.out (k:Int) wr (ED.below HR.out hbw (Nat.le_refl _))
    unfold EI four at hbr
    have bD:=hid hbr
    clear hbr
    obtain ⟨rs,hown,hrl,hrm,hr0⟩:=HK.out
    obtain ⟨av,cv,rfl⟩:=aH hown
    have HOw:=hid hown
    have HRl:=hid hrl
    have HRm:=hid hrm
    have HR0:=hid hr0
    have HZk:=hid (show z.take (k+1)=z.take k++[z.getD k 0] by
     rw [List.take_succ_eq_append_getElem (show k<z.length by omega)]; congr 2; rw [List.getD_eq_getElem?_getD,List.getElem?_eq_getElem (show k<z.length by omega)]; rfl)
    clear hown hrl hrm hr0 HK
    generalize z.getD k 0=zk at *
    go_wp2_with fail
    refine bD.out.mono ?_
    rintro e w3 ⟨b0,b1,b2,b3,rfl,hb3⟩
    have qX:=hid (aU HOw.out hb3)
    have hs3:w2.heap.size≤w3.heap.size:=Nat.le_trans hbl.size hb3.size
    have HB3:Hid (Below w2.heap.size w2 w3):=hid (hbl.trans (hb3.mono hbl.size))
    go_wp2_with (at_builtin; refine fU 36 41 (.agg #[.int .i64 0,.int .i64 0,.int .i64 0,.int .i64 0,.int .i64 0,.int .i64 0,.int .i64 0,.int .i64 0]) 8 64 Zv Tryz.underlying36 rfl (by decide) (by rfl) _ _ (by rfl) w2.heap.size _ k (fM rs) (encR ⟨k,zk,b0,b1,b2,b3,0,0⟩) w3 qX.out hs3 rfl (NJ _) (by omega) (by omega) (by rfl) (by rfl) ?_; intro g4 cap4 w4 hown4 hkeep hgr)
    have HO4:=hid hown4
    have HB4:Hid (Below w2.heap.size w2 w4):=hid (hkeep.below HB3.out (Nat.le_refl _))
    clear hown4 hkeep hgr
    go_wp2_with fail
    go_roundw
    case rel =>
     refine ⟨k+1,by omega,by go_num,hid ⟨rs++[⟨k,zk,b0,b1,b2,b3,0,0⟩],?_,by rw [List.length_append,HRl.out]; rfl,by rw [List.map_append,HRm.out,HZk.out]; rfl,fun r hr=>?_⟩,HB4.out⟩
     ·rw [JE]; exact HO4.out
     ·rcases List.mem_append.1 hr with h | h
      ·exact HR0.out r h
      ·simp only [List.mem_singleton] at h; subst h; exact ⟨rfl,rfl⟩
    case measure=>simp [intOf]; omega
   ·obtain rfl:k=N:=by omega
    obtain ⟨rs,hown,hrl,hrm,hr0⟩:=HK.out
    rw [show z.take k=z by rw [List.take_of_length_le (by omega)]] at hrm
    obtain ⟨G,cap,rfl⟩:=dY hown (by omega)
    obtain rfl:=hrl
    have hGb:=hown.lt G rfl
    have PW:=hid (HSo.out w2.heap.size G cap rs wr hN1 hN3 hown)
    have HRm:=hid hrm
    have HR0:=hid hr0
    clear hown hrm hr0 HK
    go_wp2_with fail
    refine PW.out.mono ?_
    rintro e w5 ⟨rfl,S,hSl,hSp,hSs,hown5,hg5⟩
    have hb5:Below w2.heap.size w2 w5:=Below.grown hbl hg5 hbl.size (fun q hq=>by simp at hq; subst hq; exact hGb.1)
    have HSp:=hid hSp
    have HSs:=hid hSs
    have HS0:Hid (∀ r∈S,r.fr=0∧r.tq=0):=hid fun r hr=>HR0.out r (hSp.mem_iff.1 hr)
    have FK:=hid hown5
    have HG5:=hid hb5
    have hG5:G<w5.heap.size:=(hown5.lt G rfl).2
    clear hSp hSs hown5 hg5 hb5
    have hSN:S.length=rs.length:=hSl
    go_wp2_with fail
    go_loopw [44] (fun i wr=>∃ k:Nat,k≤rs.length∧i=.int .i64 k∧Hid (∃ T,wr.ownsRow w2.heap.size 41 8 (.slice (some ⟨G,0,none⟩) rs.length cap) rs.length (fM T)∧Out S T k)∧Below w2.heap.size w2 wr) (fun i _=>rs.length - (intOf i).toNat)
    case atStart=>exact ⟨0,Nat.zero_le _,rfl,hid ⟨S,FK.out,Out.start S⟩,HG5.out⟩
    case round =>
     obtain ⟨k,hk,rfl,HK,CY⟩:=hrel
     by_cases hlt:k<rs.length
     ·obtain ⟨T,hown,hOut⟩:=HK.out
      have hTl:T.length=rs.length:=by rw [hOut.len,hSN]
      have hkS:k<S.length:=by omega
      have hkT:k<T.length:=by omega
      have hTk:T[k]=S[k]:=hOut.rest k hkT hkS (Nat.le_refl _)
      have hlz:(k:Int)<(rs.length:Int):=by omega
      have c6:wr.cell? ⟨G,k * 8+6,none⟩=some (.int .i64 S[k].fr):=dK hown hTl k hkT hTk 6 (by omega) rfl
      have f6:wr.frozen? ⟨G,k * 8+6,none⟩=false:=hown.frozenAt (k * 8+6)
      have DJ:=hid (hOut.mid hkS (HS0.out _ (List.getElem_mem hkS)).2)
      have QE:Hid ((wr.setCell ⟨G,k * 8+6,none⟩ (.int .i64 1)).ownsRow w2.heap.size 41 8 (.slice (some ⟨G,0,none⟩) rs.length cap) rs.length (fM (T.set k { S[k] with fr:=1 }))):=hid (by
       have:=(hown.stored (k * 8+6) (.int .i64 1)).1
       rw [vG T k 6 hkT (by omega) (.int .i64 1) { S[k] with fr:=1 } (by rw [hTk]; rfl)] at this
       exact this)
      have ZF:Hid (Below w2.heap.size w2 (wr.setCell ⟨G,k * 8+6,none⟩ (.int .i64 1))):=hid (CY.setCell hGb.1 _)
      obtain ⟨sk,hsk⟩:∃ sk,sk=S[k]:=⟨_,rfl⟩
      have HSK:=hid hsk
      have hS0:¬ G<w2.heap.size:=by omega
      clear hown hOut HK
      go_wp2_with fail
      go_loopw [53] (fun i wr3=>∃ q:Nat,q≤rs.length∧i=.int .i64 q∧Hid (∃ T,wr3.ownsRow w2.heap.size 41 8 (.slice (some ⟨G,0,none⟩) rs.length cap) rs.length (fM T)∧yY S T k (jI (S.take q) sk))∧Below w2.heap.size w2 wr3) (fun i _=>rs.length - (intOf i).toNat)
      case atStart=>exact ⟨0,Nat.zero_le _,rfl,hid ⟨_,QE.out,by rw [HSK.out]; exact DJ.out⟩,ZF.out⟩
      case round =>
       clear hsk hTk c6 f6
       obtain ⟨q,hq,rfl,HQ,afm⟩:=hrel
       by_cases hq2:q<rs.length
       ·skip
        obtain ⟨T2,hown2,NM⟩:=HQ.out
        have sQ:T2.length=rs.length:=by rw [NM.len,hSN]
        have hqT:q<T2.length:=by omega
        have yZ:k<T2.length:=by omega
        have hqS:q<S.length:=by omega
        have hqz:(q:Int)<(rs.length:Int):=by omega
        obtain ⟨x,hx⟩:∃ x,T2[q]=x:=⟨_,rfl⟩
        obtain ⟨y,hy⟩:∃ y,jI (S.take q) sk=y:=⟨_,rfl⟩
        have hyT:T2[k]=y:=by rw [← hy]; exact NM.here yZ
        have hcf:Bh x y=Bh S[q] sk:=by
         rw [← hx,NM.cf hkS ⟨_,_,by rw [← HSK.out]; rfl⟩ hqT hqS,← hy]; rfl
        have hbn:=ace S sk q
        rw [hy] at hbn
        obtain ⟨y1,y2,y3,y4⟩:=hbn
        have mV:Hid (yY S T2 k y):=hid (by rw [← hy]; exact NM)
        have HY:=hid hy
        have YG:=hid hcf
        have HX:=hid hx
        have NY:=hid hyT
        have HLE:=hid (show y.fr≤33∧y.tq≤64 by omega)
        have a0:wr.cell? ⟨G,q * 8,none⟩=some (.int .i64 x.pl):=dK hown2 sQ q hqT hx 0 (by omega) rfl
        have a1:wr.cell? ⟨G,q * 8+1,none⟩=some (.int .i64 x.pts):=dK hown2 sQ q hqT hx 1 (by omega) rfl
        have a2:wr.cell? ⟨G,q * 8+2,none⟩=some (.int .i64 x.b0):=dK hown2 sQ q hqT hx 2 (by omega) rfl
        have a3:wr.cell? ⟨G,q * 8+3,none⟩=some (.int .i64 x.b1):=dK hown2 sQ q hqT hx 3 (by omega) rfl
        have a4:wr.cell? ⟨G,q * 8+4,none⟩=some (.int .i64 x.b2):=dK hown2 sQ q hqT hx 4 (by omega) rfl
        have a5:wr.cell? ⟨G,q * 8+5,none⟩=some (.int .i64 x.b3):=dK hown2 sQ q hqT hx 5 (by omega) rfl
        have a6:wr.cell? ⟨G,q * 8+6,none⟩=some (.int .i64 x.fr):=dK hown2 sQ q hqT hx 6 (by omega) rfl
        have a7:wr.cell? ⟨G,q * 8+7,none⟩=some (.int .i64 x.tq):=dK hown2 sQ q hqT hx 7 (by omega) rfl
        have VE:=hid (hown2.alloc (.cells (encR x).toArray 41))
        have hBx:=Box.new wr (encR x) 41
        have HB8:Hid (Below w2.heap.size w2 (wr.alloc (.cells (encR x).toArray 41))):=hid (afm.alloc afm.size _)
        obtain ⟨bx,hbx⟩:∃ b,b=wr.heap.size:=⟨_,rfl⟩
        have hbG:G<bx:=by rw [hbx]; exact (hown2.lt G rfl).2
        clear hown2 NM HQ hx hy hyT hcf
        unfold encR at VE hBx HB8
        go_upto_region 18 with (fail)
        obtain ⟨wq,hwq⟩:∃ wq,wq=wr.alloc (.cells [.int .i64 x.pl,.int .i64 x.pts,.int .i64 x.b0,.int .i64 x.b1,.int .i64 x.b2,.int .i64 x.b3,.int .i64 x.fr,.int .i64 x.tq].toArray 41):=⟨_,rfl⟩
        rw [← hwq] at VE hBx HB8 ⊢
        rw [← hbx] at hBx ⊢
        clear hwq hbx a0 a1 a2 a3 a4 a5 a6 a7
        have A0:∀ n os,(Sort.grow (wq.drewN n) os).cell? ⟨bx,0,none⟩=some (.int .i64 x.pl):=fun n os=>cell_grown (by exact hBx.lt) (hBx.cell 0 rfl) n os
        have A1:∀ n os,(Sort.grow (wq.drewN n) os).cell? ⟨bx,1,none⟩=some (.int .i64 x.pts):=fun n os=>cell_grown (by exact hBx.lt) (hBx.cell 1 rfl) n os
        have A2:∀ n os,(Sort.grow (wq.drewN n) os).cell? ⟨bx,2,none⟩=some (.int .i64 x.b0):=fun n os=>cell_grown (by exact hBx.lt) (hBx.cell 2 rfl) n os
        have A3:∀ n os,(Sort.grow (wq.drewN n) os).cell? ⟨bx,3,none⟩=some (.int .i64 x.b1):=fun n os=>cell_grown (by exact hBx.lt) (hBx.cell 3 rfl) n os
        have A4:∀ n os,(Sort.grow (wq.drewN n) os).cell? ⟨bx,4,none⟩=some (.int .i64 x.b2):=fun n os=>cell_grown (by exact hBx.lt) (hBx.cell 4 rfl) n os
        have A5:∀ n os,(Sort.grow (wq.drewN n) os).cell? ⟨bx,5,none⟩=some (.int .i64 x.b3):=fun n os=>cell_grown (by exact hBx.lt) (hBx.cell 5 rfl) n os
        have A6:∀ n os,(Sort.grow (wq.drewN n) os).cell? ⟨bx,6,none⟩=some (.int .i64 x.fr):=fun n os=>cell_grown (by exact hBx.lt) (hBx.cell 6 rfl) n os
        have A7:∀ n os,(Sort.grow (wq.drewN n) os).cell? ⟨bx,7,none⟩=some (.int .i64 x.tq):=fun n os=>cell_grown (by exact hBx.lt) (hBx.cell 7 rfl) n os
        have D0:∀ n os,(Sort.grow (wq.drewN n) os).cell? ⟨G,k * 8,none⟩=some (.int .i64 y.pl):=fun n os=>cell_grown (by show G<wq.heap.size; exact Nat.lt_trans hbG hBx.lt) (dK VE.out sQ k yZ NY.out 0 (by omega) rfl) n os
        have D1:∀ n os,(Sort.grow (wq.drewN n) os).cell? ⟨G,k * 8+1,none⟩=some (.int .i64 y.pts):=fun n os=>cell_grown (by show G<wq.heap.size; exact Nat.lt_trans hbG hBx.lt) (dK VE.out sQ k yZ NY.out 1 (by omega) rfl) n os
        have D2:∀ n os,(Sort.grow (wq.drewN n) os).cell? ⟨G,k * 8+2,none⟩=some (.int .i64 y.b0):=fun n os=>cell_grown (by show G<wq.heap.size; exact Nat.lt_trans hbG hBx.lt) (dK VE.out sQ k yZ NY.out 2 (by omega) rfl) n os
        have D3:∀ n os,(Sort.grow (wq.drewN n) os).cell? ⟨G,k * 8+3,none⟩=some (.int .i64 y.b1):=fun n os=>cell_grown (by show G<wq.heap.size; exact Nat.lt_trans hbG hBx.lt) (dK VE.out sQ k yZ NY.out 3 (by omega) rfl) n os
        have D4:∀ n os,(Sort.grow (wq.drewN n) os).cell? ⟨G,k * 8+4,none⟩=some (.int .i64 y.b2):=fun n os=>cell_grown (by show G<wq.heap.size; exact Nat.lt_trans hbG hBx.lt) (dK VE.out sQ k yZ NY.out 4 (by omega) rfl) n os
        have D5:∀ n os,(Sort.grow (wq.drewN n) os).cell? ⟨G,k * 8+5,none⟩=some (.int .i64 y.b3):=fun n os=>cell_grown (by show G<wq.heap.size; exact Nat.lt_trans hbG hBx.lt) (dK VE.out sQ k yZ NY.out 5 (by omega) rfl) n os
        have D6:∀ n os,(Sort.grow (wq.drewN n) os).cell? ⟨G,k * 8+6,none⟩=some (.int .i64 y.fr):=fun n os=>cell_grown (by show G<wq.heap.size; exact Nat.lt_trans hbG hBx.lt) (dK VE.out sQ k yZ NY.out 6 (by omega) rfl) n os
        have D7:∀ n os,(Sort.grow (wq.drewN n) os).cell? ⟨G,k * 8+7,none⟩=some (.int .i64 y.tq):=fun n os=>cell_grown (by show G<wq.heap.size; exact Nat.lt_trans hbG hBx.lt) (dK VE.out sQ k yZ NY.out 7 (by omega) rfl) n os
        have mixed:Tryz.prog.follows .mixedOrders=true:=by kernel_rfl
        go_quiet_grown (first | (go_at_call 28; exact Calls.grown_of (Ho x y _)))
        have bI:Hid (Below w2.heap.size w2 (Sort.grow (wq.drewN nq) osq)):=hid (HB8.out.trans ((below_grow nq osq).mono HB8.out.size))
        have xO:=hid (aU VE.out (below_grow nq osq))
        clear A0 A1 A2 A3 A4 A5 A6 A7 D0 D1 D2 D3 D4 D5 D6 D7 VE HB8 hBx
        generalize Sort.grow (wq.drewN nq) osq=w5 at bI xO ⊢
        have e6:w5.cell? ⟨G,k * 8+6,none⟩=some (.int .i64 y.fr):=dK xO.out sQ k yZ NY.out 6 (by omega) rfl
        have e7:w5.cell? ⟨G,k * 8+7,none⟩=some (.int .i64 y.tq):=dK xO.out sQ k yZ NY.out 7 (by omega) rfl
        have g6:w5.frozen? ⟨G,k * 8+6,none⟩=false:=xO.out.frozenAt (k * 8+6)
        have g7:w5.frozen? ⟨G,k * 8+7,none⟩=false:=xO.out.frozenAt (k * 8+7)
        obtain ⟨y33,y64⟩:=HLE.out
        generalize Bh x y=cc at YG ⊢
        have aiU:Hid ((fM T2).set (k * 8+6) (.int .i64 (y.fr+1))=fM (T2.set k { y with fr:=y.fr+1 })):=hid (vG T2 k 6 yZ (by omega) _ _ (by rw [NY.out]; rfl))
        have aiV:Hid ((fM T2).set (k * 8+7) (.int .i64 (y.tq+1))=fM (T2.set k { y with tq:=y.tq+1 })):=hid (vG T2 k 7 yZ (by omega) _ _ (by rw [NY.out]; rfl))
        have afn:Hid ((fM (T2.set k { y with fr:=y.fr+1 })).set (k * 8+7) (.int .i64 (y.tq+1))=fM (T2.set k { y with fr:=y.fr+1,tq:=y.tq+1 })):=hid (by
         rw [vG (T2.set k { y with fr:=y.fr+1 }) k 7 (by simpa using yZ) (by omega) _ { y with fr:=y.fr+1,tq:=y.tq+1 } (by rw [List.getElem_set_self]; rfl),List.set_set])
        rcases Int.lt_trichotomy cc 0 with h | h | h
        ·have kS:Hid (yY S (T2.set k { y with fr:=y.fr+1,tq:=y.tq+1 }) k (jI (S.take (q+1)) sk)):=hid (by rw [afj S sk q hqS (by rw [← YG.out]; exact h),HY.out]; exact mV.out.set)
         have Vs:Hid (((w5.setCell ⟨G,k * 8+6,none⟩ (.int .i64 (y.fr+1))).setCell ⟨G,k * 8+7,none⟩ (.int .i64 (y.tq+1))).ownsRow w2.heap.size 41 8 (.slice (some ⟨G,0,none⟩) rs.length cap) rs.length (fM (T2.set k { y with fr:=y.fr+1,tq:=y.tq+1 }))):=hid (by
          have h1:=(xO.out.stored (k * 8+6) (.int .i64 (y.fr+1))).1
          rw [aiU.out] at h1
          have h2:=(h1.stored (k * 8+7) (.int .i64 (y.tq+1))).1
          rw [afn.out] at h2
          exact h2)
         have Vy:Hid (Below w2.heap.size w2 ((w5.setCell ⟨G,k * 8+6,none⟩ (.int .i64 (y.fr+1))).setCell ⟨G,k * 8+7,none⟩ (.int .i64 (y.tq+1)))):=hid ((bI.out.setCell hGb.1 _).setCell hGb.1 _)
         go_wp2_with fail
         go_roundw
         case rel=>exact ⟨q+1,by omega,by go_num,hid ⟨_,Vs.out,kS.out⟩,Vy.out⟩
         case measure=>simp [intOf]; omega
        ·subst h
         have kS:Hid (yY S (T2.set k { y with tq:=y.tq+1 }) k (jI (S.take (q+1)) sk)):=hid (by rw [afk S sk q hqS YG.out.symm,HY.out]; exact mV.out.set)
         have Vs:Hid ((w5.setCell ⟨G,k * 8+7,none⟩ (.int .i64 (y.tq+1))).ownsRow w2.heap.size 41 8 (.slice (some ⟨G,0,none⟩) rs.length cap) rs.length (fM (T2.set k { y with tq:=y.tq+1 }))):=hid (by
          have h2:=(xO.out.stored (k * 8+7) (.int .i64 (y.tq+1))).1
          rw [aiV.out] at h2
          exact h2)
         have Vy:Hid (Below w2.heap.size w2 (w5.setCell ⟨G,k * 8+7,none⟩ (.int .i64 (y.tq+1)))):=hid (bI.out.setCell hGb.1 _)
         go_wp2_with fail
         go_roundw
         case rel=>exact ⟨q+1,by omega,by go_num,hid ⟨_,Vs.out,kS.out⟩,Vy.out⟩
         case measure=>simp [intOf]; omega
        ·have h0:¬ cc<0:=by omega
         have h1:¬ cc=0:=by omega
         have kS:Hid (yY S T2 k (jI (S.take (q+1)) sk)):=hid (by rw [afl S sk q hqS (by rw [← YG.out]; exact h),HY.out]; exact mV.out)
         go_wp2_with fail
         go_roundw
         case rel=>exact ⟨q+1,by omega,by go_num,hid ⟨_,xO.out,kS.out⟩,bI.out⟩
         case measure=>simp [intOf]; omega
       ·obtain rfl:q=rs.length:=by omega
        obtain ⟨T2,hown2,NM⟩:=HQ.out
        have KE:=hid hown2
        have amT:Hid (Out S T2 (k+1)):=hid (yY.out hkS (by rw [hSN,← HSK.out]; exact NM))
        clear hown2 NM HQ
        go_wp2_with fail
        go_roundw
        case rel=>exact ⟨k+1,by omega,by go_num,hid ⟨T2,KE.out,amT.out⟩,afm⟩
        case measure=>simp [intOf]; omega
     ·obtain rfl:k=rs.length:=by omega
      obtain ⟨T,hown,hOut⟩:=HK.out
      have hTl:T.length=rs.length:=by rw [hOut.len,hSN]
      have HF:=hid (afi HZ.out HRm.out HSp.out HSs.out hOut.len (fun j h h'=>hOut.done j h h' (by omega)))
      have KE:=hid (own_base hown HB2.out.size)
      have HTl:=hid hTl
      have HB7:Hid (Below w.heap.size w _):=hid (HB2.out.trans (CY.mono HB2.out.size))
      clear hown hOut HK
      go_wp2_with fail
      go_ret2
      refine .inr ⟨HC0.out,G,cap,T,by rw [HTl.out]; rfl,by rw [HTl.out]; exact KE.out,by rw [Int.toNat_natCast]; exact HF.out,HB7.out⟩
 ·have HC:=hid hc
  have hcz:¬ vU n gs=0:=hc
  clear hg HS hc
  generalize hcc:vU n gs=cc at *
  go_enter Tryz.func8,Tryz.ntmps8
  go_wp2_with fail
  refine FD.out.mono ?_
  rintro e w1 ⟨rfl,hb1⟩
  go_wp2_with fail
  go_ret2
  exact .inl ⟨by rw [hcc]; exact HC.out,by rw [hcc]; rfl,hb1⟩
end Go.Proofs.YteablcielclaeaaGreatDoor
