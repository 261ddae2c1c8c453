/- TsStD, TsStK, TsStC, TsStL, TsStM. -/
import Derived.Test.YteablcielclaeaaGreatDoorP29
import Derived.Shelf.SlSortCmp.KitK
namespace Go.Proofs.YteablcielclaeaaGreatDoor
open Go.ChangeShapes Go.WideShapes Go.ChangeAt Go.RowKit
set_option linter.unusedVariables false
open Go.Lib (hid)
def cmpL:List Int→List Int→Int
 | a :: s,b :: t=>if ku a b=0 then cmpL s t else ku a b
 | _,_=>0
theorem U9 (xs ys:List Int) (k:Nat) (hl:xs.length=ys.length) (hk:k<xs.length):cmpL (xs.drop k) (ys.drop k)=if ku (xs.getD k 0) (ys.getD k 0)=0 then cmpL (xs.drop (k+1)) (ys.drop (k+1)) else ku (xs.getD k 0) (ys.getD k 0):=by
 rw [List.drop_eq_getElem_cons hk,List.drop_eq_getElem_cons (show k<ys.length by omega),cmpL]
 simp [List.getD,hk,show k<ys.length by omega]
theorem Na (v1 v2:Value) (xs ys:List Int) (w:World) (h1:fQ w v1 xs) (h2:fQ w v2 ys) (hl:ys.length=xs.length) :
  Calls Tryz.prog 70 #[v1,v2] w fun e w'=>e=.returned (.int .i64 (cmpL xs ys))∧w=w':=by
 obtain ⟨a,c,rfl,q1,q2⟩:=h1.form
 obtain ⟨a',c',hv,q3,q4⟩:=h2.form
 rw [hl] at hv q3
 subst hv
 unfold maxLen at q2 q4
 have HX:=hid h1
 have HY:=hid h2
 have HL:=hid hl
 clear h1 h2 hl
 go_enter Tryz.func70,Tryz.ntmps70
 go_wp2_with fail
 go_loop [11] (fun i=>∃ k:Nat,k≤xs.length∧i=.int .i64 k∧Hid (cmpL xs ys=cmpL (xs.drop k) (ys.drop k))) (fun i=>xs.length - (intOf i).toNat)
 case atStart=>exact ⟨0,Nat.zero_le _,rfl,hid rfl⟩
 case round =>
  obtain ⟨k,hk,rfl,HK⟩:=hrel
  by_cases hlt:k<xs.length
  ·obtain ⟨g,o,c1,he,_,_,_,hcell⟩:=HX.out.some (by omega)
   simp only [Value.slice.injEq] at he
   obtain ⟨rfl,_,rfl⟩:=he
   obtain ⟨g',o',c2,he,_,_,_,hcell'⟩:=HY.out.some (by rw [HL.out]; omega)
   rw [HL.out] at he
   simp only [Value.slice.injEq] at he
   obtain ⟨rfl,_,rfl⟩:=he
   have ck:=hcell k hlt
   have ck':=hcell' k (by rw [HL.out]; exact hlt)
   have hlz:(k:Int)<xs.length:=by omega
   have HS:=hid (U9 xs ys k HL.out.symm hlt)
   clear hcell hcell'
   generalize xs.getD k 0=x at *
   generalize ys.getD k 0=y at *
   by_cases hz:ku x y=0
   ·have HS2:=hid (show cmpL xs ys=cmpL (xs.drop (k+1)) (ys.drop (k+1)) by rw [HK.out,HS.out,if_pos hz])
    go_wp2_with (refine (kG _ _ _).mono ?_; rintro e w' ⟨rfl,rfl⟩)
    go_round
    case rel=>exact ⟨k+1,by omega,by go_num,HS2⟩
    case measure=>simp [intOf]; omega
   ·have HS2:=hid (show cmpL xs ys=ku x y by rw [HK.out,HS.out,if_neg hz])
    go_wp2_with (refine (kG _ _ _).mono ?_; rintro e w' ⟨rfl,rfl⟩)
    go_ret
    exact ⟨by rw [HS2.out]; rfl,rfl⟩
  ·obtain rfl:k=xs.length:=by omega
   have HE:=hid (show cmpL xs ys=0 by rw [HK.out,List.drop_length,cmpL]; intro a s b t h; cases h)
   go_wp2_with fail
   go_ret
   exact ⟨by rw [HE.out]; rfl,rfl⟩
structure dU where
 pl:Int
 pts:Int
 b0:Int
 b1:Int
 b2:Int
 b3:Int
 fr:Int
 tq:Int
deriving Inhabited
def encR (r:dU):List Value:=[.int .i64 r.pl,.int .i64 r.pts,.int .i64 r.b0,.int .i64 r.b1,.int .i64 r.b2,.int .i64 r.b3,.int .i64 r.fr,.int .i64 r.tq]
def BJ (x y:dU):Int:=Gl [ku y.pts x.pts,cmpL [y.b0,y.b1,y.b2,y.b3] [x.b0,x.b1,x.b2,x.b3]]
theorem Zd {w:World} {b:Nat} {v0 v1 v6 v7:Value} {b0 b1 b2 b3:Int} {t:TypeId} (h:Box w b [v0,v1,.int .i64 b0,.int .i64 b1,.int .i64 b2,.int .i64 b3,v6,v7] t):fQ w (.slice (some ⟨b,2,none⟩) 4 4) [b0,b1,b2,b3]:=by
 refine ⟨rfl,.inr ⟨b,2,4,rfl,Nat.le_refl _,by unfold maxLen; decide,fun i hi=>?_⟩⟩
 have hi':i=0∨i=1∨i=2∨i=3:=by simp at hi; omega
 rcases hi' with rfl | rfl | rfl | rfl
 ·exact h.cell 2 rfl
 ·exact h.cell 3 rfl
 ·exact h.cell 4 rfl
 ·exact h.cell 5 rfl
theorem ai0 {w w':World} {x y:Int} (h:w'=(w.alloc (.cells #[.int .i64 x,.int .i64 y] 3)).drew):fQ w' (.slice (some ⟨w.heap.size,0,none⟩) 2 2) [x,y]:=by
 subst h
 refine ⟨rfl,.inr ⟨w.heap.size,0,2,rfl,Nat.le_refl _,by unfold maxLen; decide,fun i hi=>?_⟩⟩
 have hi':i=0∨i=1:=by simp at hi; omega
 have hb:=Box.new w [.int .i64 x,.int .i64 y] 3
 have hb':Box (w.alloc (.cells #[.int .i64 x,.int .i64 y] 3)).drew w.heap.size [.int .i64 x,.int .i64 y] 3:=hb
 rcases hi' with rfl | rfl
 ·exact hb'.cell 0 rfl
 ·exact hb'.cell 1 rfl
set_option maxRecDepth 100000 in
set_option maxHeartbeats 1000000 in
theorem Hf (x y:dU) (W:World):Calls Tryz.prog 28 #[.agg (encR x).toArray,.agg (encR y).toArray] W fun e w'=>e=.returned (.int .i64 (BJ x y))∧∃ q os',w'=Sort.grow (W.drewN q) os':=by
 have HO:Hid (BJ x y=Gl [ku y.pts x.pts,cmpL [y.b0,y.b1,y.b2,y.b3] [x.b0,x.b1,x.b2,x.b3]]):=hid rfl
 unfold encR
 go_enter Tryz.func28,Tryz.ntmps28
 go_upto_region 1 with (fail)
 have bx:=(Box.new W [.int .i64 x.pl,.int .i64 x.pts,.int .i64 x.b0,.int .i64 x.b1,.int .i64 x.b2,.int .i64 x.b3,.int .i64 x.fr,.int .i64 x.tq] 41).alloc (.cells #[.int .i64 y.pl,.int .i64 y.pts,.int .i64 y.b0,.int .i64 y.b1,.int .i64 y.b2,.int .i64 y.b3,.int .i64 y.fr,.int .i64 y.tq] 41)
 have by':Box ((W.alloc (.cells #[.int .i64 x.pl,.int .i64 x.pts,.int .i64 x.b0,.int .i64 x.b1,.int .i64 x.b2,.int .i64 x.b3,.int .i64 x.fr,.int .i64 x.tq] 41)).alloc (.cells #[.int .i64 y.pl,.int .i64 y.pts,.int .i64 y.b0,.int .i64 y.b1,.int .i64 y.b2,.int .i64 y.b3,.int .i64 y.fr,.int .i64 y.tq] 41)) (W.heap.size+1) [.int .i64 y.pl,.int .i64 y.pts,.int .i64 y.b0,.int .i64 y.b1,.int .i64 y.b2,.int .i64 y.b3,.int .i64 y.fr,.int .i64 y.tq] 41:=by
  have:=Box.new (W.alloc (.cells #[.int .i64 x.pl,.int .i64 x.pts,.int .i64 x.b0,.int .i64 x.b1,.int .i64 x.b2,.int .i64 x.b3,.int .i64 x.fr,.int .i64 x.tq] 41)) [.int .i64 y.pl,.int .i64 y.pts,.int .i64 y.b0,.int .i64 y.b1,.int .i64 y.b2,.int .i64 y.b3,.int .i64 y.fr,.int .i64 y.tq] 41
  rw [World.size_alloc] at this
  exact this
 generalize hw0:((W.alloc (.cells #[.int .i64 x.pl,.int .i64 x.pts,.int .i64 x.b0,.int .i64 x.b1,.int .i64 x.b2,.int .i64 x.b3,.int .i64 x.fr,.int .i64 x.tq] 41)).alloc (.cells #[.int .i64 y.pl,.int .i64 y.pts,.int .i64 y.b0,.int .i64 y.b1,.int .i64 y.b2,.int .i64 y.b3,.int .i64 y.fr,.int .i64 y.tq] 41))=w0 at bx by' ⊢
 have HW:=hid hw0.symm
 clear hw0
 have Bx:Box w0.drew W.heap.size [.int .i64 x.pl,.int .i64 x.pts,.int .i64 x.b0,.int .i64 x.b1,.int .i64 x.b2,.int .i64 x.b3,.int .i64 x.fr,.int .i64 x.tq] 41:=bx
 have By:Box w0.drew (W.heap.size+1) [.int .i64 y.pl,.int .i64 y.pts,.int .i64 y.b0,.int .i64 y.b1,.int .i64 y.b2,.int .i64 y.b3,.int .i64 y.fr,.int .i64 y.tq] 41:=by'
 clear bx by'
 refine wp_region_noPanic ?_
 refine bI (S:=(fun w'=>w'.cell? ⟨W.heap.size,1,none⟩=some (.int .i64 x.pts)∧w'.cell? ⟨W.heap.size+1,1,none⟩=some (.int .i64 y.pts))) (L:=[]) (by kernel_rfl) ⟨Bx.cell 1 rfl,By.cell 1 rfl⟩ (fun hHeld=>?_)
 refine aC 0 ?_
 refine aC 2 ?_
 refine aC 5 ?_
 refine aC 7 ?_
 refine dV 1 ?_
 refine dV 3 ?_
 refine aC 6 ?_
 refine aC 8 ?_
 refine fH 4 fun K hK=>?_
 go_simp
 refine (kG _ _ _).mono ?_
 rintro e w' ⟨rfl,rfl⟩
 refine hK.out _ _ ⟨Bx.cell 1 rfl,By.cell 1 rfl⟩ (fun hHeld=>?_)
 clear hK K
 refine fH 9 fun K hK=>?_
 go_simp
 refine (Na _ _ _ _ _ (Zd By) (Zd Bx) rfl).mono ?_
 rintro e w' ⟨rfl,rfl⟩
 refine hK.out _ _ ⟨Bx.cell 1 rfl,By.cell 1 rfl⟩ (fun hHeld=>?_)
 clear hK K
 refine fH 10 fun K hK=>?_
 go_simp
 refine KH ?_
 intro w9 e9
 have Bx9:Box w9 W.heap.size [.int .i64 x.pl,.int .i64 x.pts,.int .i64 x.b0,.int .i64 x.b1,.int .i64 x.b2,.int .i64 x.b3,.int .i64 x.fr,.int .i64 x.tq] 41:=by rw [e9]; exact Bx.alloc _
 have By9:Box w9 (W.heap.size+1) [.int .i64 y.pl,.int .i64 y.pts,.int .i64 y.b0,.int .i64 y.b1,.int .i64 y.b2,.int .i64 y.b3,.int .i64 y.fr,.int .i64 y.tq] 41:=by rw [e9]; exact By.alloc _
 have HR9:=hid (ai0 e9)
 have E9:=hid e9
 clear e9
 refine hK.out _ _ ⟨Bx9.cell 1 rfl,By9.cell 1 rfl⟩ (fun hHeld=>?_)
 clear hK K
 refine fH 11 fun K hK=>?_
 go_simp
 refine (Xj _ _ _ HR9.out (by simp)).mono ?_
 rintro e w' ⟨rfl,rfl⟩
 refine hK.out _ _ ⟨Bx9.cell 1 rfl,By9.cell 1 rfl⟩ (fun hHeld=>?_)
 clear hK K
 refine aC 12 ?_
 refine jC ?_
 go_wp2_with fail
 go_ret
 exact ⟨rfl,1,#[.cells #[.int .i64 x.pl,.int .i64 x.pts,.int .i64 x.b0,.int .i64 x.b1,.int .i64 x.b2,.int .i64 x.b3,.int .i64 x.fr,.int .i64 x.tq] 41,.cells #[.int .i64 y.pl,.int .i64 y.pts,.int .i64 y.b0,.int .i64 y.b1,.int .i64 y.b2,.int .i64 y.b3,.int .i64 y.fr,.int .i64 y.tq] 41,.cells #[.int .i64 (ku y.pts x.pts),.int .i64 (cmpL [y.b0,y.b1,y.b2,y.b3] [x.b0,x.b1,x.b2,x.b3])] 3],by rw [E9.out,HW.out,ady]⟩
end Go.Proofs.YteablcielclaeaaGreatDoor
namespace Go.Proofs.YteablcielclaeaaGreatDoor
open Go.ChangeShapes Go.WideShapes Go.ChangeAt Go.RowKit Go.Shelf
set_option linter.unusedVariables false
theorem SG (a b:Int):ku a b<0↔a<b:=by unfold ku; split; · simp [*]
                                      · split <;> simp <;> omega
theorem SH (a b:Int):ku a b=0↔a=b:=by unfold ku; split; · simp; omega
                                      · split <;> simp <;> omega
theorem afy (a b c:Int):Gl [ku a b,c]<0↔a<b∨(a=b∧c<0):=by
  unfold Gl Gl Gl
  have h1:=SG a b
  have h2:=SH a b
  split
  · split <;> omega
  · omega
theorem Ci (a b:Int) (s t:List Int):cmpL (a :: s) (b :: t)<0↔a<b∨(a=b∧cmpL s t<0):=by
  rw [cmpL]
  have h1:=SG a b
  have h2:=SH a b
  split <;> omega
theorem Ze:cmpL [] []=0:=by rw [cmpL]; intro a s b t h; cases h
theorem Js (x y:dU):BJ x y<0↔y.pts<x.pts∨(y.pts=x.pts∧(y.b0<x.b0∨(y.b0=x.b0∧(y.b1<x.b1∨(y.b1=x.b1∧(y.b2<x.b2∨(y.b2=x.b2∧y.b3<x.b3))))))):=by
  unfold BJ
  rw [afy,Ci,Ci,Ci,Ci,Ze]
  omega
def ltR:dU→dU→Bool:=ltOf BJ
theorem Nb (x y:dU):ltR x y=true↔BJ x y<0:=by unfold ltR ltOf; simp
theorem uM (x y:dU):ltR x y=false↔¬ BJ x y<0:=by unfold ltR ltOf; simp
theorem SI:Sort.SWO ltR where
  irrefl x:=by rw [uM,Js]; omega
  trans x y z h1 h2:=by rw [Nb,Js] at *; omega
  ntrans x y z h1 h2:=by rw [uM,Js] at *; omega
theorem acE (x y:dU) (h:ltR x y=false):x.pts≤y.pts:=by rw [uM,Js] at h; omega
def fK (rs:List dU):List Value:=rs.flatMap encR
theorem kK (rs:List dU):(fK rs).length=rs.length * 8:=by
  induction rs with
  | nil=>rfl
  | cons r t ih =>
    have e:fK (r :: t)=encR r++fK t:=rfl
    rw [e,List.length_append,ih,List.length_cons]
    simp [encR]; omega
theorem Jt (xs ys:List dU):fK (xs++ys)=fK xs++fK ys:=by simp [fK]
theorem qL (rs:List dU) (k j:Nat) (hk:k<rs.length) (hj:j<8):(fK rs)[k * 8+j]?=(encR rs[k])[j]?:=by
  induction rs generalizing k with
  | nil=>simp at hk
  | cons r t ih =>
    have e:fK (r :: t)=encR r++fK t:=rfl
    have hl:(encR r).length=8:=rfl
    cases k with
    | zero =>
      rw [e,Nat.zero_mul,Nat.zero_add,List.getElem?_append_left (by omega)]; rfl
    | succ k =>
      rw [e,List.getElem?_append_right (by omega),hl,show (k+1) * 8+j - 8=k * 8+j by omega,ih k (by simpa using hk)]
      rfl
theorem Nc (x:dU):∀ v∈encR x,v.oneCell'=true:=by
  intro v hv
  simp only [encR,List.mem_cons,List.not_mem_nil,or_false] at hv
  rcases hv with rfl | rfl | rfl | rfl | rfl | rfl | rfl | rfl <;> rfl
theorem Hg (rs:List dU):Sort.flatK encR 8 rs.toArray=(fK rs).toArray:=by
  apply Array.ext
  · simp [kK]
  · intro t h1 h2
    have ht:t<rs.length * 8:=by simpa using h1
    obtain ⟨q,r,hr,rfl⟩:∃ q r,r<8∧t=q * 8+r:=⟨t / 8,t % 8,Nat.mod_lt _ (by decide),by omega⟩
    have hq:q<rs.length:=by omega
    have e1:(q * 8+r) / 8=q:=by omega
    have e2:(q * 8+r) % 8=r:=by omega
    have hg:rs.toArray[q]! = rs[q]:=by
      rw [getElem!_pos _ q (by simpa using hq)]; simp
    have hf:=qL rs q r hq hr
    have hL:(Sort.flatK encR 8 rs.toArray)[q * 8+r]! = (fK rs).toArray[q * 8+r]!:=by
      rw [Sort.get_flatK _ _ _ _ (by simpa using ht),e1,e2,hg]
      simp only [List.getElem!_toArray]
      rw [List.getElem!_eq_getElem?_getD,List.getElem!_eq_getElem?_getD,hf]
    rw [getElem!_pos (Sort.flatK encR 8 rs.toArray) _ h1,getElem!_pos (fK rs).toArray _ h2] at hL
    exact hL
theorem ug {w:World} {g:Nat} {cur:Array Value} {e:TypeId} {vs:List Value} (hb:w.heap[g]?=some (.cells cur e (0,0))) (ht:cur.toList.take vs.length=vs):Sort.Holds id w g 0 vs.toArray:=by
  intro j hj
  have hj':j<vs.length:=by simpa using hj
  refine ⟨?_,by simp [World.frozen?,hb]⟩
  have h1:(cur.toList.take vs.length)[j]?=vs[j]?:=by rw [ht]
  rw [List.getElem?_take_of_lt hj'] at h1
  simp only [World.cell?,hb,Nat.zero_add]
  simp only [Option.isSome_none,Bool.false_eq_true,if_false]
  rw [← Array.getElem?_toList,h1]
  simp [hj']
theorem heap_put {w:World} {g n:Nat} {os:Array Obj} {cur:Array Value} {e:TypeId} {fr:Nat×Nat} (d:Array Value) (hb:w.heap[g]?=some (.cells cur e fr)) :
    (Sort.grow (Sort.putRow id (Sort.ahead w n) g 0 d) os).heap[g]?=some (.cells (Sort.putCells id 0 d cur) e fr):=by
  have hg:g<w.heap.size:=(Array.getElem?_eq_some_iff.1 hb).1
  rw [Sort.heap_grow_old _ _ (by simpa using hg)]
  simp [Sort.putRow,Sort.mapBlock,Sort.ahead,Array.getElem?_modify,hb,Sort.onCells]
theorem Hl {w:World} {g n:Nat} {os:Array Obj} (d:Array Value):w.grownBy (Sort.grow (Sort.putRow id (Sort.ahead w n) g 0 d) os) (some g):=by
  refine ⟨rfl,rfl,rfl,by simp,fun k hk hne=>?_⟩
  rw [Sort.heap_grow_old _ _ (by simpa using hk)]
  have:g≠k:=fun e=>hne (by rw [e])
  simp [Sort.putRow,Sort.mapBlock,Sort.ahead,Array.getElem?_modify,this]
theorem Ho (cur:Array Value) (ts:List Value) (h:ts.length≤cur.size):(Sort.putCells id 0 ts.toArray cur).toList.take ts.length=ts:=by
  apply List.ext_getElem?
  intro j
  by_cases hj:j<ts.length
  · rw [List.getElem?_take_of_lt hj,Array.getElem?_toList]
    simp [Sort.putCells,hj,show j<cur.size by omega]
  · rw [List.getElem?_take_eq_none (by omega),List.getElem?_eq_none (by omega)]
theorem acF {w:World} {base g cap n:Nat} {rs rs':List dU} {os:Array Obj} (h:w.ownsRow base 41 8 (.slice (some ⟨g,0,none⟩) rs.length cap) rs.length (fK rs)) (hl:rs'.length=rs.length) :
    (sortWorldK encR 8 w g 0 n rs'.toArray os).ownsRow base 41 8 (.slice (some ⟨g,0,none⟩) rs.length cap) rs.length (fK rs')∧w.grownBy (sortWorldK encR 8 w g 0 n rs'.toArray os) (some g):=by
  rcases h.2 with ⟨h0,_⟩ | ⟨g',cap',cur,hv,hg,hb,hn,hm,hs,ht⟩
  · cases h0
  · simp only [Value.slice.injEq,Option.some.injEq,Addr.mk.injEq,true_and,and_true] at hv
    obtain ⟨rfl,rfl⟩:=hv
    have e:sortWorldK encR 8 w g 0 n rs'.toArray os=Sort.grow (Sort.putRow id (Sort.ahead w n) g 0 (fK rs').toArray) os:=by
      show Sort.grow (Sort.putRow id (Sort.ahead w n) g 0 (Sort.flatK encR 8 rs'.toArray)) os=_
      rw [Hg]
    rw [e]
    refine ⟨⟨by rw [kK,hl],.inr ⟨g,cap,_,rfl,hg,heap_put _ hb,hn,hm,by simp [Sort.putCells,hs],?_⟩⟩,Hl _⟩
    have h3:=Ho cur (fK rs') (by rw [kK,hl,hs]; omega)
    rw [kK,hl] at h3
    exact h3
theorem Hq {w:World} {base g cap:Nat} {rs:List dU} (h:w.ownsRow base 41 8 (.slice (some ⟨g,0,none⟩) rs.length cap) rs.length (fK rs)):Sort.HoldsK encR 8 w g 0 rs.toArray:=by
  rcases h.2 with ⟨h0,_⟩ | ⟨g',cap',cur,hv,hg,hb,hn,hm,hs,ht⟩
  · cases h0
  · simp only [Value.slice.injEq,Option.some.injEq,Addr.mk.injEq,true_and,and_true] at hv
    obtain ⟨rfl,rfl⟩:=hv
    unfold Sort.HoldsK
    rw [Hg]
    exact ug hb (by rw [kK]; exact ht)
end Go.Proofs.YteablcielclaeaaGreatDoor
namespace Go.Proofs.YteablcielclaeaaGreatDoor
open Go.ChangeShapes Go.WideShapes Go.ChangeAt Go.RowKit
set_option linter.unusedVariables false
open Go.Lib (hid)
def In4 (m:Int) (b0 b1 b2 b3:Int):Prop:=0≤b0∧b0≤m∧0≤b1∧b1≤m∧0≤b2∧b2≤m∧0≤b3∧b3≤m
def four (b0 b1 b2 b3:Int):List Value:=[.int .i64 b0,.int .i64 b1,.int .i64 b2,.int .i64 b3]
theorem SK {p x:Int} (h0:0≤p) (h1:p≤2) (h2:0≤x) (h3:x≤1200):0≤p * x∧p * x≤2400:=by
 have hp:p=0∨p=1∨p=2:=by omega
 rcases hp with rfl | rfl | rfl <;> omega
def Eo (w:World) (e:Ending) (w':World):Prop:=∃ b0 b1 b2 b3,e=.returned (.agg (four b0 b1 b2 b3).toArray)∧Below w.heap.size w w'
set_option maxHeartbeats 4000000 in
theorem QE (n:Nat) (vg:Value) (gs:List eX) (pl:Int) (w:World) (hg:G9 w vg gs) (hgs:gs.length≤600) (h0:1≤n) (h32:n≤32) (hgood:∀ k (hk:k<gs.length),SE n gs[k]) :
  Calls Tryz.prog 26 #[.int .i64 (n:Int),vg,.int .i64 pl] w (Eo w):=by
 obtain ⟨a,c,rfl,h1,h2,hcells⟩:=hg.form
 unfold maxLen at h2
 have HG:=hid hcells
 have Zc:=hid hgood
 have HR:=hid hg
 have HC:=hid (fun w1 (h:G9 w1 (.slice a gs.length c) gs)=>En n (.slice a gs.length c) gs w1 h hgs h0 h32 hgood)
 clear hg hcells hgood
 go_enter Tryz.func26,Tryz.ntmps26
 go_wp2_with fail
 have hx0:=hid (Box.new w (four 0 0 0 0) 39)
 have hb0:Below w.heap.size w (w.alloc (.cells (four 0 0 0 0).toArray 39)):=(Below.refl _ w).alloc (Nat.le_refl _) _
 have HP:=hid (HC.out _ (G9.below HR.out hb0 (Nat.le_refl _)))
 go_wp2_with fail
 refine HP.out.mono ?_
 rintro e w1 ⟨v,z,rfl,hown,hz,hb1⟩
 obtain ⟨G,cap,rfl⟩:=dY hown (by omega)
 have hGl:=hown.lt G rfl
 simp only [World.size_alloc] at hGl
 have ai1:Below w.heap.size w w1:=hb0.trans (hb1.mono (by simp))
 have hx1:=hid (hx0.out.stays hb1)
 have HO:=hid (hown.alloc (.cells (four 0 0 0 0).toArray 39))
 have hx2:=hid (Box.new w1 (four 0 0 0 0) 39)
 have hbw2:Below w.heap.size w (w1.alloc (.cells (four 0 0 0 0).toArray 39)):=ai1.alloc ai1.size _
 have hx3:=hid (hx1.out.alloc (.cells (four 0 0 0 0).toArray 39))
 obtain ⟨bo,hbo⟩:∃ bo,bo=w1.heap.size:=⟨_,rfl⟩
 have hs2:(w1.alloc (.cells (four 0 0 0 0).toArray 39)).heap.size=bo+1:=by rw [hbo]; simp
 have HZ:=hid hz
 have hzl:=hz.len
 have aom:Hid (Box (w1.alloc (.cells (four 0 0 0 0).toArray 39)) bo (four 0 0 0 0) 39):=hid (by rw [hbo]; exact hx2.out)
 have HSz:Hid ((w1.alloc (.cells (four 0 0 0 0).toArray 39)).heap.size=bo+1):=hid hs2
 have HBo:Hid (bo=w1.heap.size):=hid hbo
 have HB2:=hid hbw2
 have hGb:G<bo:=by rw [hbo]; omega
 have hwb:w.heap.size<bo:=by rw [hbo]; omega
 clear hbo hs2 hbw2 hx0 hx1 hx2 hown hz
 go_wp2_with fail
 go_loopw [18] (fun i wr=>∃ k:Nat,k≤gs.length∧i=.int .i64 k∧Hid (∃ b0 b1 b2 b3,In4 (2400 * k) b0 b1 b2 b3∧Box wr bo (four b0 b1 b2 b3) 39)∧Below bo (w1.alloc (.cells (four 0 0 0 0).toArray 39)) wr) (fun i _=>gs.length - (intOf i).toNat)
 case atStart=>exact ⟨0,Nat.zero_le _,rfl,hid ⟨0,0,0,0,by unfold In4; omega,aom.out⟩,Below.refl _ _⟩
 case round =>
  obtain ⟨k,hk,rfl,HK,hbl⟩:=hrel
  rw [show w1.heap.size=bo from HBo.out.symm]
  by_cases hlt:k<gs.length
  ·have Dq:Below (w1.alloc (.cells (four 0 0 0 0).toArray 39)).heap.size.pred.succ.pred (w1.alloc (.cells (four 0 0 0 0).toArray 39)) wr:=by rw [HSz.out]; exact hbl
   have hbw:Below w.heap.size w wr:=HB2.out.trans (hbl.mono (by omega))
   obtain ⟨gb,o,rfl,hgb,c0,c1,c2⟩:=HG.out k hlt
   have d0:=(hbw.cell (p:=⟨gb,o+k * 3,none⟩) hgb).trans c0
   have d1:=(hbw.cell (p:=⟨gb,o+k * 3+1,none⟩) hgb).trans c1
   have d2:=(hbw.cell (p:=⟨gb,o+k * 3+2,none⟩) hgb).trans c2
   clear c0 c1 c2 Dq
   have hsz:bo+1≤wr.heap.size:=by have:=hbl.size; rw [HSz.out] at this; exact this
   have hlz:(k:Int)<gs.length:=by omega
   obtain ⟨r1,r2,r3,r4,r5,r6,r7⟩:=Zc.out k hlt
   obtain ⟨b0,b1,b2,b3,hin,hbx⟩:=HK.out
   obtain ⟨i0,i0',i1,i1',i2,i2',i3,i3'⟩:=hin
   have Me:=hid hbx
   have e0:wr.cell? ⟨bo,0,none⟩=some (.int .i64 b0):=hbx.cell 0 rfl
   have e1:wr.cell? ⟨bo,1,none⟩=some (.int .i64 b1):=hbx.cell 1 rfl
   have e2:wr.cell? ⟨bo,2,none⟩=some (.int .i64 b2):=hbx.cell 2 rfl
   have e3:wr.cell? ⟨bo,3,none⟩=some (.int .i64 b3):=hbx.cell 3 rfl
   have f0:=hbx.frozen 0
   have f1:=hbx.frozen 1
   have f2:=hbx.frozen 2
   have f3:=hbx.frozen 3
   clear hbx HK
   generalize gs[k]=gk at *
   obtain ⟨x,y,p⟩:=gk
   simp only at *
   obtain ⟨i,rfl⟩:∃ i:Nat,x=(i:Int):=⟨x.toNat,by omega⟩
   obtain ⟨j,rfl⟩:∃ i:Nat,y=(i:Int):=⟨y.toNat,by omega⟩
   have q6:i<n:=by omega
   have q7:j<n:=by omega
   have n1:¬ bo=wr.heap.size:=by omega
   have n2:¬ wr.heap.size=bo:=by omega
   have n5:¬ bo=G:=by omega
   have lb:bo<wr.heap.size:=by omega
   have lG:G<wr.heap.size:=by omega
   have lw:w.heap.size<wr.heap.size:=by omega
   have n6:¬ G=bo:=by omega
   have n7:¬ G=wr.heap.size:=by omega
   have n8:¬ wr.heap.size=G:=by omega
   have k2:wr.cell? ⟨G,i,none⟩=some (.int .i64 (z.getD i 0)):=(hbl.cell (p:=⟨G,i,none⟩) hGb).trans ((HO.out.cellAt i (by omega)).trans (dI _ i (by omega)))
   have k3:wr.cell? ⟨G,j,none⟩=some (.int .i64 (z.getD j 0)):=(hbl.cell (p:=⟨G,j,none⟩) hGb).trans ((HO.out.cellAt j (by omega)).trans (dI _ j (by omega)))
   obtain ⟨m1,m1'⟩:=HZ.out.bnd i
   obtain ⟨m2,m2'⟩:=HZ.out.bnd j
   generalize z.getD i 0=zi at *
   generalize z.getD j 0=zj at *
   have p1:=SK (p:=p) (x:=zj) r6 r7 m2 (by omega)
   have p2:=SK (p:=2 - p) (x:=zi) (by omega) (by omega) m1 (by omega)
   by_cases ha:pl=i
   ·subst ha
    have ne1:¬ (i:Int)=(j:Int):=by omega
    obtain ⟨mm,hmm⟩:∃ mm,p * zj=mm:=⟨_,rfl⟩
    rw [hmm] at p1
    by_cases hp:p=2
    ·skip
     go_wp2_with fail
     go_quiet (fail)
     go_wp2_with fail
     go_region
     go_wp2_with fail
     go_region
     go_wp2_with fail
     go_roundw
     case rel=>exact ⟨k+1,by omega,by go_num,hid ⟨b0+zj,b1+2 * zj,b2+1,b3,by unfold In4; push_cast; omega,(((((Me.out.alloc _).drewN _).set 0 _).set 1 _).set 2 _).drew⟩,(((((below_drewN (hbl.alloc (by omega) _) _)).setCell (Nat.le_refl _) _).setCell (Nat.le_refl _) _).setCell (Nat.le_refl _) _).drew⟩
     case measure=>simp [intOf]; omega
    ·skip
     go_wp2_with fail
     go_quiet (fail)
     go_wp2_with fail
     go_region
     go_wp2_with fail
     go_region
     go_wp2_with fail
     go_roundw
     case rel=>exact ⟨k+1,by omega,by go_num,hid ⟨b0+zj,b1+mm,b2,b3,by unfold In4; push_cast; omega,((((Me.out.alloc _).drewN _).set 0 _).set 1 _).drew⟩,((((below_drewN (hbl.alloc (by omega) _) _)).setCell (Nat.le_refl _) _).setCell (Nat.le_refl _) _).drew⟩
     case measure=>simp [intOf]; omega
   ·by_cases hb:pl=j
    ·subst hb
     have ne1:¬ (j:Int)=(i:Int):=by omega
     obtain ⟨mm,hmm⟩:∃ mm,(2 - p) * zi=mm:=⟨_,rfl⟩
     rw [hmm] at p2
     by_cases hp:2 - p=2
     ·skip
      go_wp2_with fail
      go_quiet (fail)
      go_wp2_with fail
      go_quiet (fail)
      go_wp2_with fail
      go_region
      go_wp2_with fail
      go_region
      go_wp2_with fail
      go_roundw
      case rel=>exact ⟨k+1,by omega,by go_num,hid ⟨b0+zi,b1+2 * zi,b2+1,b3+1,by unfold In4; push_cast; omega,((((((Me.out.alloc _).drewN _).set 3 _).set 0 _).set 1 _).set 2 _).drew.drew⟩,((((((below_drewN (hbl.alloc (by omega) _) _)).setCell (Nat.le_refl _) _).setCell (Nat.le_refl _) _).setCell (Nat.le_refl _) _).setCell (Nat.le_refl _) _).drew.drew⟩
      case measure=>simp [intOf]; omega
     ·skip
      go_wp2_with fail
      go_quiet (fail)
      go_wp2_with fail
      go_quiet (fail)
      go_wp2_with fail
      go_region
      go_wp2_with fail
      go_region
      go_wp2_with fail
      go_roundw
      case rel=>exact ⟨k+1,by omega,by go_num,hid ⟨b0+zi,b1+mm,b2,b3+1,by unfold In4; push_cast; omega,(((((Me.out.alloc _).drewN _).set 3 _).set 0 _).set 1 _).drew.drew⟩,(((((below_drewN (hbl.alloc (by omega) _) _)).setCell (Nat.le_refl _) _).setCell (Nat.le_refl _) _).setCell (Nat.le_refl _) _).drew.drew⟩
      case measure=>simp [intOf]; omega
    ·go_wp2_with fail
     go_quiet (fail)
     go_wp2_with fail
     go_roundw
     case rel=>exact ⟨k+1,by omega,by go_num,hid ⟨b0,b1,b2,b3,by unfold In4; push_cast; omega,(Me.out.alloc _).drewN _⟩,(below_drewN (hbl.alloc (by omega) _) _)⟩
     case measure=>simp [intOf]; omega
  ·obtain rfl:k=gs.length:=by omega
   obtain ⟨b0,b1,b2,b3,hin,hbx⟩:=HK.out
   have Me:=hid hbx
   have hbw:Below w.heap.size w wr:=HB2.out.trans (hbl.mono (by omega))
   have hx9:=hid (hx3.out.below hbl hwb)
   clear hbx HK hin
   go_upto_region 17 with (fail)
   refine wp_region_lit ?_
   refine aH (by rfl) 39 (.tmp 8) (by rfl) bo (by rfl) Me.out Tryz.underlying39 (by rfl) (by kernel_rfl) ?_
   refine aT (vs:=four b0 b1 b2 b3) (by rfl) 39 (.tmp 6) (.tmp 68) (by rfl) w.heap.size (by rfl) (by rfl) hx9.out (by rfl) (by kernel_rfl) (by rfl) ?_
   have HS:=hid (hx9.out.store (vs:=four b0 b1 b2 b3) rfl)
   have Ir:=hid (below_setCells hbw (Nat.le_refl _) 0 (four b0 b1 b2 b3))
   generalize wr.setCells w.heap.size 0 (four b0 b1 b2 b3)=wf at *
   go_wp2_with fail
   exact bodyPost_ret (dJ rfl (by rfl) HS.out Tryz.underlying39 (by rfl) (by kernel_rfl)) rfl ⟨_,_,_,_,rfl,Ir.out⟩
def SortRowsSaid:Prop:=∀ (base g cap:Nat) (rs:List dU) (w:World),1≤rs.length→rs.length<20→w.ownsRow base 41 8 (.slice (some ⟨g,0,none⟩) rs.length cap) rs.length (fK rs) →
 Calls Tryz.prog 27 #[.slice (some ⟨g,0,none⟩) rs.length cap,.func (.func 28) #[] #[]] w fun e w'=>e=.returned (.tuple #[]) ∧
  ∃ ts:List dU,ts.length=rs.length∧ts.Perm rs∧(∀ i j (hi:i<ts.length) (hj:j<ts.length),i<j→ltR ts[j] ts[i]=false)∧w'.ownsRow base 41 8 (.slice (some ⟨g,0,none⟩) rs.length cap) rs.length (fK ts)∧w.grownBy w' (some g)
def mY (l:List dU) (y:dU):Nat:=(l.filter fun x=>decide (BJ x y<0)).length
def uh (l:List dU) (y:dU):Nat:=(l.filter fun x=>decide (BJ x y=0)).length
theorem xg (l:List dU) (y:dU) (q:Nat) (hq:q<l.length):mY (l.take (q+1)) y=mY (l.take q) y+if BJ l[q] y<0 then 1 else 0:=by
 unfold mY
 rw [List.take_succ_eq_append_getElem hq,List.filter_append,List.length_append]
 congr 1
 by_cases h:BJ l[q] y<0 <;> simp [h]
theorem xq (l:List dU) (y:dU) (q:Nat) (hq:q<l.length):uh (l.take (q+1)) y=uh (l.take q) y+if BJ l[q] y=0 then 1 else 0:=by
 unfold uh
 rw [List.take_succ_eq_append_getElem hq,List.filter_append,List.length_append]
 congr 1
 by_cases h:BJ l[q] y=0 <;> simp [h]
theorem acG (l:List dU) (y:dU) (q:Nat):mY (l.take q) y≤q∧uh (l.take q) y≤q:=by
 unfold mY uh
 exact ⟨Nat.le_trans (List.length_filter_le _ _) (by simp; omega),Nat.le_trans (List.length_filter_le _ _) (by simp; omega)⟩
def jH (l:List dU) (y:dU):dU:={ y with fr:=1+mY l y,tq:=mY l y+uh l y }
structure yX (S T:List dU) (k:Nat) (r:dU):Prop where
 len:T.length=S.length
 done:∀ j (h:j<T.length) (h':j<S.length),j<k→T[j]=jH S S[j]
 here:∀ (h:k<T.length),T[k]=r
 rest:∀ j (h:j<T.length) (h':j<S.length),k<j→T[j]=S[j]
theorem yX.cf {S T:List dU} {k q:Nat} {r:dU} (h:yX S T k r) (hk:k<S.length) (hr:∃ a b,r={ S[k] with fr:=a,tq:=b }) (hq:q<T.length) (hqS:q<S.length) (y:dU):BJ T[q] y=BJ S[q] y:=by
 rcases Nat.lt_trichotomy q k with h1 | h1 | h1
 ·rw [h.done q hq hqS h1]; rfl
 ·subst h1
  obtain ⟨a,b,hr⟩:=hr
  rw [h.here hq,hr]; rfl
 ·rw [h.rest q hq hqS h1]
theorem yX.set {S T:List dU} {k:Nat} {r r':dU} (h:yX S T k r):yX S (T.set k r') k r' where
 len:=by rw [List.length_set]; exact h.len
 done j h1 h2 hj:=by rw [List.getElem_set_ne (by omega)]; exact h.done j (by simpa using h1) h2 hj
 here h1:=by rw [List.getElem_set_self]
 rest j h1 h2 hj:=by rw [List.getElem_set_ne (by omega)]; exact h.rest j (by simpa using h1) h2 hj
theorem uN (T:List dU) (k j:Nat) (hk:k<T.length) (hj:j<8) (v:Value) (r:dU) (hr:(encR T[k]).set j v=encR r):(fK T).set (k * 8+j) v=fK (T.set k r):=by
 apply List.ext_getElem?
 intro t
 by_cases ht:t<T.length * 8
 ·obtain ⟨q,s,hs,rfl⟩:∃ q s,s<8∧t=q * 8+s:=⟨t / 8,t % 8,Nat.mod_lt _ (by decide),by omega⟩
  have hq:q<T.length:=by omega
  rw [qL (T.set k r) q s (by simpa using hq) hs,List.getElem?_set]
  by_cases hqk:k=q
  ·subst hqk
   rw [List.getElem_set_self,← hr,List.getElem?_set]
   by_cases hjs:j=s
   ·subst hjs; simp [kK]; rw [if_pos (by omega),if_pos (by show j<8; omega)]
   ·rw [if_neg (by omega),if_neg hjs,qL T k s hk hs]
  ·rw [List.getElem_set_ne hqk,if_neg (by omega),qL T q s hq hs]
 ·rw [List.getElem?_eq_none (by simp [kK]; omega),List.getElem?_eq_none (by simp [kK]; omega)]
structure SL (n k:Nat) (rs:List dU):Prop where
 len:rs.length=n
 sum:(rs.map (·.pts)).sum=2 * k
 sorted:∀ i j (hi:i<rs.length) (hj:j<rs.length),i<j→ltR rs[j] rs[i]=false
 fr:∀ i (hi:i<rs.length),rs[i].fr=1+mY rs rs[i]∧rs[i].tq=mY rs rs[i]+uh rs rs[i]
 pb:∀ i (hi:i<rs.length),0≤rs[i].pts∧rs[i].pts≤2 * k
theorem acH (S:List dU) (y z:dU):mY (S.map (jH S)) (jH S z)=mY S z∧uh (S.map (jH S)) (jH S z)=uh S z:=by
 unfold mY uh
 rw [List.filter_map,List.filter_map,List.length_map,List.length_map]
 exact ⟨rfl,rfl⟩
theorem Zf {l l':List Int} (h:l.Perm l'):l.sum=l'.sum:=by
 induction h with
 | nil=>rfl
 | cons x _ ih=>simp [ih]
 | swap x y l=>simp only [List.sum_cons]; omega
 | trans _ _ h1 h2=>exact h1.trans h2
theorem cnt_mono {l:List dU} {y z:dU} (h:∀ x∈l,BJ x y<0→BJ x z<0):mY l y≤mY l z:=by
 unfold mY
 rw [← List.countP_eq_length_filter,← List.countP_eq_length_filter]
 exact List.countP_mono_left (fun x hx hp=>by simpa using h x hx (by simpa using hp))
theorem SL.mono {n k:Nat} {rs:List dU} (h:SL n k rs) (i j:Nat) (hi:i<rs.length) (hj:j<rs.length) (hij:i<j):rs[j].pts≤rs[i].pts∧rs[i].fr≤rs[j].fr:=by
 have hs:=h.sorted i j hi hj hij
 refine ⟨acE _ _ hs,?_⟩
 rw [(h.fr i hi).1,(h.fr j hj).1]
 have:=cnt_mono (l:=rs) (y:=rs[i]) (z:=rs[j]) (fun x _ hx=>by
  cases hc:ltR x rs[j] with
  | true=>exact (Nb _ _).1 hc
  | false =>
   have:=(uM _ _).1 (SI.ntrans _ _ _ hc hs)
   omega)
 omega
theorem afB {n k:Nat} {z:List Int} {rs S T:List dU} (hz:Jr n k z) (hrs:rs.map (·.pts)=z) (hp:S.Perm rs) (hs:∀ i j (hi:i<S.length) (hj:j<S.length),i<j→ltR S[j] S[i]=false)
  (hl:T.length=S.length) (hT:∀ j (h:j<T.length) (h':j<S.length),T[j]=jH S S[j]):SL n k T:=by
 have hTe:T=S.map (jH S):=by
  apply List.ext_getElem (by simpa using hl)
  intro j h1 h2
  rw [hT j h1 (by simpa using h2),List.getElem_map]
 have hrl:rs.length=n:=by rw [← hz.len,← hrs,List.length_map]
 refine ⟨by rw [hl,hp.length_eq,hrl],?_,fun i j hi hj hij=>?_,fun i hi=>?_,fun i hi=>?_⟩
 ·rw [hTe,List.map_map]
  have:((fun r:dU=>r.pts) ∘ jH S)=fun r=>r.pts:=rfl
  rw [this,Zf (hp.map _),hrs,hz.sum]
 ·rw [hT j hj (by omega),hT i hi (by omega)]
  exact hs i j (by omega) (by omega) hij
 ·obtain ⟨e1,e2⟩:=acH S S[i] S[i]
  rw [← hTe] at e1 e2
  rw [hT i hi (by omega),e1,e2]
  exact ⟨rfl,rfl⟩
 ·rw [hT i hi (by omega)]
  have hm:S[i].pts∈z:=by rw [← hrs]; exact List.mem_map_of_mem (hp.mem_iff.1 (List.getElem_mem (by omega)))
  obtain ⟨q,hq,e⟩:=List.getElem_of_mem hm
  have:=hz.bnd q
  rw [List.getD_eq_getElem?_getD,List.getElem?_eq_getElem hq,Option.getD_some,e] at this
  exact this
theorem afC (S:List dU) (y:dU) (q:Nat) (hq:q<S.length) (h:BJ S[q] y<0):jH (S.take (q+1)) y={ jH (S.take q) y with fr:=(jH (S.take q) y).fr+1,tq:=(jH (S.take q) y).tq+1 }:=by
 unfold jH
 rw [xg S y q hq,xq S y q hq,if_pos h,if_neg (by omega)]
 simp only [dU.mk.injEq,true_and]
 omega
theorem afD (S:List dU) (y:dU) (q:Nat) (hq:q<S.length) (h:BJ S[q] y=0):jH (S.take (q+1)) y={ jH (S.take q) y with tq:=(jH (S.take q) y).tq+1 }:=by
 unfold jH
 rw [xg S y q hq,xq S y q hq,if_neg (by omega),if_pos h]
 simp only [dU.mk.injEq,true_and]
 omega
theorem afE (S:List dU) (y:dU) (q:Nat) (hq:q<S.length) (h:0<BJ S[q] y):jH (S.take (q+1)) y=jH (S.take q) y:=by
 unfold jH
 rw [xg S y q hq,xq S y q hq,if_neg (by omega),if_neg (by omega)]
 rfl
theorem acI (S:List dU) (y:dU) (q:Nat):1≤(jH (S.take q) y).fr∧(jH (S.take q) y).fr≤1+q∧0≤(jH (S.take q) y).tq∧(jH (S.take q) y).tq≤2 * q:=by
 have:=acG S y q
 unfold jH
 simp only
 omega
structure Out (S T:List dU) (k:Nat):Prop where
 len:T.length=S.length
 done:∀ j (h:j<T.length) (h':j<S.length),j<k→T[j]=jH S S[j]
 rest:∀ j (h:j<T.length) (h':j<S.length),k≤j→T[j]=S[j]
theorem Out.start (S:List dU):Out S S 0:=⟨rfl,fun j _ _ h=>by omega,fun _ _ _ _=>rfl⟩
theorem Out.mid {S T:List dU} {k:Nat} (h:Out S T k) (hk:k<S.length) (h0:S[k].tq=0):yX S (T.set k { S[k] with fr:=1 }) k (jH (S.take 0) S[k]) where
 len:=by rw [List.length_set]; exact h.len
 done j h1 h2 hj:=by rw [List.getElem_set_ne (by omega)]; exact h.done j (by simpa using h1) h2 hj
 here h1:=by
  rw [List.getElem_set_self]
  unfold jH
  simp only [List.take_zero,mY,uh,List.filter_nil,List.length_nil,dU.mk.injEq,true_and]
  rw [h0]
  exact ⟨rfl,rfl⟩
 rest j h1 h2 hj:=by rw [List.getElem_set_ne (by omega)]; exact h.rest j (by simpa using h1) h2 (by omega)
theorem yX.out {S T:List dU} {k:Nat} (hk:k<S.length) (h:yX S T k (jH (S.take S.length) S[k])):Out S T (k+1) where
 len:=h.len
 done j h1 h2 hj:=by
  by_cases e:j=k
  ·subst e; rw [h.here h1,List.take_length]
  ·exact h.done j h1 h2 (by omega)
 rest j h1 h2 hj:=h.rest j h1 h2 (by omega)
theorem dS {w:World} {base G cap n:Nat} {T:List dU} (h:w.ownsRow base 41 8 (.slice (some ⟨G,0,none⟩) n cap) n (fK T)) (hl:T.length=n) (q:Nat) (hq:q<T.length) {x:dU} (hx:T[q]=x) (j:Nat) (hj:j<8) {v:Value} (hv:(encR x)[j]?=some v):w.cell? ⟨G,q * 8+j,none⟩=some v:=by
 rw [h.cellAt (q * 8+j) (by omega),qL T q j hq hj,hx,hv]
def acJ (n:Int) (gs:List eX) (w:World) (e:Ending) (w':World):Prop:=
 (vJ n gs≠0∧e=.returned (.tuple #[.slice none 0 0,.int .i64 (vJ n gs)])∧Below w.heap.size w w') ∨
 (vJ n gs=0∧∃ g cap rs,e=.returned (.tuple #[.slice (some ⟨g,0,none⟩) rs.length cap,.int .i64 0])∧w'.ownsRow w.heap.size 41 8 (.slice (some ⟨g,0,none⟩) rs.length cap) rs.length (fK rs)∧SL n.toNat gs.length rs∧Below w.heap.size w w')
theorem Zg:(Tryz.prog.info? 41).map (fun i=>(i.zero,i.size,i.bytes))=some (some (.agg #[.int .i64 0,.int .i64 0,.int .i64 0,.int .i64 0,.int .i64 0,.int .i64 0,.int .i64 0,.int .i64 0]),8,64):=by kernel_rfl
theorem below_grow {w:World} (n:Nat) (os:Array Obj):Below w.heap.size w (Sort.grow (w.drewN n) os):=
 ⟨rfl,rfl,rfl,by rw [Sort.size_grow]; exact Nat.le_add_right _ _,fun k hk=>by rw [Sort.heap_grow_old (w.drewN n) os hk]; rfl⟩
set_option maxRecDepth 100000 in
set_option maxHeartbeats 8000000 in
theorem Va (HS:SortRowsSaid) (n:Int) (vg:Value) (gs:List eX) (w:World) (hg:G9 w vg gs) (h20:n<20):Calls Tryz.prog 8 #[.int .i64 n,vg] w (acJ n gs w):=by
 have JQ:=hid (QC n vg gs w hg)
 have HR:=hid hg
 have HSo:=hid HS
 by_cases hc:vJ n gs=0
 ·obtain ⟨⟨q1,q2,q3⟩,hgood⟩:=Za hc
  obtain ⟨N,rfl⟩:∃ N:Nat,n=(N:Int):=⟨n.toNat,by omega⟩
  have hN1:1≤N:=by omega
  have hN2:N≤32:=by omega
  have hN3:N<20:=by omega
  have HP:=hid (fun w1 (h:G9 w1 vg gs)=>En N vg gs w1 h q3 hN1 hN2 hgood)
  have HB:=hid (fun pl w1 (h:G9 w1 vg gs)=>QE N vg gs pl w1 h q3 hN1 hN2 hgood)
  have HC0:=hid hc
  rw [hc] at JQ
  clear hg HS hc hgood q1 q2 q3
  go_enter Tryz.func8,Tryz.ntmps8
  go_wp2_with fail
  refine JQ.out.mono ?_
  rintro e w1 ⟨rfl,hb1⟩
  go_wp2_with fail
  refine (HP.out w1 (G9.below HR.out hb1 (Nat.le_refl _))).mono ?_
  rintro e w2 ⟨v2,z,rfl,hown2,hz,hb2⟩
  obtain ⟨G2,cap2,rfl⟩:=dY hown2 (by omega)
  have hbw2:Below w.heap.size w w2:=hb1.trans (hb2.mono hb1.size)
  have HZ:=hid hz
  have hzl:=hz.len
  have xH:=hid hown2
  have HB2:=hid hbw2
  have hG2:=(hown2.lt G2 rfl).2
  clear hown2 hz hb1 hb2 hbw2
  go_wp2_with fail
  go_loopw [24,7] (fun i v wr=>∃ k:Nat,k≤N∧i=.int .i64 k∧Hid (∃ rs:List dU,wr.ownsRow w2.heap.size 41 8 v k (fK rs)∧rs.length=k∧rs.map (·.pts)=z.take k∧(∀ r∈rs,r.fr=0∧r.tq=0))∧Below w2.heap.size w2 wr) (fun i _ _=>N - (intOf i).toNat)
  case atStart=>exact ⟨0,Nat.zero_le _,rfl,hid ⟨[],World.ownsRow_nil _ _ _ _,rfl,rfl,by simp⟩,Below.refl _ _⟩
  case round =>
   obtain ⟨k,hk,rfl,HK,hbl⟩:=hrel
   by_cases hlt:k<N
   ·have hlz:(k:Int)<(N:Int):=by omega
    have ck:wr.cell? ⟨G2,k,none⟩=some (.int .i64 (z.getD k 0)):=(hbl.cell (p:=⟨G2,k,none⟩) hG2).trans ((xH.out.cellAt k (by omega)).trans (dI _ k (by omega)))
    have hbw:Below w.heap.size w wr:=HB2.out.trans (hbl.mono HB2.out.size)
    have hbr:=HB.out (k:Int) wr (G9.below HR.out hbw (Nat.le_refl _))
    unfold Eo four at hbr
    have bn:=hid hbr
    clear hbr
    obtain ⟨rs,hown,hrl,hrm,hr0⟩:=HK.out
    obtain ⟨av,cv,rfl⟩:=aG hown
    have HOw:=hid hown
    have HRl:=hid hrl
    have HRm:=hid hrm
    have HR0:=hid hr0
    have HZk:=hid (show z.take (k+1)=z.take k++[z.getD k 0] by
     rw [List.take_succ_eq_append_getElem (show k<z.length by omega)]; congr 2; rw [List.getD_eq_getElem?_getD,List.getElem?_eq_getElem (show k<z.length by omega)]; rfl)
    clear hown hrl hrm hr0 HK
    generalize z.getD k 0=zk at *
    go_wp2_with fail
    refine bn.out.mono ?_
    rintro e w3 ⟨b0,b1,b2,b3,rfl,hb3⟩
    have oz:=hid (aS HOw.out hb3)
    have hs3:w2.heap.size≤w3.heap.size:=Nat.le_trans hbl.size hb3.size
    have HB3:Hid (Below w2.heap.size w2 w3):=hid (hbl.trans (hb3.mono hbl.size))
    go_wp2_with (at_builtin; refine fV 36 41 (.agg #[.int .i64 0,.int .i64 0,.int .i64 0,.int .i64 0,.int .i64 0,.int .i64 0,.int .i64 0,.int .i64 0]) 8 64 Zg Tryz.underlying36 rfl (by decide) (by rfl) _ _ (by rfl) w2.heap.size _ k (fK rs) (encR ⟨k,zk,b0,b1,b2,b3,0,0⟩) w3 oz.out hs3 rfl (Nc _) (by omega) (by omega) (by rfl) (by rfl) ?_; intro g4 cap4 w4 hown4 hkeep hgr)
    have HO4:=hid hown4
    have HB4:Hid (Below w2.heap.size w2 w4):=hid (hkeep.below HB3.out (Nat.le_refl _))
    clear hown4 hkeep hgr
    go_wp2_with fail
    go_roundw
    case rel =>
     refine ⟨k+1,by omega,by go_num,hid ⟨rs++[⟨k,zk,b0,b1,b2,b3,0,0⟩],?_,by rw [List.length_append,HRl.out]; rfl,by rw [List.map_append,HRm.out,HZk.out]; rfl,fun r hr=>?_⟩,HB4.out⟩
     ·rw [Jt]; exact HO4.out
     ·rcases List.mem_append.1 hr with h | h
      ·exact HR0.out r h
      ·simp only [List.mem_singleton] at h; subst h; exact ⟨rfl,rfl⟩
    case measure=>simp [intOf]; omega
   ·obtain rfl:k=N:=by omega
    obtain ⟨rs,hown,hrl,hrm,hr0⟩:=HK.out
    rw [show z.take k=z by rw [List.take_of_length_le (by omega)]] at hrm
    obtain ⟨G,cap,rfl⟩:=dY hown (by omega)
    obtain rfl:=hrl
    have hGb:=hown.lt G rfl
    have HSr:=hid (HSo.out w2.heap.size G cap rs wr hN1 hN3 hown)
    have HRm:=hid hrm
    have HR0:=hid hr0
    clear hown hrm hr0 HK
    go_wp2_with fail
    refine HSr.out.mono ?_
    rintro e w5 ⟨rfl,S,hSl,hSp,hSs,hown5,hg5⟩
    have hb5:Below w2.heap.size w2 w5:=Below.grown hbl hg5 hbl.size (fun q hq=>by simp at hq; subst hq; exact hGb.1)
    have HSp:=hid hSp
    have HSs:=hid hSs
    have HS0:Hid (∀ r∈S,r.fr=0∧r.tq=0):=hid fun r hr=>HR0.out r (hSp.mem_iff.1 hr)
    have O8:=hid hown5
    have HG5:=hid hb5
    have hG5:G<w5.heap.size:=(hown5.lt G rfl).2
    clear hSp hSs hown5 hg5 hb5
    have hSN:S.length=rs.length:=hSl
    go_wp2_with fail
    go_loopw [44] (fun i wr=>∃ k:Nat,k≤rs.length∧i=.int .i64 k∧Hid (∃ T,wr.ownsRow w2.heap.size 41 8 (.slice (some ⟨G,0,none⟩) rs.length cap) rs.length (fK T)∧Out S T k)∧Below w2.heap.size w2 wr) (fun i _=>rs.length - (intOf i).toNat)
    case atStart=>exact ⟨0,Nat.zero_le _,rfl,hid ⟨S,O8.out,Out.start S⟩,HG5.out⟩
    case round =>
     obtain ⟨k,hk,rfl,HK,Dq⟩:=hrel
     by_cases hlt:k<rs.length
     ·obtain ⟨T,hown,hOut⟩:=HK.out
      have hTl:T.length=rs.length:=by rw [hOut.len,hSN]
      have hkS:k<S.length:=by omega
      have hkT:k<T.length:=by omega
      have hTk:T[k]=S[k]:=hOut.rest k hkT hkS (Nat.le_refl _)
      have hlz:(k:Int)<(rs.length:Int):=by omega
      have c6:wr.cell? ⟨G,k * 8+6,none⟩=some (.int .i64 S[k].fr):=dS hown hTl k hkT hTk 6 (by omega) rfl
      have f6:wr.frozen? ⟨G,k * 8+6,none⟩=false:=hown.frozenAt (k * 8+6)
      have Aa:=hid (hOut.mid hkS (HS0.out _ (List.getElem_mem hkS)).2)
      have VZ:Hid ((wr.setCell ⟨G,k * 8+6,none⟩ (.int .i64 1)).ownsRow w2.heap.size 41 8 (.slice (some ⟨G,0,none⟩) rs.length cap) rs.length (fK (T.set k { S[k] with fr:=1 }))):=hid (by
       have:=(hown.stored (k * 8+6) (.int .i64 1)).1
       rw [uN T k 6 hkT (by omega) (.int .i64 1) { S[k] with fr:=1 } (by rw [hTk]; rfl)] at this
       exact this)
      have Oo:Hid (Below w2.heap.size w2 (wr.setCell ⟨G,k * 8+6,none⟩ (.int .i64 1))):=hid (Dq.setCell hGb.1 _)
      obtain ⟨sk,hsk⟩:∃ sk,sk=S[k]:=⟨_,rfl⟩
      have HSK:=hid hsk
      have hS0:¬ G<w2.heap.size:=by omega
      clear hown hOut HK
      go_wp2_with fail
      go_loopw [53] (fun i wr3=>∃ q:Nat,q≤rs.length∧i=.int .i64 q∧Hid (∃ T,wr3.ownsRow w2.heap.size 41 8 (.slice (some ⟨G,0,none⟩) rs.length cap) rs.length (fK T)∧yX S T k (jH (S.take q) sk))∧Below w2.heap.size w2 wr3) (fun i _=>rs.length - (intOf i).toNat)
      case atStart=>exact ⟨0,Nat.zero_le _,rfl,hid ⟨_,VZ.out,by rw [HSK.out]; exact Aa.out⟩,Oo.out⟩
      case round =>
       clear hsk hTk c6 f6
       obtain ⟨q,hq,rfl,HQ,afF⟩:=hrel
       by_cases hq2:q<rs.length
       ·skip
        obtain ⟨T2,hown2,Nh⟩:=HQ.out
        have rZ:T2.length=rs.length:=by rw [Nh.len,hSN]
        have hqT:q<T2.length:=by omega
        have yY:k<T2.length:=by omega
        have hqS:q<S.length:=by omega
        have hqz:(q:Int)<(rs.length:Int):=by omega
        obtain ⟨x,hx⟩:∃ x,T2[q]=x:=⟨_,rfl⟩
        obtain ⟨y,hy⟩:∃ y,jH (S.take q) sk=y:=⟨_,rfl⟩
        have hyT:T2[k]=y:=by rw [← hy]; exact Nh.here yY
        have hcf:BJ x y=BJ S[q] sk:=by
         rw [← hx,Nh.cf hkS ⟨_,_,by rw [← HSK.out]; rfl⟩ hqT hqS,← hy]; rfl
        have hbn:=acI S sk q
        rw [hy] at hbn
        obtain ⟨y1,y2,y3,y4⟩:=hbn
        have rD:Hid (yX S T2 k y):=hid (by rw [← hy]; exact Nh)
        have HY:=hid hy
        have HCf:=hid hcf
        have HX:=hid hx
        have Om:=hid hyT
        have HLE:=hid (show y.fr≤33∧y.tq≤64 by omega)
        have a0:wr.cell? ⟨G,q * 8,none⟩=some (.int .i64 x.pl):=dS hown2 rZ q hqT hx 0 (by omega) rfl
        have a1:wr.cell? ⟨G,q * 8+1,none⟩=some (.int .i64 x.pts):=dS hown2 rZ q hqT hx 1 (by omega) rfl
        have a2:wr.cell? ⟨G,q * 8+2,none⟩=some (.int .i64 x.b0):=dS hown2 rZ q hqT hx 2 (by omega) rfl
        have a3:wr.cell? ⟨G,q * 8+3,none⟩=some (.int .i64 x.b1):=dS hown2 rZ q hqT hx 3 (by omega) rfl
        have a4:wr.cell? ⟨G,q * 8+4,none⟩=some (.int .i64 x.b2):=dS hown2 rZ q hqT hx 4 (by omega) rfl
        have a5:wr.cell? ⟨G,q * 8+5,none⟩=some (.int .i64 x.b3):=dS hown2 rZ q hqT hx 5 (by omega) rfl
        have a6:wr.cell? ⟨G,q * 8+6,none⟩=some (.int .i64 x.fr):=dS hown2 rZ q hqT hx 6 (by omega) rfl
        have a7:wr.cell? ⟨G,q * 8+7,none⟩=some (.int .i64 x.tq):=dS hown2 rZ q hqT hx 7 (by omega) rfl
        have Ws:=hid (hown2.alloc (.cells (encR x).toArray 41))
        have hBx:=Box.new wr (encR x) 41
        have HB8:Hid (Below w2.heap.size w2 (wr.alloc (.cells (encR x).toArray 41))):=hid (afF.alloc afF.size _)
        obtain ⟨bx,hbx⟩:∃ b,b=wr.heap.size:=⟨_,rfl⟩
        have hbG:G<bx:=by rw [hbx]; exact (hown2.lt G rfl).2
        clear hown2 Nh HQ hx hy hyT hcf
        unfold encR at Ws hBx HB8
        go_upto_region 18 with (fail)
        obtain ⟨wq,hwq⟩:∃ wq,wq=wr.alloc (.cells [.int .i64 x.pl,.int .i64 x.pts,.int .i64 x.b0,.int .i64 x.b1,.int .i64 x.b2,.int .i64 x.b3,.int .i64 x.fr,.int .i64 x.tq].toArray 41):=⟨_,rfl⟩
        rw [← hwq] at Ws hBx HB8 ⊢
        rw [← hbx] at hBx ⊢
        clear hwq hbx a0 a1 a2 a3 a4 a5 a6 a7
        have A0:∀ n os,(Sort.grow (wq.drewN n) os).cell? ⟨bx,0,none⟩=some (.int .i64 x.pl):=fun n os=>cell_grown (by exact hBx.lt) (hBx.cell 0 rfl) n os
        have A1:∀ n os,(Sort.grow (wq.drewN n) os).cell? ⟨bx,1,none⟩=some (.int .i64 x.pts):=fun n os=>cell_grown (by exact hBx.lt) (hBx.cell 1 rfl) n os
        have A2:∀ n os,(Sort.grow (wq.drewN n) os).cell? ⟨bx,2,none⟩=some (.int .i64 x.b0):=fun n os=>cell_grown (by exact hBx.lt) (hBx.cell 2 rfl) n os
        have A3:∀ n os,(Sort.grow (wq.drewN n) os).cell? ⟨bx,3,none⟩=some (.int .i64 x.b1):=fun n os=>cell_grown (by exact hBx.lt) (hBx.cell 3 rfl) n os
        have A4:∀ n os,(Sort.grow (wq.drewN n) os).cell? ⟨bx,4,none⟩=some (.int .i64 x.b2):=fun n os=>cell_grown (by exact hBx.lt) (hBx.cell 4 rfl) n os
        have A5:∀ n os,(Sort.grow (wq.drewN n) os).cell? ⟨bx,5,none⟩=some (.int .i64 x.b3):=fun n os=>cell_grown (by exact hBx.lt) (hBx.cell 5 rfl) n os
        have A6:∀ n os,(Sort.grow (wq.drewN n) os).cell? ⟨bx,6,none⟩=some (.int .i64 x.fr):=fun n os=>cell_grown (by exact hBx.lt) (hBx.cell 6 rfl) n os
        have A7:∀ n os,(Sort.grow (wq.drewN n) os).cell? ⟨bx,7,none⟩=some (.int .i64 x.tq):=fun n os=>cell_grown (by exact hBx.lt) (hBx.cell 7 rfl) n os
        have D0:∀ n os,(Sort.grow (wq.drewN n) os).cell? ⟨G,k * 8,none⟩=some (.int .i64 y.pl):=fun n os=>cell_grown (by show G<wq.heap.size; exact Nat.lt_trans hbG hBx.lt) (dS Ws.out rZ k yY Om.out 0 (by omega) rfl) n os
        have D1:∀ n os,(Sort.grow (wq.drewN n) os).cell? ⟨G,k * 8+1,none⟩=some (.int .i64 y.pts):=fun n os=>cell_grown (by show G<wq.heap.size; exact Nat.lt_trans hbG hBx.lt) (dS Ws.out rZ k yY Om.out 1 (by omega) rfl) n os
        have D2:∀ n os,(Sort.grow (wq.drewN n) os).cell? ⟨G,k * 8+2,none⟩=some (.int .i64 y.b0):=fun n os=>cell_grown (by show G<wq.heap.size; exact Nat.lt_trans hbG hBx.lt) (dS Ws.out rZ k yY Om.out 2 (by omega) rfl) n os
        have D3:∀ n os,(Sort.grow (wq.drewN n) os).cell? ⟨G,k * 8+3,none⟩=some (.int .i64 y.b1):=fun n os=>cell_grown (by show G<wq.heap.size; exact Nat.lt_trans hbG hBx.lt) (dS Ws.out rZ k yY Om.out 3 (by omega) rfl) n os
        have D4:∀ n os,(Sort.grow (wq.drewN n) os).cell? ⟨G,k * 8+4,none⟩=some (.int .i64 y.b2):=fun n os=>cell_grown (by show G<wq.heap.size; exact Nat.lt_trans hbG hBx.lt) (dS Ws.out rZ k yY Om.out 4 (by omega) rfl) n os
        have D5:∀ n os,(Sort.grow (wq.drewN n) os).cell? ⟨G,k * 8+5,none⟩=some (.int .i64 y.b3):=fun n os=>cell_grown (by show G<wq.heap.size; exact Nat.lt_trans hbG hBx.lt) (dS Ws.out rZ k yY Om.out 5 (by omega) rfl) n os
        have D6:∀ n os,(Sort.grow (wq.drewN n) os).cell? ⟨G,k * 8+6,none⟩=some (.int .i64 y.fr):=fun n os=>cell_grown (by show G<wq.heap.size; exact Nat.lt_trans hbG hBx.lt) (dS Ws.out rZ k yY Om.out 6 (by omega) rfl) n os
        have D7:∀ n os,(Sort.grow (wq.drewN n) os).cell? ⟨G,k * 8+7,none⟩=some (.int .i64 y.tq):=fun n os=>cell_grown (by show G<wq.heap.size; exact Nat.lt_trans hbG hBx.lt) (dS Ws.out rZ k yY Om.out 7 (by omega) rfl) n os
        have mixed:Tryz.prog.follows .mixedOrders=true:=by kernel_rfl
        go_quiet_grown (first | (go_at_call 28; exact Calls.grown_of (Hf x y _)))
        have bF:Hid (Below w2.heap.size w2 (Sort.grow (wq.drewN nq) osq)):=hid (HB8.out.trans ((below_grow nq osq).mono HB8.out.size))
        have BD:=hid (aS Ws.out (below_grow nq osq))
        clear A0 A1 A2 A3 A4 A5 A6 A7 D0 D1 D2 D3 D4 D5 D6 D7 Ws HB8 hBx
        generalize Sort.grow (wq.drewN nq) osq=w5 at bF BD ⊢
        have e6:w5.cell? ⟨G,k * 8+6,none⟩=some (.int .i64 y.fr):=dS BD.out rZ k yY Om.out 6 (by omega) rfl
        have e7:w5.cell? ⟨G,k * 8+7,none⟩=some (.int .i64 y.tq):=dS BD.out rZ k yY Om.out 7 (by omega) rfl
        have g6:w5.frozen? ⟨G,k * 8+6,none⟩=false:=BD.out.frozenAt (k * 8+6)
        have g7:w5.frozen? ⟨G,k * 8+7,none⟩=false:=BD.out.frozenAt (k * 8+7)
        obtain ⟨y33,y64⟩:=HLE.out
        generalize BJ x y=cc at HCf ⊢
        have ai4:Hid ((fK T2).set (k * 8+6) (.int .i64 (y.fr+1))=fK (T2.set k { y with fr:=y.fr+1 })):=hid (uN T2 k 6 yY (by omega) _ _ (by rw [Om.out]; rfl))
        have ai5:Hid ((fK T2).set (k * 8+7) (.int .i64 (y.tq+1))=fK (T2.set k { y with tq:=y.tq+1 })):=hid (uN T2 k 7 yY (by omega) _ _ (by rw [Om.out]; rfl))
        have afG:Hid ((fK (T2.set k { y with fr:=y.fr+1 })).set (k * 8+7) (.int .i64 (y.tq+1))=fK (T2.set k { y with fr:=y.fr+1,tq:=y.tq+1 })):=hid (by
         rw [uN (T2.set k { y with fr:=y.fr+1 }) k 7 (by simpa using yY) (by omega) _ { y with fr:=y.fr+1,tq:=y.tq+1 } (by rw [List.getElem_set_self]; rfl),List.set_set])
        rcases Int.lt_trichotomy cc 0 with h | h | h
        ·have kV:Hid (yX S (T2.set k { y with fr:=y.fr+1,tq:=y.tq+1 }) k (jH (S.take (q+1)) sk)):=hid (by rw [afC S sk q hqS (by rw [← HCf.out]; exact h),HY.out]; exact rD.out.set)
         have Ul:Hid (((w5.setCell ⟨G,k * 8+6,none⟩ (.int .i64 (y.fr+1))).setCell ⟨G,k * 8+7,none⟩ (.int .i64 (y.tq+1))).ownsRow w2.heap.size 41 8 (.slice (some ⟨G,0,none⟩) rs.length cap) rs.length (fK (T2.set k { y with fr:=y.fr+1,tq:=y.tq+1 }))):=hid (by
          have h1:=(BD.out.stored (k * 8+6) (.int .i64 (y.fr+1))).1
          rw [ai4.out] at h1
          have h2:=(h1.stored (k * 8+7) (.int .i64 (y.tq+1))).1
          rw [afG.out] at h2
          exact h2)
         have Wj:Hid (Below w2.heap.size w2 ((w5.setCell ⟨G,k * 8+6,none⟩ (.int .i64 (y.fr+1))).setCell ⟨G,k * 8+7,none⟩ (.int .i64 (y.tq+1)))):=hid ((bF.out.setCell hGb.1 _).setCell hGb.1 _)
         go_wp2_with fail
         go_roundw
         case rel=>exact ⟨q+1,by omega,by go_num,hid ⟨_,Ul.out,kV.out⟩,Wj.out⟩
         case measure=>simp [intOf]; omega
        ·subst h
         have kV:Hid (yX S (T2.set k { y with tq:=y.tq+1 }) k (jH (S.take (q+1)) sk)):=hid (by rw [afD S sk q hqS HCf.out.symm,HY.out]; exact rD.out.set)
         have Ul:Hid ((w5.setCell ⟨G,k * 8+7,none⟩ (.int .i64 (y.tq+1))).ownsRow w2.heap.size 41 8 (.slice (some ⟨G,0,none⟩) rs.length cap) rs.length (fK (T2.set k { y with tq:=y.tq+1 }))):=hid (by
          have h2:=(BD.out.stored (k * 8+7) (.int .i64 (y.tq+1))).1
          rw [ai5.out] at h2
          exact h2)
         have Wj:Hid (Below w2.heap.size w2 (w5.setCell ⟨G,k * 8+7,none⟩ (.int .i64 (y.tq+1)))):=hid (bF.out.setCell hGb.1 _)
         go_wp2_with fail
         go_roundw
         case rel=>exact ⟨q+1,by omega,by go_num,hid ⟨_,Ul.out,kV.out⟩,Wj.out⟩
         case measure=>simp [intOf]; omega
        ·have h0:¬ cc<0:=by omega
         have h1:¬ cc=0:=by omega
         have kV:Hid (yX S T2 k (jH (S.take (q+1)) sk)):=hid (by rw [afE S sk q hqS (by rw [← HCf.out]; exact h),HY.out]; exact rD.out)
         go_wp2_with fail
         go_roundw
         case rel=>exact ⟨q+1,by omega,by go_num,hid ⟨_,BD.out,kV.out⟩,bF.out⟩
         case measure=>simp [intOf]; omega
       ·obtain rfl:q=rs.length:=by omega
        obtain ⟨T2,hown2,Nh⟩:=HQ.out
        have Pm:=hid hown2
        have aoo:Hid (Out S T2 (k+1)):=hid (yX.out hkS (by rw [hSN,← HSK.out]; exact Nh))
        clear hown2 Nh HQ
        go_wp2_with fail
        go_roundw
        case rel=>exact ⟨k+1,by omega,by go_num,hid ⟨T2,Pm.out,aoo.out⟩,afF⟩
        case measure=>simp [intOf]; omega
     ·obtain rfl:k=rs.length:=by omega
      obtain ⟨T,hown,hOut⟩:=HK.out
      have hTl:T.length=rs.length:=by rw [hOut.len,hSN]
      have HF:=hid (afB HZ.out HRm.out HSp.out HSs.out hOut.len (fun j h h'=>hOut.done j h h' (by omega)))
      have Pm:=hid (own_base hown HB2.out.size)
      have Vb:=hid hTl
      have TN:Hid (Below w.heap.size w _):=hid (HB2.out.trans (Dq.mono HB2.out.size))
      clear hown hOut HK
      go_wp2_with fail
      go_ret2
      refine .inr ⟨HC0.out,G,cap,T,by rw [Vb.out]; rfl,by rw [Vb.out]; exact Pm.out,by rw [Int.toNat_natCast]; exact HF.out,TN.out⟩
 ·have HC:=hid hc
  have hcz:¬ vJ n gs=0:=hc
  clear hg HS hc
  generalize hcc:vJ n gs=cc at *
  go_enter Tryz.func8,Tryz.ntmps8
  go_wp2_with fail
  refine JQ.out.mono ?_
  rintro e w1 ⟨rfl,hb1⟩
  go_wp2_with fail
  go_ret2
  exact .inl ⟨by rw [hcc]; exact HC.out,by rw [hcc]; rfl,hb1⟩
end Go.Proofs.YteablcielclaeaaGreatDoor
