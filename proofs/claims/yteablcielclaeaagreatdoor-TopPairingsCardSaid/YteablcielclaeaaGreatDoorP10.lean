/- MvC, MvK, MvL. -/
import Derived.Sort.Grow
import Derived.Lib.SliceRun
import Derived.Laws.StructEq
import Derived.Test.YteablcielclaeaaGreatDoorP09
namespace Go.Proofs.YteablcielclaeaaGreatDoor
open Go.ChangeShapes Go.WideShapes Go.ChangeAt Go.RowKit
set_option linter.unusedVariables false
open Go.Lib (hid)
def ku (a b:Int):Int:=if a<b then -1 else if b<a then 1 else 0
def Gl:List Int→Int
 | []=>0
 | x :: t=>if x=0 then Gl t else x
def Il (a b:aB):Int:=Gl [ku a.src b.src,ku a.dst b.dst,ku a.piece b.piece]
theorem zK (x:Int) (w:World):Calls Tryz.prog 113 #[.int .i64 x] w fun e w'=>e=.returned (.bool false)∧w=w':=by
 go_enter Tryz.func113,Tryz.ntmps113
 go_wp2
 go_ret
 exact ⟨by simp,rfl⟩
theorem kG (x y:Int) (w:World):Calls Tryz.prog 69 #[.int .i64 x,.int .i64 y] w fun e w'=>e=.returned (.int .i64 (ku x y))∧w=w':=by
 by_cases h1:x<y
 ·have HE:Hid (ku x y = -1):=hid (by unfold ku; rw [if_pos h1])
  go_enter Tryz.func69,Tryz.ntmps69
  go_wp2_with (go_at_call 113; refine (zK _ _).mono ?_; rintro e w' ⟨rfl,rfl⟩)
  go_ret
  exact ⟨by rw [HE.out]; rfl,rfl⟩
 ·by_cases h2:y<x
  ·have HE:Hid (ku x y=1):=hid (by unfold ku; rw [if_neg h1,if_pos h2])
   go_enter Tryz.func69,Tryz.ntmps69
   go_wp2_with (go_at_call 113; refine (zK _ _).mono ?_; rintro e w' ⟨rfl,rfl⟩)
   go_ret
   exact ⟨by rw [HE.out]; rfl,rfl⟩
  ·have HE:Hid (ku x y=0):=hid (by unfold ku; rw [if_neg h1,if_neg h2])
   go_enter Tryz.func69,Tryz.ntmps69
   go_wp2_with (go_at_call 113; refine (zK _ _).mono ?_; rintro e w' ⟨rfl,rfl⟩)
   go_ret
   exact ⟨by rw [HE.out]; rfl,rfl⟩
theorem aes (zs:List Int) (k:Nat) (h:k<zs.length):Gl (zs.drop k)=if zs.getD k 0=0 then Gl (zs.drop (k+1)) else zs.getD k 0:=by
 rw [List.drop_eq_getElem_cons h,Gl,List.getD_eq_getElem?_getD,List.getElem?_eq_getElem h]; rfl
theorem Xj (v:Value) (zs:List Int) (w:World) (h:fQ w v zs) (hl:zs.length≤1000000):Calls Tryz.prog 68 #[v] w fun e w'=>e=.returned (.int .i64 (Gl zs))∧w=w':=by
 have HR:=hid h
 obtain ⟨a,c,rfl,h1,h2⟩:=h.form
 unfold maxLen at h2
 have H0:Hid (Gl zs=Gl (zs.drop 0)):=hid rfl
 clear h
 go_enter Tryz.func68,Tryz.ntmps68
 go_wp2
 go_loop [8] (fun i=>∃ k:Nat,k≤zs.length∧i=.int .i64 k∧Hid (Gl zs=Gl (zs.drop k))) (fun i=>zs.length - (intOf i).toNat)
 case atStart=>exact ⟨0,Nat.zero_le _,rfl,H0⟩
 case round =>
  obtain ⟨k,hk,rfl,HK⟩:=hrel
  by_cases hlt:k<zs.length
  ·obtain ⟨g,o,rfl,hcell⟩:=eP HR.out (by omega)
   have hc:=hcell k hlt
   have HS:=hid (aes zs k hlt)
   clear hcell
   generalize zs.getD k 0=z at *
   by_cases hz:z=0
   ·subst hz
    go_wp2_with fail
    go_round
    case rel=>exact ⟨k+1,by omega,by go_num,hid (by rw [HK.out,HS.out,if_pos rfl])⟩
    case measure=>simp [intOf]; omega
   ·have hz':(z != 0)=true:=by simpa using hz
    have HE:Hid (Gl zs=z):=hid (by rw [HK.out,HS.out,if_neg hz])
    clear hz
    go_wp2_with fail
    go_ret
    exact ⟨by rw [HE.out]; rfl,rfl⟩
  ·have HE:Hid (Gl zs=0):=hid (by rw [HK.out,List.drop_of_length_le (by omega)]; rfl)
   go_wp2_with fail
   go_ret
   exact ⟨by rw [HE.out]; rfl,rfl⟩
theorem ady (W:World) (a b c:Obj):(((W.alloc a).alloc b).alloc c).drew=Sort.grow (W.drewN 1) #[a,b,c]:=by
 rw [Sort.alloc_eq_grow,Sort.alloc_eq_grow,Sort.alloc_eq_grow,Sort.grow_grow,Sort.grow_grow,Sort.drew_grow]; rfl
theorem KH {w:World} {p:World→Prop} (h:∀ w',w'=w→p w'):p w:=h w rfl
theorem ahx {w w':World} {x y z:Int} (h:w'=(w.alloc (.cells #[.int .i64 x,.int .i64 y,.int .i64 z] 3)).drew):fQ w' (.slice (some ⟨w.heap.size,0,none⟩) 3 3) [x,y,z]:=by
 subst h
 refine ⟨rfl,.inr ⟨w.heap.size,0,3,rfl,Nat.le_refl _,by unfold maxLen; decide,fun i hi=>?_⟩⟩
 have hi':i=0∨i=1∨i=2:=by simp at hi; omega
 have hb:=Box.new w [.int .i64 x,.int .i64 y,.int .i64 z] 3
 have hb':Box (w.alloc (.cells #[.int .i64 x,.int .i64 y,.int .i64 z] 3)).drew w.heap.size [.int .i64 x,.int .i64 y,.int .i64 z] 3:=hb
 rcases hi' with rfl | rfl | rfl
 ·exact hb'.cell 0 rfl
 ·exact hb'.cell 1 rfl
 ·exact hb'.cell 2 rfl
set_option maxRecDepth 100000 in
set_option maxHeartbeats 1000000 in
theorem abe (x y:aB) (W:World):Calls Tryz.prog 194 #[.agg #[.int .i64 x.src,.int .i64 x.dst,.int .i64 x.piece],.agg #[.int .i64 y.src,.int .i64 y.dst,.int .i64 y.piece]] W fun e w'=>e=.returned (.int .i64 (Il x y))∧∃ q os',w'=Sort.grow (W.drewN q) os':=by
 have HO:Hid (Il x y=Gl [ku x.src y.src,ku x.dst y.dst,ku x.piece y.piece]):=hid rfl
 go_enter Tryz.func194,Tryz.ntmps194
 go_upto_region 1 with (fail)
 have bx:=(Box.new' W W.heap.size [.int .i64 x.src,.int .i64 x.dst,.int .i64 x.piece] 68 rfl).alloc (.cells #[.int .i64 y.src,.int .i64 y.dst,.int .i64 y.piece] 68)
 have by':=Box.new' (W.alloc (.cells #[.int .i64 x.src,.int .i64 x.dst,.int .i64 x.piece] 68)) (W.heap.size+1) [.int .i64 y.src,.int .i64 y.dst,.int .i64 y.piece] 68 (by simp)
 have hW:Hid (((W.alloc (.cells #[.int .i64 x.src,.int .i64 x.dst,.int .i64 x.piece] 68)).alloc (.cells #[.int .i64 y.src,.int .i64 y.dst,.int .i64 y.piece] 68))=((W.alloc (.cells #[.int .i64 x.src,.int .i64 x.dst,.int .i64 x.piece] 68)).alloc (.cells #[.int .i64 y.src,.int .i64 y.dst,.int .i64 y.piece] 68))):=hid rfl
 generalize hw0:((W.alloc (.cells #[.int .i64 x.src,.int .i64 x.dst,.int .i64 x.piece] 68)).alloc (.cells #[.int .i64 y.src,.int .i64 y.dst,.int .i64 y.piece] 68))=w0 at bx by' ⊢
 have HW:=hid hw0.symm
 clear hw0 hW
 have Bx:Box w0.drew W.heap.size [.int .i64 x.src,.int .i64 x.dst,.int .i64 x.piece] 68:=bx
 have By:Box w0.drew (W.heap.size+1) [.int .i64 y.src,.int .i64 y.dst,.int .i64 y.piece] 68:=by'
 clear bx by'
 refine wp_region_noPanic ?_
 refine bI (S:=(fun w'=>w'.cell? ⟨W.heap.size,0,none⟩=some (.int .i64 x.src)∧w'.cell? ⟨W.heap.size,1,none⟩=some (.int .i64 x.dst)∧w'.cell? ⟨W.heap.size,2,none⟩=some (.int .i64 x.piece)∧w'.cell? ⟨W.heap.size+1,0,none⟩=some (.int .i64 y.src)∧w'.cell? ⟨W.heap.size+1,1,none⟩=some (.int .i64 y.dst)∧w'.cell? ⟨W.heap.size+1,2,none⟩=some (.int .i64 y.piece))) (L:=[]) (by kernel_rfl) (by and_intros <;> first | exact Bx.cell _ rfl | exact By.cell _ rfl) (fun hHeld=>?_)
 refine aC 0 ?_
 refine aC 2 ?_
 refine aC 5 ?_
 refine aC 7 ?_
 refine aC 10 ?_
 refine aC 12 ?_
 refine dV 1 ?_
 refine dV 3 ?_
 refine dV 6 ?_
 refine dV 8 ?_
 refine dV 11 ?_
 refine dV 13 ?_
 refine fH 4 fun K hK=>?_
 go_simp
 refine (kG _ _ _).mono ?_
 rintro e w' ⟨rfl,rfl⟩
 refine hK.out _ _ (by and_intros <;> first | exact Bx.cell _ rfl | exact By.cell _ rfl) (fun hHeld=>?_)
 clear hK K
 refine fH 9 fun K hK=>?_
 go_simp
 refine (kG _ _ _).mono ?_
 rintro e w' ⟨rfl,rfl⟩
 refine hK.out _ _ (by and_intros <;> first | exact Bx.cell _ rfl | exact By.cell _ rfl) (fun hHeld=>?_)
 clear hK K
 refine fH 14 fun K hK=>?_
 go_simp
 refine (kG _ _ _).mono ?_
 rintro e w' ⟨rfl,rfl⟩
 refine hK.out _ _ (by and_intros <;> first | exact Bx.cell _ rfl | exact By.cell _ rfl) (fun hHeld=>?_)
 clear hK K
 refine fH 15 fun K hK=>?_
 go_simp
 refine KH ?_
 intro w9 e9
 have Bx9:Box w9 W.heap.size [.int .i64 x.src,.int .i64 x.dst,.int .i64 x.piece] 68:=by rw [e9]; exact Bx.alloc _
 have By9:Box w9 (W.heap.size+1) [.int .i64 y.src,.int .i64 y.dst,.int .i64 y.piece] 68:=by rw [e9]; exact By.alloc _
 have HR9:=hid (ahx e9)
 have E9:=hid e9
 clear e9
 refine hK.out _ _ (by and_intros <;> first | exact Bx9.cell _ rfl | exact By9.cell _ rfl) (fun hHeld=>?_)
 clear hK K
 refine fH 16 fun K hK=>?_
 go_simp
 refine (Xj _ _ _ HR9.out (by simp)).mono ?_
 rintro e w' ⟨rfl,rfl⟩
 refine hK.out _ _ (by and_intros <;> first | exact Bx9.cell _ rfl | exact By9.cell _ rfl) (fun hHeld=>?_)
 clear hK K
 refine aC 17 ?_
 refine jC ?_
 go_wp2_with fail
 go_ret
 exact ⟨rfl,1,#[.cells #[.int .i64 x.src,.int .i64 x.dst,.int .i64 x.piece] 68,.cells #[.int .i64 y.src,.int .i64 y.dst,.int .i64 y.piece] 68,.cells #[.int .i64 (ku x.src y.src),.int .i64 (ku x.dst y.dst),.int .i64 (ku x.piece y.piece)] 3],by rw [E9.out,HW.out,ady]⟩
def cZ:List aB→List aB
 | []=>[]
 | [x]=>[x]
 | x :: y :: t=>if x=y then cZ (y :: t) else x :: cZ (y :: t)
theorem qR (a b:aB):∀ l:List aB,cZ (l++[a]++[b])=cZ (l++[a])++(if a=b then [] else [b])
 | []=>by by_cases h:a=b <;> simp [cZ,h]
 | [x]=>by
  have ih:=qR a b []
  simp only [List.nil_append] at ih
  by_cases h:x=a
  ·simp only [List.cons_append,List.nil_append,cZ,if_pos h] at ih ⊢
   exact ih
  ·simp only [List.cons_append,List.nil_append,cZ,if_neg h] at ih ⊢
   rw [ih]
 | x :: y :: t=>by
  have ih:=qR a b (y :: t)
  simp only [List.cons_append] at ih ⊢
  by_cases h:x=y
  ·simp only [cZ,if_pos h]; exact ih
  ·simp only [cZ,if_neg h]; rw [ih]; rfl
theorem xQ (xs:List aB) (j:Nat) (h:j+1<xs.length):cZ (xs.take (j+2))=cZ (xs.take (j+1))++(if xs.getD j default=xs.getD (j+1) default then [] else [xs.getD (j+1) default]):=by
 have e1:xs.take (j+1)=xs.take j++[xs.getD j default]:=by
  rw [List.take_succ_eq_append_getElem (by omega),List.getD_eq_getElem?_getD,List.getElem?_eq_getElem (by omega)]; rfl
 have e2:xs.take (j+2)=xs.take j++[xs.getD j default]++[xs.getD (j+1) default]:=by
  rw [List.take_succ_eq_append_getElem (by omega),e1,List.getD_eq_getElem?_getD (i:=j+1),List.getElem?_eq_getElem (by omega)]; rfl
 rw [e2,qR,e1]
theorem Aw (xs:List aB) (h:xs.length<2):cZ xs=xs:=by
 match xs,h with
 | [],_=>rfl
 | [x],_=>rfl
def putAt:List Value→Nat→List Value→List Value
 | xs,_,[]=>xs
 | xs,o,v :: t=>putAt (xs.set o v) (o+1) t
theorem Df:∀ (vs xs:List Value) (o m:Nat),m≤o→(putAt xs o vs).take m=xs.take m
 | [],_,_,_,_=>rfl
 | v :: t,xs,o,m,h=>by
  rw [putAt,Df t _ _ m (by omega)]
  rw [List.take_set_of_le h]
theorem Io {base:Nat} {e:TypeId} {sz n g cap:Nat}:∀ (vs xs:List Value) (o:Nat) (w:World),w.ownsRow base e sz (.slice (some ⟨g,0,none⟩) n cap) n xs →
  (w.setCells g o vs).ownsRow base e sz (.slice (some ⟨g,0,none⟩) n cap) n (putAt xs o vs)∧w.grownBy (w.setCells g o vs) (some g)
 | [],xs,o,w,h=>⟨h,⟨rfl,rfl,rfl,Nat.le_refl _,fun _ _ _=>rfl⟩⟩
 | v :: t,xs,o,w,h=>by
  have h1:=h.stored o v
  have h2:=Io t (xs.set o v) (o+1) _ h1.1
  exact ⟨h2.1,⟨h2.2.os.trans h1.2.os,h2.2.tape.trans h1.2.tape,h2.2.output.trans h1.2.output,Nat.le_trans h1.2.size h2.2.size,fun k hk hn=>(h2.2.block k (Nat.lt_of_lt_of_le hk h1.2.size) hn).trans (h1.2.block k hk hn)⟩⟩
theorem Xk {base:Nat} {e:TypeId} {sz n g cap:Nat} {xs:List Value} {w:World} (h:w.ownsRow base e sz (.slice (some ⟨g,0,none⟩) n cap) n xs) (k:Nat) (hk:k≤n) :
  w.ownsRow base e sz (.slice (some ⟨g,0,none⟩) k cap) k (xs.take (k * sz)):=by
 have hle:k * sz≤n * sz:=Nat.mul_le_mul_right sz hk
 refine ⟨by rw [List.length_take,h.1]; omega,?_⟩
 rcases h.2 with ⟨h0,_⟩ | ⟨g',cap',cur,hv,hb,hg,hn,hm,hs,ht⟩
 ·cases h0
 ·simp only [Value.slice.injEq,Option.some.injEq,Addr.mk.injEq,and_true,true_and] at hv
  obtain ⟨rfl,rfl⟩:=hv
  refine .inr ⟨g,cap,cur,rfl,hb,hg,by omega,hm,hs,?_⟩
  rw [← ht,List.take_take,Nat.min_eq_left hle]
theorem gu (l:List aB) (i:Nat) (h:i<l.length):(bK l)[i * 3]?=some (.int .i64 (l.getD i default).src)∧(bK l)[i * 3+1]?=some (.int .i64 (l.getD i default).dst)∧(bK l)[i * 3+2]?=some (.int .i64 (l.getD i default).piece):=by
 induction l generalizing i with
 | nil=>simp at h
 | cons m t ih =>
  have e:bK (m :: t)=[.int .i64 m.src,.int .i64 m.dst,.int .i64 m.piece]++bK t:=rfl
  rw [e]
  cases i with
  | zero=>simp
  | succ i =>
   obtain ⟨a,b,c⟩:=ih i (by simpa using h)
   have f:∀ k,([Value.int .i64 m.src,.int .i64 m.dst,.int .i64 m.piece]++bK t)[(i+1) * 3+k]?=(bK t)[i * 3+k]?:=fun k=>by
    rw [List.getElem?_append_right (by simp; omega)]
    congr 1
    simp; omega
   have f0:=f 0
   simp only [Nat.add_zero] at f0
   rw [f0,f 1,f 2]
   simp only [List.getD_cons_succ]
   exact ⟨a,b,c⟩
theorem Ph (l:List aB) (k:Nat):(bK l).take (k * 3)=bK (l.take k):=by
 induction l generalizing k with
 | nil=>simp [bK]
 | cons m t ih =>
  have e:bK (m :: t)=[.int .i64 m.src,.int .i64 m.dst,.int .i64 m.piece]++bK t:=rfl
  cases k with
  | zero=>simp [bK]
  | succ k =>
   rw [e,List.take_succ_cons]
   have e2:bK (m :: t.take k)=[.int .i64 m.src,.int .i64 m.dst,.int .i64 m.piece]++bK (t.take k):=rfl
   rw [e2,← ih k,show (k+1) * 3=3+k * 3 by omega]
   rw [List.take_append,List.take_of_length_le (by simp)]
   simp
theorem TL (l:List aB) (i:Nat) (z:aB):putAt (bK l) (i * 3) [.int .i64 z.src,.int .i64 z.dst,.int .i64 z.piece]=bK (l.set i z):=by
 simp only [putAt]
 induction l generalizing i with
 | nil=>simp [bK]
 | cons m t ih =>
  have e:bK (m :: t)=.int .i64 m.src :: .int .i64 m.dst :: .int .i64 m.piece :: bK t:=rfl
  cases i with
  | zero=>simp [bK]
  | succ i =>
   have e2:bK ((m :: t).set (i+1) z)=.int .i64 m.src :: .int .i64 m.dst :: .int .i64 m.piece :: bK (t.set i z):=rfl
   rw [e,e2,← ih i,show (i+1) * 3=i * 3+1+1+1 by omega]
   simp [List.set_cons_succ]
theorem zero3 (n:Nat):(Builtin.zeroCells (Value.cells (.agg #[.int .i64 0,.int .i64 0,.int .i64 0])) n).toList=List.replicate (n * 3) (.int .i64 0):=by
 apply List.ext_getElem
 ·simp [Builtin.zeroCells,Value.cells]
 ·intro i h1 h2
  simp only [Builtin.zeroCells,Value.cells,Array.toList_map,Array.toList_range,List.getElem_map,List.getElem_range,List.getElem_replicate]
  have h3:i % 3=0∨i % 3=1∨i % 3=2:=by omega
  rcases h3 with h3 | h3 | h3 <;> simp [h3]
theorem Pj (w:World) (ty:TypeId) (b o n c:Nat) (hn:0<n) (hc:∀ j,j<n * 3→(w.cell? ⟨b,o+j,none⟩).isSome=true) (hf:∀ j,j<n * 3→w.frozen? ⟨b,o+j,none⟩=false) :
  (Builtin.clear_ #[80] ty #[.slice (some ⟨b,o,none⟩) n c]).run Tryz.prog w=.ok (.tuple #[]) (w.setCells b o (List.replicate (n * 3) (.int .i64 0))):=by
 have hv:∀ w,(zeroValue 68).run Tryz.prog w=.ok (.agg #[.int .i64 0,.int .i64 0,.int .i64 0]) w:=fun w=>by kernel_rfl
 have hst:=run_storeCells_cells (P:=Tryz.prog) b o (List.replicate (n * 3) (.int .i64 0)) 0 w (by simpa using hc) (by simpa using hf) (by intro v hv'; rw [List.eq_of_mem_replicate hv']; rfl)
 simp only [Nat.add_zero] at hst
 obtain ⟨m,rfl⟩:∃ m,n=m+1:=⟨n - 1,by omega⟩
 simp [Builtin.clear_,run_underlying Tryz.underlying80,hv,zero3,hst]
theorem aev (x y:aB) (w:World):(binOp .eql 68 (.agg #[.int .i64 x.src,.int .i64 x.dst,.int .i64 x.piece]) (.agg #[.int .i64 y.src,.int .i64 y.dst,.int .i64 y.piece])).run Tryz.prog w=.ok (.bool (decide (x=y))) w:=by
 have u3:=Tryz.underlying3
 have a3:=Tryz.isAgg3
 have z3:=Tryz.sizeOf3
 have hS:Tryz.prog.underlying 68=some (.struct (Tryz.prog.fieldsOf 68)):=by kernel_rfl
 have hp:Tryz.prog.stoodInHeld 68=false:=by kernel_rfl
 rw [run_eql_struct,show (10000:Nat)=9999+1 from rfl,run_equalIn_agg w 9999 68 _ _ hS hp]
 simp only [Program.fieldsOf,Tryz.underlying68]
 obtain ⟨x1,x2,x3⟩:=x
 obtain ⟨y1,y2,y3⟩:=y
 go_simp
 by_cases h1:x1=y1 <;> by_cases h2:x2=y2 <;> by_cases h3:x3=y3 <;> simp [h1,h2,h3]
theorem amE (x y:aB) (w:World):(binOp .neq 68 (.agg #[.int .i64 x.src,.int .i64 x.dst,.int .i64 x.piece]) (.agg #[.int .i64 y.src,.int .i64 y.dst,.int .i64 y.piece])).run Tryz.prog w=.ok (.bool (!decide (x=y))) w:=by
 have h:=aev x y w
 rw [run_eql_struct] at h
 rw [run_neq_struct]
 cases hh:(Op.equalIn 10000 68 (.agg #[.int .i64 x.src,.int .i64 x.dst,.int .i64 x.piece]) (.agg #[.int .i64 y.src,.int .i64 y.dst,.int .i64 y.piece])).run Tryz.prog w with
 | ok b w'=>rw [hh] at h; simp only [Result.andThen_ok,Result.ok.injEq,Value.bool.injEq] at h ⊢; exact ⟨by rw [h.1],h.2⟩
 | _=>rw [hh] at h; simp [Result.andThen] at h
theorem TM (xs:List aB) (j:Nat) (h:j+1<xs.length) (m:aB) (hm:xs.getD (j+1) default=m):xs.take (j+1+1)=xs.take (j+1)++[m]:=by
 rw [List.take_succ_eq_append_getElem h,← hm,List.getD_eq_getElem?_getD,List.getElem?_eq_getElem h]; rfl
theorem getD_drop {xs ys:List aB} {o:Nat} (h:ys.drop o=xs.drop o) (i:Nat):ys.getD (o+i) default=xs.getD (o+i) default:=by
 have:=congrArg (fun l=>l.getD i default) h
 simpa [List.getD_eq_getElem?_getD,List.getElem?_drop] using this
theorem Gm {xs ys:List aB} {o:Nat} (h:ys.drop o=xs.drop o) (i:Nat):ys.drop (o+i)=xs.drop (o+i):=by
 rw [← List.drop_drop,← List.drop_drop,h]
theorem Xl {w:World} {b:Nat} {e:TypeId} {sz n g c:Nat} {xs:List Value} (h:w.ownsRow b e sz (.slice (some ⟨g,0,none⟩) n c) n xs):n≤c:=by
 rcases h.2 with ⟨h0,_⟩ | ⟨g',c',cur,hv,_,_,hn,_⟩
 ·cases h0
 ·simp only [Value.slice.injEq,true_and] at hv
  omega
theorem Xm {xs ys:List aB} {o:Nat} (h:ys.drop o=xs.drop o) (k:Nat) (z:aB) (hk:k<o+1):(ys.set k z).drop (o+1)=xs.drop (o+1):=by
 rw [List.drop_set_of_lt hk]
 exact Gm h 1
theorem Xn (l:List aB) (k:Nat) (z:aB) (h:k<l.length):(l.set k z).take (k+1)=l.take k++[z]:=by
 rw [List.take_succ_eq_append_getElem (by simpa using h),List.take_set_of_le (Nat.le_refl _),List.getElem_set_self]
def KJ (base:Nat) (v:Value) (xs:List aB) (w:World) (e:Ending) (w':World):Prop:=
 ∃ v',e=.returned v'∧w'.ownsRow base 68 3 v' (cZ xs).length (bK (cZ xs))∧w.grownBy w' v.ownBlock
theorem oV {w w1:World} {row:Option Nat} (h:w.grownBy w1 row) (n:Nat):w.grownBy (w1.drewN n) row:=⟨h.os,h.tape,h.output,h.size,h.block⟩
theorem AA (w:World) (row:Option Nat):w.grownBy w row:=⟨rfl,rfl,rfl,Nat.le_refl _,fun _ _ _=>rfl⟩
theorem xU {w w1 w2:World} {row:Option Nat} (h1:w.grownBy w1 row) (h2:w1.grownBy w2 row):w.grownBy w2 row:=
 ⟨h2.os.trans h1.os,h2.tape.trans h1.tape,h2.output.trans h1.output,Nat.le_trans h1.size h2.size,fun k hk hn=>(h2.block k (Nat.lt_of_lt_of_le hk h1.size) hn).trans (h1.block k hk hn)⟩
set_option maxRecDepth 100000 in
set_option maxHeartbeats 2000000 in
theorem KN (base:Nat) (v:Value) (xs:List aB) (w:World) (h:w.ownsRow base 68 3 v xs.length (bK xs)) (hl:xs.length≤1000000) :
  Calls Tryz.prog 195 #[v] w (KJ base v xs w):=by
 have HO:=hid h
 by_cases h2:xs.length<2
 ·have HE:=hid (Aw xs h2)
  obtain ⟨a,c,rfl⟩:=aG h
  clear h
  go_enter Tryz.func195,Tryz.ntmps195
  go_wp2
  go_ret
  exact ⟨_,rfl,by rw [HE.out]; exact HO.out,AA _ _⟩
 obtain ⟨g,c,rfl⟩:=dY h (by omega)
 have hg:=h.lt g rfl
 clear h
 have heq:=aev
 have hneq:=amE
 have h2i:¬ ((xs.length:Int)<2):=by omega
 go_enter Tryz.func195,Tryz.ntmps195
 go_wp2_with fail
 go_loopw [3] (fun i wr=>∃ j:Nat,j+1≤xs.length∧i=.int .i64 ((j:Int)+1)∧Hid (cZ (xs.take (j+1))=xs.take (j+1))∧Hid (wr.ownsRow base 68 3 (.slice (some ⟨g,0,none⟩) xs.length c) xs.length (bK xs))∧Hid (w.grownBy wr (some g))) (fun i _=>xs.length - (intOf i).toNat)
 case atStart=>exact ⟨0,by omega,by simp,hid (Aw _ (by rw [List.length_take]; omega)),HO,hid (AA _ _)⟩
 case round =>
  obtain ⟨j,hj,rfl,HC,HOr,HG⟩:=hrel
  by_cases hlt:j+1<xs.length
  ·have ate:(j:Int)+1<(xs.length:Int):=by omega
   have c0:=(HOr.out.cellAt (j * 3) (by omega)).trans (gu xs j (by omega)).1
   have c1:=(HOr.out.cellAt (j * 3+1) (by omega)).trans (gu xs j (by omega)).2.1
   have c2:=(HOr.out.cellAt (j * 3+2) (by omega)).trans (gu xs j (by omega)).2.2
   have d0:=(HOr.out.cellAt ((j+1) * 3) (by omega)).trans (gu xs (j+1) hlt).1
   have d1:=(HOr.out.cellAt ((j+1) * 3+1) (by omega)).trans (gu xs (j+1) hlt).2.1
   have d2:=(HOr.out.cellAt ((j+1) * 3+2) (by omega)).trans (gu xs (j+1) hlt).2.2
   have Rq:=hid (xQ xs j hlt)
   generalize xs.getD j default=m1 at *
   generalize hm2:xs.getD (j+1) default=m2 at *
   have sD:=hid hm2
   clear hm2
   by_cases he:m1=m2
   rotate_left
   ·have hd:decide (m2=m1)=false:=by simpa using fun e=>he e.symm
    have Dh:=hid he
    clear he
    go_wp2_with fail
    go_quiet (fail)
    go_wp2_with fail
    go_roundw
    case rel=>exact ⟨j+1,by omega,by go_num,hid (by rw [Rq.out,if_neg Dh.out,HC.out]; exact (TM xs j hlt _ sD.out).symm),HOr,hid (oV HG.out _)⟩
    case measure=>simp [intOf]; omega
   subst he
   have HC1:Hid (xs.take (j+1)=cZ (xs.take (j+1+(0+1)))):=hid (by rw [show j+1+(0+1)=j+2 by omega,Rq.out,if_pos rfl,List.append_nil,HC.out])
   have hcap:xs.length≤c:=Xl HOr.out
   have hsl:∀ w':World,(Instr.slice 80 (.slice (some ⟨g,0,none⟩) xs.length c) (some (.int .i64 ((j:Int)+1))) none none).run Tryz.prog w'=.ok (.slice (some ⟨g,(j+1) * 3,none⟩) (xs.length - (j+1)) (c - (j+1))) w':=fun w'=>by
    have h:=xJ (P:=Tryz.prog) (t:=80) (s:=3) Tryz.underlying80 (fun w=>by kernel_rfl) (some ⟨g,0,none⟩) xs.length c (j+1) (by omega) w'
    rw [Int.natCast_succ] at h
    rw [h]
    simp [iT,show ¬ c=j+1 by omega,lT]
   have HSL:=hid hsl
   have HCAP:=hid hcap
   clear HC Rq hcap
   go_wp2_with fail
   go_quiet (fail)
   go_wp2_with fail
   clear c0 c1 c2 d0 d1 d2 hsl
   go_loopw [3,5] (fun vk vi wr=>∃ (k m:Nat) (ys:List aB),m+1≤xs.length - (j+1)∧vi=.int .i64 ((m:Int)+1)∧vk=.int .i64 k∧k≤j+m+1∧Hid (ys.length=xs.length)∧Hid (ys.drop (j+1+m)=xs.drop (j+1+m))∧Hid (ys.take k=cZ (xs.take (j+1+(m+1))))∧Hid (wr.ownsRow base 68 3 (.slice (some ⟨g,0,none⟩) xs.length c) xs.length (bK ys))∧Hid (w.grownBy wr (some g))) (fun _ i _=>xs.length - (intOf i).toNat)
   case atStart=>exact ⟨j+1,0,xs,by omega,by simp,by simp,by omega,hid rfl,hid rfl,HC1,HOr,hid (oV HG.out _)⟩
   case round =>
    obtain ⟨k,m,ys,hm,rfl,rfl,hk,HYL,HYD,Om,Xo,HGy⟩:=hrel
    by_cases hlt2:m+1<xs.length - (j+1)
    ·have aqd:(m:Int)+1<((xs.length - (j+1):Nat):Int):=by omega
     have y1:ys.getD (j+1+m) default=xs.getD (j+1+m) default:=getD_drop HYD.out 0
     have y2:ys.getD (j+1+m+1) default=xs.getD (j+1+m+1) default:=getD_drop HYD.out 1
     have hyl:=HYL.out
     have c0:wr.cell? ⟨g,(j+1) * 3+m * 3,none⟩=some (.int .i64 (xs.getD (j+1+m) default).src):=by rw [← y1,show (j+1) * 3+m * 3=(j+1+m) * 3 by omega]; exact (Xo.out.cellAt ((j+1+m) * 3) (by omega)).trans (gu ys (j+1+m) (by omega)).1
     have c1:wr.cell? ⟨g,(j+1) * 3+m * 3+1,none⟩=some (.int .i64 (xs.getD (j+1+m) default).dst):=by rw [← y1,show (j+1) * 3+m * 3+1=(j+1+m) * 3+1 by omega]; exact (Xo.out.cellAt ((j+1+m) * 3+1) (by omega)).trans (gu ys (j+1+m) (by omega)).2.1
     have c2:wr.cell? ⟨g,(j+1) * 3+m * 3+2,none⟩=some (.int .i64 (xs.getD (j+1+m) default).piece):=by rw [← y1,show (j+1) * 3+m * 3+2=(j+1+m) * 3+2 by omega]; exact (Xo.out.cellAt ((j+1+m) * 3+2) (by omega)).trans (gu ys (j+1+m) (by omega)).2.2
     have d0:wr.cell? ⟨g,(j+1) * 3+(m+1) * 3,none⟩=some (.int .i64 (xs.getD (j+1+m+1) default).src):=by rw [← y2,show (j+1) * 3+(m+1) * 3=(j+1+m+1) * 3 by omega]; exact (Xo.out.cellAt ((j+1+m+1) * 3) (by omega)).trans (gu ys (j+1+m+1) (by omega)).1
     have d1:wr.cell? ⟨g,(j+1) * 3+(m+1) * 3+1,none⟩=some (.int .i64 (xs.getD (j+1+m+1) default).dst):=by rw [← y2,show (j+1) * 3+(m+1) * 3+1=(j+1+m+1) * 3+1 by omega]; exact (Xo.out.cellAt ((j+1+m+1) * 3+1) (by omega)).trans (gu ys (j+1+m+1) (by omega)).2.1
     have d2:wr.cell? ⟨g,(j+1) * 3+(m+1) * 3+2,none⟩=some (.int .i64 (xs.getD (j+1+m+1) default).piece):=by rw [← y2,show (j+1) * 3+(m+1) * 3+2=(j+1+m+1) * 3+2 by omega]; exact (Xo.out.cellAt ((j+1+m+1) * 3+2) (by omega)).trans (gu ys (j+1+m+1) (by omega)).2.2
     have Rq:=hid (xQ xs (j+1+m) (by omega))
     clear y1 y2 hyl
     generalize xs.getD (j+1+m) default=b1 at *
     generalize xs.getD (j+1+m+1) default=b2 at *
     by_cases he2:b1=b2
     ·subst he2
      go_wp2_with fail
      go_quiet (fail)
      go_wp2_with fail
      go_roundw
      case rel=>exact ⟨k,m+1,ys,by omega,by go_num,rfl,by omega,HYL,hid (Gm HYD.out 1),hid (by rw [Om.out,show j+1+(m+1+1)=j+1+m+2 by omega,Rq.out,if_pos trivial,List.append_nil]; rfl),Xo,hid (oV HGy.out _)⟩
      case measure=>simp [intOf]; omega
     ·have hd:decide (b2=b1)=false:=by simpa using fun e=>he2 e.symm
      have Dh:=hid he2
      clear he2
      go_wp2_with fail
      go_quiet (fail)
      have HOq:Hid ((wr.drewN nq).ownsRow base 68 3 (.slice (some ⟨g,0,none⟩) xs.length c) xs.length (bK ys)):=Xo
      have s0:=(HOq.out.cellAt (k * 3) (by omega)).trans (gu ys k (by rw [HYL.out]; omega)).1
      have s1:=(HOq.out.cellAt (k * 3+1) (by omega)).trans (gu ys k (by rw [HYL.out]; omega)).2.1
      have s2:=(HOq.out.cellAt (k * 3+2) (by omega)).trans (gu ys k (by rw [HYL.out]; omega)).2.2
      have f0:=HOq.out.frozenAt (k * 3)
      have f1:=HOq.out.frozenAt (k * 3+1)
      have f2:=HOq.out.frozenAt (k * 3+2)
      have aew:=Io [.int .i64 b2.src,.int .i64 b2.dst,.int .i64 b2.piece] (bK ys) (k * 3) _ HOq.out
      rw [TL] at aew
      have nK:=hid aew
      have HGq:=hid (oV HGy.out nq)
      have HDR:=hid (Xm HYD.out k b2 (by omega))
      have Xp:Hid ((ys.set k b2).take (k+1)=cZ (xs.take (j+1+(m+1+1)))):=hid (by rw [Xn ys k b2 (by rw [HYL.out]; omega),Om.out,show j+1+(m+1+1)=j+1+m+2 by omega,Rq.out,if_neg Dh.out]; rfl)
      clear aew
      go_wp2_with fail
      go_roundw
      case rel=>exact ⟨k+1,m+1,ys.set k b2,by omega,by go_num,by go_num,by omega,hid (by rw [List.length_set]; exact HYL.out),HDR,Xp,hid nK.out.1,hid (xU HGq.out nK.out.2)⟩
      case measure=>simp [intOf]; omega
    ·have hmn:j+1+(m+1)=xs.length:=by omega
     have HF:Hid (ys.take k=cZ xs):=hid (by rw [Om.out,hmn,List.take_of_length_le (Nat.le_refl _)])
     have hkn:k<xs.length:=by omega
     have ahA:=HCAP.out
     have hsl2:∀ w':World,(Instr.slice 80 (.slice (some ⟨g,0,none⟩) xs.length c) (some (.int .i64 (k:Int))) none none).run Tryz.prog w'=.ok (.slice (some ⟨g,k * 3,none⟩) (xs.length - k) (c - k)) w':=fun w'=>by
      rw [xJ (P:=Tryz.prog) (t:=80) (s:=3) Tryz.underlying80 (fun w=>by kernel_rfl) (some ⟨g,0,none⟩) xs.length c k (by omega) w']
      simp [iT,show ¬ c=k by omega,lT]
     have atg:∀ w':World,(Instr.slice 80 (.slice (some ⟨g,0,none⟩) xs.length c) none (some (.int .i64 (k:Int))) none).run Tryz.prog w'=.ok (.slice (some ⟨g,0,none⟩) k c) w':=fun w'=>by
      exact nU (P:=Tryz.prog) (t:=80) (s:=3) Tryz.underlying80 (fun w=>by kernel_rfl) (some ⟨g,0,none⟩) xs.length c k (by omega) w'
     have ath:∀ ty,(Builtin.clear_ #[80] ty #[.slice (some ⟨g,k * 3,none⟩) (xs.length - k) (c - k)]).run Tryz.prog wr=.ok (.tuple #[]) (wr.setCells g (k * 3) (List.replicate ((xs.length - k) * 3) (.int .i64 0))):=fun ty =>
      Pj wr ty g (k * 3) (xs.length - k) (c - k) (by omega) (fun q hq=>by rw [Xo.out.cellAt (k * 3+q) (by omega),List.getElem?_eq_getElem (by rw [nM,HYL.out]; omega)]; rfl) (fun q _=>Xo.out.frozenAt _)
     have nK:=hid (Io (List.replicate ((xs.length - k) * 3) (.int .i64 0)) (bK ys) (k * 3) _ Xo.out)
     have HLn:Hid ((cZ xs).length=k):=hid (by rw [← HF.out,List.length_take,HYL.out]; omega)
     have HKN:=hid hkn
     clear hmn hkn ahA
     go_wp2_with fail
     go_ret
     refine ⟨_,rfl,?_,xU HGy.out nK.out.2⟩
     have h:=Xk nK.out.1 k (by have:=HKN.out; omega)
     rw [Df _ _ _ _ (Nat.le_refl _),Ph,HF.out] at h
     rw [HLn.out]
     exact h
  ·obtain he:j+1=xs.length:=by omega
   have HE:Hid (cZ xs=xs):=hid (by have:=HC.out; rw [he,List.take_of_length_le (Nat.le_refl _)] at this; exact this)
   have HEQ:=hid he
   clear he
   go_wp2_with fail
   go_ret
   exact ⟨_,rfl,by rw [HE.out]; exact HOr.out,HG.out⟩
theorem AB (R:aA) (p:bf) (x:uX) (dy:Int):∀ (n:Nat) (a b t:Int),t∈fB R p x dy n a b→0≤t∧t<R.width * R.height
 | 0,a,b,t,h=>by simp [fB] at h
 | n+1,a,b,t,h=>by
  rw [fB] at h
  by_cases hin:a+x.dx<0∨R.width≤a+x.dx∨b+dy<0∨R.height≤b+dy
  ·rw [if_pos hin] at h; cases h
  rw [if_neg hin,List.mem_append] at h
  rcases h with h | h
  ·split at h
   ·simp at h; subst h
    exact inside (by omega) (by omega) (by omega) (by omega)
   ·cases h
  ·split at h
   ·cases h
   ·exact AB R p x dy n _ _ t h
theorem KO {R:aA} {p:bf} {s:Int} {x:uX} {t:Int} (h:t∈iY R p s x):0≤t∧t<R.width * R.height:=AB _ _ _ _ _ _ _ _ h
theorem Di (R:aA) (p:bf) (s:Int) (x:uX) (h:iW x=true):(iY R p s x).length≤7:=by
 obtain ⟨_,_,h1,_⟩:=KF h
 have:=oU R p x (if p.turn=1 then -x.dy else x.dy) x.most.toNat (s % R.width) (s / R.width)
 unfold iY
 omega
theorem qj {α β:Type} (f:α→List β) (b:Nat):∀ l:List α,(∀ x∈l,(f x).length≤b)→(l.flatMap f).length≤l.length * b
 | [],_=>by simp
 | x :: t,h=>by
  rw [List.flatMap_cons,List.length_append,List.length_cons,Nat.add_mul,Nat.one_mul]
  have:=h x (by simp)
  have:=qj f b t (fun y hy=>h y (by simp [hy]))
  omega
def ng (R:aA) (p:bf) (s:Nat) (k:Int) (x:uX):List aB:=(iY R p s x).map (kS R p s k)
theorem Rt {R:aA} (K:Ro R) (k:Nat):(R.pieces.getD k default).ways.length≤16∧∀ x∈(R.pieces.getD k default).ways,iW x=true:=by
 by_cases hk:k<R.pieces.length
 ·obtain ⟨_,_,h1,h2⟩:=K.pc k hk
  refine ⟨h1,fun x hx=>?_⟩
  obtain ⟨j,hj,rfl⟩:=List.mem_iff_getElem.1 hx
  have:=h2 j hj
  rw [List.getD_eq_getElem?_getD,List.getElem?_eq_getElem hj] at this
  exact this
 ·rw [List.getD_eq_getElem?_getD,List.getElem?_eq_none (by omega)]
  exact ⟨Nat.zero_le _,fun x hx=>by cases hx⟩
theorem KP {R:aA} {p:bf} {s:Nat} {k:Int} {x:uX} (h:iW x=true):(ng R p s k x).length≤7:=by
 unfold ng
 rw [List.length_map]
 exact Di _ _ _ _ h
theorem AL {R:aA} (K:Ro R) (p:bf) (s:Nat):(iU R p s).length≤112:=by
 unfold iU
 split
 ·simp
 ·obtain ⟨h1,h2⟩:=Rt K ((p.cells.getD s 0 - 1) / 2).toNat
  have h3:=qj (fun x=>(iY R p s x).map (kS R p s ((p.cells.getD s 0 - 1) / 2))) 7 _ (fun x hx=>by rw [List.length_map]; exact Di R p s x (h2 x hx))
  omega
theorem Fp {α β:Type} [Inhabited α] (f:α→List β) (l:List α) (k:Nat) (h:k<l.length):(l.take (k+1)).flatMap f=(l.take k).flatMap f++f (l.getD k default):=by
 rw [List.take_succ_eq_append_getElem h,List.flatMap_append,List.getD_eq_getElem?_getD,List.getElem?_eq_getElem h]; simp
theorem Ip {β:Type} (f:Int→β) (l:List Int) (k:Nat) (h:k<l.length):(l.take (k+1)).map f=(l.take k).map f++[f (l.getD k 0)]:=by
 rw [List.take_succ_eq_append_getElem h,List.map_append,List.getD_eq_getElem?_getD,List.getElem?_eq_getElem h]; simp
def leM (x y:aB):Bool:=!decide (Il y x<0)
def ql (l:List aB):List aB:=l.mergeSort leM
def dZ (R:aA) (p:bf):List aB:=cZ (ql (pO R p))
def SortMvSaid:Prop:=∀ (base:Nat) (v:Value) (xs:List aB) (w:World),w.ownsRow base 68 3 v xs.length (bK xs)→xs.length≤1000000 →
 Calls Tryz.prog 193 #[v,.func (.func 194) #[] #[]] w fun e w'=>e=.returned (.tuple #[])∧w'.ownsRow base 68 3 v xs.length (bK (ql xs))∧w.grownBy w' v.ownBlock
set_option maxRecDepth 100000 in
set_option maxHeartbeats 4000000 in
theorem xW (HS:SortMvSaid) (R:aA) (vp vs ve:Value) (p:bf) (vc v0 v1:Value) (w:World) (hr:pV w R vp vs ve) (hp:sH w p vc v0 v1) (K:qg R p) :
  Calls Tryz.prog 155 #[(.agg #[.string R.name,.int .i64 R.width,.int .i64 R.height,vp,vs,.bool R.falls,.bool R.keeps,ve,.int .i64 R.blocked,.int .i64 R.quiet,.int .i64 R.bC]),(.agg #[vc,v0,v1,.int .i64 p.turn,.int .i64 p.quiet])] w (zI (dZ R p) w):=by
 have HR:=hid hr
 have HP:=hid hp
 obtain ⟨ac,cc,rfl,hc1,hc2⟩:=hp.1.form
 obtain ⟨ap,cp,rfl,hp1,hp2⟩:=hr.1.form
 unfold maxLen at hc2 hp2
 have hlen:=K.len
 have hnp:=K.r.np
 have qo:=hid HS
 have TK:=hid K.cell
 have Xh:=hid K.cl
 obtain ⟨hw1,hw2⟩:=K.r.w
 obtain ⟨hh1,hh2⟩:=K.r.h
 have HWH:=hid (CU R.width R.height 8 8 hw1 hw2 hh1 hh2)
 have amH:Hid (pO R p=oP R p++(List.range p.cells.length).flatMap (iU R p)):=hid rfl
 have HPL:Hid ((oP R p).length≤384):=hid (by
  have h1:=oQ (je R p) 6 (fun k=>by have:=Dc R p k; rw [sN K] at this; omega) p.cells.length
  unfold oP
  omega)
 clear hr hp HS
 go_enter Tryz.func155,Tryz.ntmps155
 go_upto_region 1 with (fail)
 refine qQ fun w0 B0 B1 fJ hs_=>?_
 have HB:=hid fJ
 have hz0:w.heap.size+1<w0.heap.size:=by omega
 clear hs_ fJ
 have AO:=hid (HR.out.below HB.out (Nat.le_refl _))
 have Fq:=hid (HP.out.below HB.out (Nat.le_refl _))
 have dL:=hid B0
 have jv:=hid B1
 clear B0 B1
 have HB0:Hid (Below w0.heap.size w0 w0):=hid (Below.refl _ _)
 have q0:=(dL.out.below HB0.out (by omega)).cell 0 rfl
 have q1:=(dL.out.below HB0.out (by omega)).cell 1 rfl
 have q2:=(dL.out.below HB0.out (by omega)).cell 2 rfl
 have q3:=(dL.out.below HB0.out (by omega)).cell 3 rfl
 have q4:=(dL.out.below HB0.out (by omega)).cell 4 rfl
 have q5:=(dL.out.below HB0.out (by omega)).cell 5 rfl
 have q6:=(dL.out.below HB0.out (by omega)).cell 6 rfl
 have q7:=(dL.out.below HB0.out (by omega)).cell 7 rfl
 have q8:=(dL.out.below HB0.out (by omega)).cell 8 rfl
 have q9:=(dL.out.below HB0.out (by omega)).cell 9 rfl
 have q10:=(dL.out.below HB0.out (by omega)).cell 10 rfl
 have e0:=(jv.out.below HB0.out (by omega)).cell 0 rfl
 have e1:=(jv.out.below HB0.out (by omega)).cell 1 rfl
 have e2:=(jv.out.below HB0.out (by omega)).cell 2 rfl
 have e3:=(jv.out.below HB0.out (by omega)).cell 3 rfl
 have e4:=(jv.out.below HB0.out (by omega)).cell 4 rfl
 go_wp2_with fail
 refine (Xf R _ vs ve p _ v0 v1 w0 Fq.out K).mono ?_
 rintro e w1 ⟨vo1,rfl,ho1,hb1⟩
 have VY:=hid ho1
 have HB1:=hid hb1
 have hz1:=hb1.size
 clear q0 q1 q2 q3 q4 q5 q6 q7 q8 q9 q10 e0 e1 e2 e3 e4
 clear ho1 hb1
 have e0:=(jv.out.below HB1.out (by omega)).cell 0 rfl
 go_wp2_with fail
 go_loopw [5,21] (fun vo vi wr=>∃ (k:Nat) (out:List aB),k≤p.cells.length∧vi=.int .i64 k∧Hid (wr.ownsRow w0.heap.size 68 3 vo out.length (bK out))∧Hid (out=oP R p++(List.range k).flatMap (iU R p))∧Hid (Below w0.heap.size w0 wr)) (fun _ i _=>p.cells.length - (intOf i).toNat)
 case atStart=>exact ⟨0,oP R p,Nat.zero_le _,rfl,VY,hid (by simp),HB1⟩
 case round =>
  obtain ⟨k,out,hk,rfl,HO,zJ,bn⟩:=hrel
  have hsz:=bn.out.size
  have hol:out.length≤7552:=by
   rw [zJ.out,List.length_append]
   have h1:=oQ (iU R p) 112 (fun k=>AL K.r p k) k
   have h2:=HPL.out
   omega
  clear e0 hz1 VY HB1
  by_cases hlt:k<p.cells.length
  ·obtain ⟨gc,oc,ec,hcc⟩:=eP (Fq.out.1.below bn.out (Nat.le_refl _)) (by omega)
   subst ec
   have hck:=hcc k hlt
   have q0:=(dL.out.below bn.out (by omega)).cell 0 rfl
   have q1:=(dL.out.below bn.out (by omega)).cell 1 rfl
   have q2:=(dL.out.below bn.out (by omega)).cell 2 rfl
   have q3:=(dL.out.below bn.out (by omega)).cell 3 rfl
   have q4:=(dL.out.below bn.out (by omega)).cell 4 rfl
   have q5:=(dL.out.below bn.out (by omega)).cell 5 rfl
   have q6:=(dL.out.below bn.out (by omega)).cell 6 rfl
   have q7:=(dL.out.below bn.out (by omega)).cell 7 rfl
   have q8:=(dL.out.below bn.out (by omega)).cell 8 rfl
   have q9:=(dL.out.below bn.out (by omega)).cell 9 rfl
   have q10:=(dL.out.below bn.out (by omega)).cell 10 rfl
   have e0:=(jv.out.below bn.out (by omega)).cell 0 rfl
   have e1:=(jv.out.below bn.out (by omega)).cell 1 rfl
   have e2:=(jv.out.below bn.out (by omega)).cell 2 rfl
   have e3:=(jv.out.below bn.out (by omega)).cell 3 rfl
   have e4:=(jv.out.below bn.out (by omega)).cell 4 rfl
   clear hcc
   obtain ⟨b1,b2⟩:=TK.out k
   have HSD:Hid (iU R p k=if p.cells.getD k 0=0∨(p.cells.getD k 0 - 1) % 2≠p.turn then [] else (R.pieces.getD ((p.cells.getD k 0 - 1) / 2).toNat default).ways.flatMap (ng R p k ((p.cells.getD k 0 - 1) / 2))):=hid rfl
   generalize p.cells.getD k 0=c at *
   by_cases hc0:c=0
   ·subst hc0
    have HSE:Hid (iU R p k=[]):=hid (by rw [HSD.out,if_pos (.inl rfl)])
    clear HSD
    go_wp2_with fail
    go_roundw
    case rel=>exact ⟨k+1,out,by omega,by go_num,HO,hid (by rw [gU,HSE.out,List.append_nil]; exact zJ.out),bn⟩
    case measure=>simp [intOf]; omega
   have hc1':1≤c:=by omega
   have hcb:(c == 0)=false:=by simpa using hc0
   cases hpar:((c - 1) % 2 == p.turn)
   ·have qh:((c - 1) % 2 != p.turn)=true:=by simp [bne,hpar]
    have HSE:Hid (iU R p k=[]):=hid (by rw [HSD.out,if_pos (.inr (by simpa using hpar))])
    clear HSD hc0
    go_wp2_with fail
    go_roundw
    case rel=>exact ⟨k+1,out,by omega,by go_num,HO,hid (by rw [gU,HSE.out,List.append_nil]; exact zJ.out),bn⟩
    case measure=>simp [intOf]; omega
   have qh:((c - 1) % 2 != p.turn)=false:=by simp [bne,hpar]
   have HSE:Hid (iU R p k=(R.pieces.getD ((c - 1) / 2).toNat default).ways.flatMap (ng R p k ((c - 1) / 2))):=hid (by rw [HSD.out,if_neg]; rintro (h | h); exact hc0 h; exact h (by simpa using hpar))
   clear HSD hc0
   have hz0':0≤((c - 1) / 2):=by omega
   have hz1':((c - 1) / 2)<R.pieces.length:=by omega
   go_upto_region 7 with (fail)
   obtain ⟨gp,op,epp,hgp,ahC⟩:=lV AO.out.1 (by omega)
   subst epp
   obtain ⟨vw,-,-,ahD,ahE,hrw⟩:=ahC ((c - 1) / 2).toNat (by omega)
   have HWK:=hid (Rt K.r ((c - 1) / 2).toNat)
   have HPR:=hid ((K.r.pc ((c - 1) / 2).toNat (by omega)).2.1)
   have HMT:Hid (∀ t:Int,kS R p k ((c - 1) / 2) t=⟨k,t,if 0<(R.pieces.getD ((c - 1) / 2).toNat default).promote∧nZ R p.turn t=true then (R.pieces.getD ((c - 1) / 2).toNat default).promote - 1 else ((c - 1) / 2)⟩):=hid (fun _=>rfl)
   obtain ⟨aw,cw,rfl,hw3,hw4⟩:=hrw.form
   unfold maxLen at hw4
   have amK:=hid hrw
   have HPP:=hid ahD
   have hvw:=(bn.out.cell hgp).trans ahE
   clear ahC hrw ahD ahE
   generalize (R.pieces.getD ((c - 1) / 2).toNat default).ways=ws at *
   have hwl:=HWK.out.1
   go_wp2_with fail
   generalize (c - 1) / 2=kz at *
   obtain ⟨wA,rfl⟩:∃ wA:World,wA=wr:=⟨_,rfl⟩
   clear q0 q1 q2 q3 q4 q5 q6 q7 q8 q9 q10 e0 e1 e2 e3 e4
   clear hvw hck
   go_loopw [5,46] (fun vo vi wr=>∃ (q:Nat) (ms:List aB),q≤ws.length∧vi=.int .i64 q∧Hid (wr.ownsRow w0.heap.size 68 3 vo ms.length (bK ms))∧Hid (ms=out++(ws.take q).flatMap (ng R p k kz))∧Hid (Below w0.heap.size w0 wr)) (fun _ i _=>ws.length - (intOf i).toNat)
   case atStart=>exact ⟨0,out,Nat.zero_le _,rfl,HO,hid (by simp),bn⟩
   case round =>
    obtain ⟨q,ms,hq,rfl,HO,JU,bn⟩:=hrel
    have hsz:=bn.out.size
    have hml:ms.length≤7700:=by
     rw [JU.out,List.length_append]
     have h1:=qj (ng R p k kz) 7 (ws.take q) (fun x hx=>KP (HWK.out.2 x (List.mem_of_mem_take hx)))
     rw [List.length_take] at h1
     omega
    by_cases hql:q<ws.length
    ·obtain ⟨gw,ow,eww,hgw,hwc⟩:=Gf (amK.out.below bn.out (Nat.le_refl _)) (by omega)
     subst eww
     obtain ⟨x0,x1,x2,x3⟩:=hwc q hql
     have HXO:Hid (iW (ws.getD q default)=true):=hid (HWK.out.2 _ (by rw [List.getD_eq_getElem?_getD,List.getElem?_eq_getElem hql]; exact List.getElem_mem hql))
     have HFT:=hid (Fp (ng R p k kz) ws q hql)
     clear hwc
     generalize ws.getD q default=x at *
     have q0:=(dL.out.below bn.out (by omega)).cell 0 rfl
     have q1:=(dL.out.below bn.out (by omega)).cell 1 rfl
     have q2:=(dL.out.below bn.out (by omega)).cell 2 rfl
     have q3:=(dL.out.below bn.out (by omega)).cell 3 rfl
     have q4:=(dL.out.below bn.out (by omega)).cell 4 rfl
     have q5:=(dL.out.below bn.out (by omega)).cell 5 rfl
     have q6:=(dL.out.below bn.out (by omega)).cell 6 rfl
     have q7:=(dL.out.below bn.out (by omega)).cell 7 rfl
     have q8:=(dL.out.below bn.out (by omega)).cell 8 rfl
     have q9:=(dL.out.below bn.out (by omega)).cell 9 rfl
     have q10:=(dL.out.below bn.out (by omega)).cell 10 rfl
     have e0:=(jv.out.below bn.out (by omega)).cell 0 rfl
     have e1:=(jv.out.below bn.out (by omega)).cell 1 rfl
     have e2:=(jv.out.below bn.out (by omega)).cell 2 rfl
     have e3:=(jv.out.below bn.out (by omega)).cell 3 rfl
     have e4:=(jv.out.below bn.out (by omega)).cell 4 rfl
     have y0:w.heap.size<wr.heap.size:=by omega
     have y1:w.heap.size+1<wr.heap.size:=by omega
     go_wp2_with fail
     refine (abd R _ vs ve p _ v0 v1 k x _ (Fq.out.1.below (bn.out.alloc hsz _) (Nat.le_refl _)) K hlt HXO.out).mono ?_
     rintro e w5 ⟨vt,rfl,ht5,hb5⟩
     have OT:=hid (own_base ht5 (show w0.heap.size≤_ by simp; omega))
     have O8:=hid (aS (HO.out.alloc _) hb5)
     have EY:=hid (ak (bn.out.alloc hsz _) hb5 (bn.out.alloc hsz _).size)
     have hts:=Di R p k x HXO.out
     have HTM:Hid (∀ t∈iY R p k x,0≤t∧t<R.width * R.height):=hid (fun t h=>KO h)
     have HSO:Hid (ng R p k kz x=(iY R p k x).map (kS R p k kz)):=hid rfl
     clear ht5 hb5 x0 x1 x2 x3
     clear q0 q1 q2 q3 q4 q5 q6 q7 q8 q9 q10 e0 e1 e2 e3 e4
     generalize iY R p k x=ts at *
     obtain ⟨at',ct,rfl⟩:=aG OT.out
     go_wp2_with fail
     clear y0 y1 hsz
     go_loopw [5,56] (fun vo vi wr=>∃ (r:Nat) (ns:List aB),r≤ts.length∧vi=.int .i64 r∧Hid (wr.ownsRow w0.heap.size 68 3 vo ns.length (bK ns))∧Hid (ns=ms++(ts.take r).map (kS R p k kz))∧Hid (wr.ownsRow w0.heap.size 3 1 (.slice at' ts.length ct) ts.length (ints ts))∧Hid (Below w0.heap.size w0 wr)) (fun _ i _=>ts.length - (intOf i).toNat)
     case atStart=>exact ⟨0,ms,Nat.zero_le _,rfl,O8,hid (by simp),OT,EY⟩
     case round =>
      obtain ⟨r,ns,hr',rfl,HO,HNS,HT,bn⟩:=hrel
      have hsz:=bn.out.size
      have hnl:ns.length≤7800:=by
       rw [HNS.out,List.length_append,List.length_map,List.length_take]
       omega
      by_cases hrl:r<ts.length
      ·obtain ⟨gt,ct',hvt⟩:=dY HT.out (by omega)
       simp only [Value.slice.injEq,true_and] at hvt
       obtain ⟨rfl,rfl⟩:=hvt
       have ht0:wr.cell? ⟨gt,r,none⟩=some (.int .i64 (ts.getD r 0)):=(HT.out.cellAt r (by omega)).trans (dI _ r hrl)
       have htm:=HTM.out (ts.getD r 0) (by rw [List.getD_eq_getElem?_getD,List.getElem?_eq_getElem hrl]; exact List.getElem_mem hrl)
       have aex:=hid (Ip (kS R p k kz) ts r hrl)
       have amL:=htm.1
       have atr:ts.getD r 0≤64:=by have:=HWH.out; omega
       clear htm
       generalize ts.getD r 0=t at *
       have HMV:=hid (HMT.out t)
       have HPB:=hid HPR.out
       go_upto_region 14 with (fail)
       clear ht0
       have mb0:=Box.new' wr wr.heap.size [.int .i64 k,.int .i64 t,.int .i64 kz] 68 rfl
       have HOm:=hid (HO.out.alloc (.cells #[.int .i64 k,.int .i64 t,.int .i64 kz] 68))
       have HTm:=hid (HT.out.alloc (.cells #[.int .i64 k,.int .i64 t,.int .i64 kz] 68))
       have eF:=hid (bn.out.alloc hsz (.cells #[.int .i64 k,.int .i64 t,.int .i64 kz] 68))
       have HOB:Hid (∀ b,u5.ownBlock=some b→b<wr.heap.size):=hid (fun b hb=>(HO.out.lt b hb).2)
       have HTB:Hid (∀ b,(Value.slice (some ⟨gt,0,none⟩) ts.length ct).ownBlock=some b→b<wr.heap.size):=hid (fun b hb=>(HT.out.lt b hb).2)
       have hzm:wr.heap.size<(wr.alloc (.cells #[.int .i64 k,.int .i64 t,.int .i64 kz] 68)).heap.size:=by simp
       generalize (wr.alloc (.cells #[.int .i64 k,.int .i64 t,.int .i64 kz] 68))=wm at *
       have hpm:=(eF.out.cell hgp).trans HPP.out
       generalize (R.pieces.getD kz.toNat default).promote=pr at *
       have hpb:=HPB.out
       have aez:=eF.out.size
       have y0:w.heap.size<wm.heap.size:=by omega
       have y1:w.heap.size+1<wm.heap.size:=by omega
       have q0:=(dL.out.below eF.out (by omega)).cell 0 rfl
       have q1:=(dL.out.below eF.out (by omega)).cell 1 rfl
       have q2:=(dL.out.below eF.out (by omega)).cell 2 rfl
       have q3:=(dL.out.below eF.out (by omega)).cell 3 rfl
       have q4:=(dL.out.below eF.out (by omega)).cell 4 rfl
       have q5:=(dL.out.below eF.out (by omega)).cell 5 rfl
       have q6:=(dL.out.below eF.out (by omega)).cell 6 rfl
       have q7:=(dL.out.below eF.out (by omega)).cell 7 rfl
       have q8:=(dL.out.below eF.out (by omega)).cell 8 rfl
       have q9:=(dL.out.below eF.out (by omega)).cell 9 rfl
       have q10:=(dL.out.below eF.out (by omega)).cell 10 rfl
       have e0:=(jv.out.below eF.out (by omega)).cell 0 rfl
       have e1:=(jv.out.below eF.out (by omega)).cell 1 rfl
       have e2:=(jv.out.below eF.out (by omega)).cell 2 rfl
       have e3:=(jv.out.below eF.out (by omega)).cell 3 rfl
       have e4:=(jv.out.below eF.out (by omega)).cell 4 rfl
       by_cases hpr:0<pr
       ·go_wp2_with fail
        refine (C9 R _ vs ve p.turn t _ K.r amL (by omega)).mono ?_
        rintro e w7 ⟨rfl,hb7⟩
        have MB:=hid (mb0.stays hb7)
        have Pm:=hid (aS HOm.out hb7)
        have HT7:=hid (aS HTm.out hb7)
        have TN:=hid (ak eF.out hb7 eF.out.size)
        have hs7:=hb7.size
        have m0:=MB.out.cell 0 rfl
        have m1:=MB.out.cell 1 rfl
        have m2:=MB.out.cell 2 rfl
        have m2f:=MB.out.frozen 2
        clear hb7 mb0 hpm
        clear q0 q1 q2 q3 q4 q5 q6 q7 q8 q9 q10 e0 e1 e2 e3 e4
        cases hl:nZ R p.turn t
        ·have HMF:Hid (kS R p k kz t=⟨k,t,kz⟩):=hid (by rw [HMV.out,if_neg (by simp [hl])])
         clear hl
         have HOA:=hid (Pm.out)
         have HTA:=hid (HT7.out)
         have Iq:=hid (TN.out)
         have hszA:=Iq.out.size
         have HSZ:=hid hszA
         go_wp2_with (at_builtin; refine fV 80 68 (.agg #[.int .i64 0,.int .i64 0,.int .i64 0]) 3 24 oq Tryz.underlying80 rfl (by decide) (by rfl) _ _ (by rfl) w0.heap.size _ ns.length (bK ns) [.int .i64 k,.int .i64 t,.int .i64 (kz)] w7 HOA.out HSZ.out rfl jq (by omega) (by omega) (by rfl) (by rfl) ?_)
         intro g9 ahH w9 AP sO sQ
         have BD:=hid AP
         have bF:=hid (sO.below Iq.out (Nat.le_refl _))
         have HT9:=hid ((HTA.out.alloc _).kept sQ (own_ne (HTA.out.alloc (.cells #[.int .i64 k,.int .i64 t,.int .i64 (kz)] 68)) (HOA.out.alloc (.cells #[.int .i64 k,.int .i64 t,.int .i64 (kz)] 68)) (by decide)))
         clear AP sO sQ
         go_wp2_with fail
         go_roundw
         case rel=>exact ⟨r+1,ns++[⟨k,t,kz⟩],by omega,by go_num,hid (by rw [← iV,List.length_append]; exact BD.out),hid (by rw [HNS.out,aex.out,HMF.out]; simp),HT9,bF⟩
         case measure=>simp [intOf]; omega
        ·have HMF:Hid (kS R p k kz t=⟨k,t,pr - 1⟩):=hid (by rw [HMV.out,if_pos ⟨hpr,hl⟩])
         clear hl
         have HOA:=hid (ownsRow_setCell_other Pm.out (a:=⟨wr.heap.size,2,none⟩) (fun e=>Nat.lt_irrefl _ (HOB.out _ e)) (.int .i64 (pr - 1)))
         have HTA:=hid (ownsRow_setCell_other HT7.out (a:=⟨wr.heap.size,2,none⟩) (fun e=>Nat.lt_irrefl _ (HTB.out _ e)) (.int .i64 (pr - 1)))
         have Iq:=hid (Below.setCell TN.out (p:=⟨wr.heap.size,2,none⟩) (show w0.heap.size≤wr.heap.size by omega) (.int .i64 (pr - 1)))
         have hszA:=Iq.out.size
         have MS:=MB.out.set 2 (.int .i64 (pr - 1))
         go_upto_region 17 with (fail)
         clear m0 m1 m2 m2f
         generalize (w7.setCell ⟨wr.heap.size,2,none⟩ (.int .i64 (pr - 1)))=wt at *
         have m0:=MS.cell 0 rfl
         have m1:=MS.cell 1 rfl
         have m2:=MS.cell 2 rfl
         clear MS
         have HSZ:=hid hszA
         go_wp2_with (at_builtin; refine fV 80 68 (.agg #[.int .i64 0,.int .i64 0,.int .i64 0]) 3 24 oq Tryz.underlying80 rfl (by decide) (by rfl) _ _ (by rfl) w0.heap.size _ ns.length (bK ns) [.int .i64 k,.int .i64 t,.int .i64 (pr - 1)] wt HOA.out HSZ.out rfl jq (by omega) (by omega) (by rfl) (by rfl) ?_)
         intro g9 ahH w9 AP sO sQ
         have BD:=hid AP
         have bF:=hid (sO.below Iq.out (Nat.le_refl _))
         have HT9:=hid ((HTA.out.alloc _).kept sQ (own_ne (HTA.out.alloc (.cells #[.int .i64 k,.int .i64 t,.int .i64 (pr - 1)] 68)) (HOA.out.alloc (.cells #[.int .i64 k,.int .i64 t,.int .i64 (pr - 1)] 68)) (by decide)))
         clear AP sO sQ
         go_wp2_with fail
         go_roundw
         case rel=>exact ⟨r+1,ns++[⟨k,t,pr - 1⟩],by omega,by go_num,hid (by rw [← iV,List.length_append]; exact BD.out),hid (by rw [HNS.out,aex.out,HMF.out]; simp),HT9,bF⟩
         case measure=>simp [intOf]; omega
       ·have HMF:Hid (kS R p k kz t=⟨k,t,kz⟩):=hid (by rw [HMV.out,if_neg (fun h=>hpr h.1)])
        have m0:=mb0.cell 0 rfl
        have m1:=mb0.cell 1 rfl
        have m2:=mb0.cell 2 rfl
        clear mb0
        have HOA:=hid HOm.out
        have HTA:=hid HTm.out
        have Iq:=hid eF.out
        have hszA:=Iq.out.size
        have HSZ:=hid hszA
        go_wp2_with (at_builtin; refine fV 80 68 (.agg #[.int .i64 0,.int .i64 0,.int .i64 0]) 3 24 oq Tryz.underlying80 rfl (by decide) (by rfl) _ _ (by rfl) w0.heap.size _ ns.length (bK ns) [.int .i64 k,.int .i64 t,.int .i64 (kz)] wm HOA.out HSZ.out rfl jq (by omega) (by omega) (by rfl) (by rfl) ?_)
        intro g9 ahH w9 AP sO sQ
        have BD:=hid AP
        have bF:=hid (sO.below Iq.out (Nat.le_refl _))
        have HT9:=hid ((HTA.out.alloc _).kept sQ (own_ne (HTA.out.alloc (.cells #[.int .i64 k,.int .i64 t,.int .i64 (kz)] 68)) (HOA.out.alloc (.cells #[.int .i64 k,.int .i64 t,.int .i64 (kz)] 68)) (by decide)))
        clear AP sO sQ
        go_wp2_with fail
        go_roundw
        case rel=>exact ⟨r+1,ns++[⟨k,t,kz⟩],by omega,by go_num,hid (by rw [← iV,List.length_append]; exact BD.out),hid (by rw [HNS.out,aex.out,HMF.out]; simp),HT9,bF⟩
        case measure=>simp [intOf]; omega
      ·obtain rfl:r=ts.length:=by omega
       have HE:Hid (ns=out++(ws.take (q+1)).flatMap (ng R p k kz)):=hid (by rw [HNS.out,HFT.out,HSO.out,JU.out,List.take_of_length_le (Nat.le_refl _),List.append_assoc])
       go_wp2_with fail
       go_roundw
       case rel=>exact ⟨q+1,ns,by omega,by go_num,HO,HE,bn⟩
       case measure=>simp [intOf]; omega
    ·obtain rfl:q=ws.length:=by omega
     have HE:Hid (ms=oP R p++(List.range (k+1)).flatMap (iU R p)):=hid (by rw [JU.out,gU,HSE.out,zJ.out,List.take_of_length_le (Nat.le_refl _),List.append_assoc])
     go_wp2_with fail
     go_roundw
     case rel=>exact ⟨k+1,ms,by omega,by go_num,HO,HE,bn⟩
     case measure=>simp [intOf]; omega
  ·obtain rfl:k=p.cells.length:=by omega
   have HE:Hid (out=pO R p):=hid (by rw [zJ.out,amH.out])
   have HLZ:Hid (dZ R p=cZ (ql (pO R p))):=hid rfl
   have HSL:Hid ((ql (pO R p)).length=(pO R p).length):=hid (List.length_mergeSort _)
   obtain rfl:=HE.out
   have O8:=hid (fun (w':World) (h:w'.ownsRow w0.heap.size 68 3 u5 (pO R p).length (bK (pO R p)))=>qo.out w0.heap.size u5 (pO R p) w' h (by omega))
   go_wp2_with fail
   refine (O8.out _ HO.out).mono ?_
   rintro e w5 ⟨rfl,ho5,hg5⟩
   have EY:=hid (Below.grown bn.out hg5 (by omega) (fun q hq=>(HO.out.lt q hq).1))
   have VZ:=hid ho5
   rw [← HSL.out] at VZ
   have hl6:(ql (pO R p)).length≤1000000:=by rw [HSL.out]; omega
   clear ho5 hg5
   go_wp2_with fail
   refine (KN w0.heap.size u5 (ql (pO R p)) _ VZ.out hl6).mono ?_
   rintro e w6 ⟨v6,rfl,OX,Bv⟩
   have Pm:=hid OX
   have Oo:=hid (Below.grown EY.out Bv EY.out.size (fun q hq=>(VZ.out.lt q hq).1))
   clear OX Bv
   go_wp2_with fail
   go_ret
   exact ⟨_,rfl,by rw [HLZ.out]; exact (own_base Pm.out (by omega)),ak HB.out Oo.out HB.out.size⟩
end Go.Proofs.YteablcielclaeaaGreatDoor
