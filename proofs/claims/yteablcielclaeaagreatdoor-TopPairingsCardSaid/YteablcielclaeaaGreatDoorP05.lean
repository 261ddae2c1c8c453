/- HeldS, IntsConc. -/
import Derived.Test.YteablcielclaeaaGreatDoorP04
import Derived.Test.YteablcielclaeaaGreatDoorP01
import Derived.Lib.AppendZeros
import Derived.Laws.AppendOwnNone
namespace Go.Proofs.YteablcielclaeaaGreatDoor
set_option linter.unusedVariables false
section
variable {P:Program} {ops:Array Oper} {Q:Exit→Act→World→Prop} {md:Region.Mode} {S:World→Prop} {L:List Nat} {fuel:Nat} {listed:Array Bool} {a a1:Act} {w:World} {oi:Oper} {v:Value}
theorem vO {α:Type} (xs:List α) (i:Nat) (a:α):xs.toArray.setIfInBounds i a=(xs.set i a).toArray:=List.setIfInBounds_toArray ..
theorem vP {α:Type} (x y:α) (xs:List α):(x :: xs).set 0 y=y :: xs:=rfl
theorem vS {α:Type} (x y:α) (xs:List α) (i:Nat):(x :: xs).set (i+1) y=x :: xs.set i y:=rfl
theorem lW (i:Nat) (h:wpAnyH P md ops Q S fuel (listed.setIfInBounds i true) (a1.put oi.dst undef) w) (ha:a=a1:=by ((try simp only [Act.put,vO,vP,vS]); first | done | rfl)) (hi:ops[i]?=some oi:=by first | (simp only [List.getElem?_toArray,List.getElem?_cons_zero,List.getElem?_cons_succ] <;> rfl) | rfl) (hs:Region.noSelect ops=true:=by kernel_rfl) (hf:Region.free md ops listed i=true:=by kernel_rfl) (hr:(Region.ready md ops listed).contains i=true:=by kernel_rfl)
    (hQ:∀ c a w,Q (.panic c) (a.put oi.dst undef) w→Q (.panic c) a w:=by exact fun _ _ _ h=>h) (hy:YieldsIf P ops S oi undef a1:=by exact Or.inr ⟨by rfl,by rfl⟩) (hS:S w:=by assumption):wpAnyH P md ops Q S (fuel+1) listed a w:=
  by subst ha; exact wpAnyH_take hi hs hf hr hQ hy hS h
theorem bY (i:Nat) (h:wpAnyH P md ops Q S fuel (listed.setIfInBounds i true) (a1.put oi.dst v) w) (ha:a=a1:=by ((try simp only [Act.put,vO,vP,vS]); first | done | rfl)) (hi:ops[i]?=some oi:=by first | (simp only [List.getElem?_toArray,List.getElem?_cons_zero,List.getElem?_cons_succ] <;> rfl) | rfl) (hs:Region.noSelect ops=true:=by kernel_rfl) (hf:Region.free md ops listed i=true:=by kernel_rfl) (hr:(Region.ready md ops listed).contains i=true:=by kernel_rfl)
    (hQ:∀ c a w,Q (.panic c) (a.put oi.dst v) w→Q (.panic c) a w:=by exact fun _ _ _ h=>h)
    (hy:YieldsIf P ops S oi v a1:=by exact Or.inl ⟨by rfl,by (intro w hSw; (try dsimp only at hSw); go_simp; first | done | (with_reducible rfl))⟩) (hS:S w:=by assumption):wpAnyH P md ops Q S (fuel+1) listed a w:=
  by subst ha; exact wpAnyH_take hi hs hf hr hQ hy hS h
theorem dV (i:Nat) (h:wpAnyL P md ops Q S L fuel (listed.setIfInBounds i true) (a1.put oi.dst v) w) (ha:a=a1:=by ((try simp only [Act.put,vO,vP,vS]); first | done | rfl)) (hi:ops[i]?=some oi:=by first | (simp only [List.getElem?_toArray,List.getElem?_cons_zero,List.getElem?_cons_succ] <;> rfl) | rfl) (hs:Region.noSelect ops=true:=by kernel_rfl) (hf:Region.free md ops listed i=true:=by kernel_rfl) (hr:(Region.ready md ops listed).contains i=true:=by kernel_rfl)
    (hl:OM md ops L i=true:=by kernel_rfl) (hLi:L.contains i=false:=by rfl) (hE:early L listed=true:=by kernel_rfl) (hC:Ih md ops listed=true:=by kernel_rfl)
    (hQ:∀ c a w,Q (.panic c) (a.put oi.dst v) w→Q (.panic c) a w:=by exact fun _ _ _ h=>h)
    (hy:YieldsIf P ops S oi v a1:=by exact Or.inl ⟨by rfl,by (intro w hSw; (try dsimp only at hSw); go_simp; first | done | (with_reducible rfl))⟩) (hS:S w:=by assumption):wpAnyL P md ops Q S L (fuel+1) listed a w:=
  by subst ha; exact adr hi hs hf hr hl hLi hE hC hQ hy hS h
theorem aC (i:Nat) (h:wpAnyL P md ops Q S L fuel (listed.setIfInBounds i true) (a1.put oi.dst v) w) (ha:a=a1:=by ((try simp only [Act.put,vO,vP,vS]); first | done | rfl)) (hi:ops[i]?=some oi:=by first | (simp only [List.getElem?_toArray,List.getElem?_cons_zero,List.getElem?_cons_succ] <;> rfl) | rfl) (hs:Region.noSelect ops=true:=by kernel_rfl) (hf:Region.free md ops listed i=true:=by kernel_rfl) (hr:(Region.ready md ops listed).contains i=true:=by kernel_rfl) (hLi:L.contains i=false:=by rfl)
    (hQ:∀ c a w,Q (.panic c) (a.put oi.dst v) w→Q (.panic c) a w:=by exact fun _ _ _ h=>h)
    (hy:YieldsIf P ops (fun _=>True) oi v a1:=by exact Or.inl ⟨by rfl,by (intro w _; go_simp; first | done | (with_reducible rfl) | (rw [if_neg (by omega)]))⟩) (hS:early L listed=true→S w:=by first | exact fun _=>by assumption | exact fun he=>by cases he):wpAnyL P md ops Q S L (fuel+1) listed a w:=
  by subst ha; exact ads hi hs hf hr hLi hQ hy hS h
theorem pK (i:Nat) (h:wpAnyL P md ops Q S L fuel (listed.setIfInBounds i true) (a1.put oi.dst undef) w) (ha:a=a1:=by ((try simp only [Act.put,vO,vP,vS]); first | done | rfl)) (hi:ops[i]?=some oi:=by first | (simp only [List.getElem?_toArray,List.getElem?_cons_zero,List.getElem?_cons_succ] <;> rfl) | rfl) (hs:Region.noSelect ops=true:=by kernel_rfl) (hf:Region.free md ops listed i=true:=by kernel_rfl) (hr:(Region.ready md ops listed).contains i=true:=by kernel_rfl) (hLi:L.contains i=false:=by rfl)
    (hQ:∀ c a w,Q (.panic c) (a.put oi.dst undef) w→Q (.panic c) a w:=by exact fun _ _ _ h=>h) (hy:YieldsIf P ops (fun _=>True) oi undef a1:=by exact Or.inr ⟨by rfl,by rfl⟩) (hS:early L listed=true→S w:=by first | exact fun _=>by assumption | exact fun he=>by cases he):wpAnyL P md ops Q S L (fuel+1) listed a w:=
  by subst ha; exact ads hi hs hf hr hLi hQ hy hS h
theorem fH (i:Nat) (h:∀ K':Act→World→Prop,Shut (∀ a w,S w→(S w→wpAnyL P md ops Q S L fuel (listed.setIfInBounds i true) a w)→K' a w)→if Region.wanted oi (yielded ops a1.tmps)=true then Oper.wp P oi a1 w K' Q else K' (a1.put oi.dst undef) w)
    (ha:a=a1:=by ((try simp only [Act.put,vO,vP,vS]); first | done | rfl)) (hi:ops[i]?=some oi:=by first | (simp only [List.getElem?_toArray,List.getElem?_cons_zero,List.getElem?_cons_succ] <;> rfl) | rfl) (hr:Region.ready md ops listed=[i]:=by kernel_rfl):wpAnyL P md ops Q S L (fuel+1) listed a w:=
  by subst ha; exact OO hr (by simp) (aU.cons hi h aU.nil)
theorem rP (i:Nat) (h:∀ K':Act→World→Prop,Shut (∀ a w,wpAnyL P md ops Q S L fuel (listed.setIfInBounds i true) a w→K' a w)→if Region.wanted oi (yielded ops a1.tmps)=true then Oper.wp P oi a1 w K' Q else K' (a1.put oi.dst undef) w)
    (ha:a=a1:=by ((try simp only [Act.put,vO,vP,vS]); first | done | rfl)) (hi:ops[i]?=some oi:=by first | (simp only [List.getElem?_toArray,List.getElem?_cons_zero,List.getElem?_cons_succ] <;> rfl) | rfl) (hr:Region.ready md ops listed=[i]:=by kernel_rfl) (hL:early L (listed.setIfInBounds i true)=false:=by kernel_rfl):wpAnyL P md ops Q S L (fuel+1) listed a w:=
  by subst ha; exact OO hr (by simp) (aU.late hi hL h aU.nil)
theorem uD (i:Nat) (h:∀ K':Act→World→Prop,Shut (∀ a w,S w→(S w→wpAnyH P md ops Q S fuel (listed.setIfInBounds i true) a w)→K' a w)→if Region.wanted oi (yielded ops a1.tmps)=true then Oper.wp P oi a1 w K' Q else K' (a1.put oi.dst undef) w)
    (ha:a=a1:=by ((try simp only [Act.put,vO,vP,vS]); first | done | rfl)) (hi:ops[i]?=some oi:=by first | (simp only [List.getElem?_toArray,List.getElem?_cons_zero,List.getElem?_cons_succ] <;> rfl) | rfl) (hr:Region.ready md ops listed=[i]:=by kernel_rfl):wpAnyH P md ops Q S (fuel+1) listed a w:=
  by subst ha; exact wpAnyH_ready hr (by simp) (AllReadyH.cons hi h AllReadyH.nil)
theorem Tv {rs:List Nat} (h:aU P md ops Q S L fuel listed a1 w rs) (ha:a=a1:=by ((try simp only [Act.put,vO,vP,vS]); first | done | rfl)) (hr:Region.ready md ops listed=rs:=by kernel_rfl) (hn:rs≠[]:=by simp):wpAnyL P md ops Q S L (fuel+1) listed a w:=by subst ha; exact OO hr hn h
theorem jC {R:Exit→Act→World→Prop} (h:R .normal a1 w) (ha:a=a1:=by ((try simp only [Act.put,vO,vP,vS]); first | done | rfl)) (hr:Region.ready md ops listed=[]:=by kernel_rfl):wpAnyL P md ops (NoPanic R) S L fuel listed a w:=by subst ha; exact ahk hr (NoPanic.normal h) fuel
theorem dnH (h:Q .normal a1 w) (ha:a=a1:=by ((try simp only [Act.put,vO,vP,vS]); first | done | rfl)) (hr:Region.ready md ops listed=[]:=by kernel_rfl):wpAnyH P md ops Q S fuel listed a w:=by subst ha; exact wpAnyH_done hr h fuel
end
end Go.Proofs.YteablcielclaeaaGreatDoor
namespace Go.Proofs.YteablcielclaeaaGreatDoor
open Go.ChangeShapes Go.WideShapes Go.ChangeAt Go.RowKit
set_option linter.unusedVariables false
set_option maxHeartbeats 1000000
set_option maxRecDepth 100000
open Go.Lib (hid)
theorem wpList_append_run {P:Program} {w w1:World} {ops:Array Oper} {rest:List Oper} {o:Oper} {a:Act} {Q:Exit→Act→World→Prop} (hgd:o.guard=none) (s x:Operand) (t t':TypeId)
  (ho:o.op=.call { callee:=.builtin .append,args:=#[s,x],argTypes:=#[t,t'] }) (u v v1:Value) (hs:a.eval s=u) (hx:a.eval x=v)
  (hr:∀ ty,(Builtin.append_ #[t,t'] ty #[u,v]).run P w=.ok v1 w1) (h:wpList P ops Q rest (a.put o.dst v1) w1):wpList P ops Q (o :: rest) a w:=
 wpList_plain hgd fun K hK=>by
  unfold Oper.wp execOp
  simp only [ho,resolve,invoke,builtin,Sem.run_bind,Sem.run_pure,Result.andThen_ok,List.map_toArray,List.map_cons,List.map_nil,hs,hx,hr]
  exact hK _ _ h
def Ko (w:World) (e:Ending) (w':World):Prop:=∃ v',e=.returned v'∧w'.ownsRow w.heap.size 3 1 v' 0 []∧Below w.heap.size w w'
theorem WO (k:Nat) (w:World) (hk:k≤1000000) :
  Calls Tryz.prog 259 #[.slice none 0 0,.int .i64 k] w (Ko w):=by
 obtain ⟨i0,hi,hz0,hz1,hz2⟩:=info_parts info3
 have hsl0:∀ w:World,(Instr.slice 22 (.slice none 0 0) none (some (.int .i64 0)) none).run Tryz.prog w=.ok (.slice none 0 0) w:=fun w=>nU (s:=1) Tryz.underlying22 (fun _=>by kernel_rfl) _ _ _ 0 (by omega) w
 by_cases h0:k=0
 ·subst h0
  go_enter Tryz.func259,Tryz.ntmps259
  go_wp2
  go_ret
  exact ⟨_,rfl,World.ownsRow_nil _ _ _ _,Below.refl _ _⟩
 ·have hr:=fun ty=>Lib.run_append_nil_zeros (P:=Tryz.prog) w 22 3 ty 3 i0 (.int .i64 0) .i64 .i64 Tryz.underlying22 Tryz.underlying3 hi hz0 k (by omega) (by omega) (by omega) (by rw [hz2]; omega)
  have hge:=grownCap_ge w k 0 3
  have hcm:grownCap w k 0 3≤maxLen:=grownCap_le_maxLen w k 0 3 (by unfold maxLen; omega)
  have HB:Hid (Below w.heap.size w (w.drew.alloc (.cells (Builtin.zeroCells (Value.cells (.int .i64 0)) k++Builtin.zeroCells (Value.cells (.int .i64 0)) (grownCap w k 0 3 - k)) 3))):=hid ((below_drewN (Below.refl _ _) 1).alloc (by simp) _)
  have HO:Hid ((w.drew.alloc (.cells (Builtin.zeroCells (Value.cells (.int .i64 0)) k++Builtin.zeroCells (Value.cells (.int .i64 0)) (grownCap w k 0 3 - k)) 3)).ownsRow w.heap.size 3 1 (.slice (some ⟨w.heap.size,0,none⟩) 0 (grownCap w k 0 3)) 0 []):=hid (World.ownsRow_made w.drew _ _ (by simp) hcm (by simp [Builtin.zeroCells,Value.cells]; omega))
  generalize (w.drew.alloc (.cells (Builtin.zeroCells (Value.cells (.int .i64 0)) k++Builtin.zeroCells (Value.cells (.int .i64 0)) (grownCap w k 0 3 - k)) 3))=w1 at *
  generalize grownCap w k 0 3=c at *
  have hsl1:∀ w':World,(Instr.slice 22 (.slice (some ⟨w.heap.size,0,none⟩) k c) none (some (.int .i64 0)) none).run Tryz.prog w'=.ok (.slice (some ⟨w.heap.size,0,none⟩) 0 c) w':=fun w'=>nU (s:=1) Tryz.underlying22 (fun _=>by kernel_rfl) _ _ _ 0 (by omega) w'
  have hk0:(0:Int)<(k:Int):=by omega
  have HR:=hid hr
  clear hi hz0 hz1 hz2 hge hcm hr
  go_enter Tryz.func259,Tryz.ntmps259
  go_wp2_with (at_builtin; refine wpList_append_run rfl _ _ 22 3 rfl (.slice none 0 0) (.int .i64 k) (.slice (some ⟨w.heap.size,0,none⟩) k c) rfl rfl HR.out ?_)
  go_ret
  exact ⟨_,rfl,HO.out,HB.out⟩
def ams (w:World) (v va vb:Value):Prop:=∃ g o c,v=.slice (some ⟨g,o,none⟩) 2 c∧g<w.heap.size∧w.cell? ⟨g,o,none⟩=some va∧w.cell? ⟨g,o+1,none⟩=some vb
def WQ (zs:List Int) (w:World) (e:Ending) (w':World):Prop:=∃ v',e=.returned v'∧w'.ownsRow w.heap.size 3 1 v' zs.length (ints zs)∧Below w.heap.size w w'
theorem aen {w:World} {a:Addr} {n c:Nat} {zs:List Int} (h:fQ w (.slice (some a) n c) zs):n=zs.length∧∀ j u,(ints zs)[j]?=some u→w.cell? (a.add j)=some u:=by
 rcases h.2 with ⟨⟨a',c',h0,_⟩,hz⟩ | ⟨g,o,c',hv,h1,h2,hc⟩
 ·obtain rfl:zs=[]:=List.length_eq_zero_iff.1 hz
  simp only [Value.slice.injEq] at h0
  exact ⟨h0.2.1,fun j u hu=>by simp [ints] at hu⟩
 ·simp only [Value.slice.injEq,Option.some.injEq] at hv
  obtain ⟨rfl,rfl,rfl⟩:=hv
  refine ⟨rfl,fun j u hu=>?_⟩
  have hj:j<zs.length:=by
   have:=(List.getElem?_eq_some_iff.1 hu).1
   rwa [nR] at this
  have e:(⟨g,o,none⟩:Addr).add j=⟨g,o+j,none⟩:=by unfold Addr.add; split <;> simp_all
  rw [e,hc j (by omega),hu]
theorem Bq (w:World) (c base:Nat) (i:TypeInfo) (hi:Tryz.prog.info? 3=some i) (ty:TypeId) (v:Value) (n:Nat) (xs:List Value) (hown:w.ownsRow base 3 1 v n xs) :
  (Builtin.append_ #[22,22] ty #[v,.slice none 0 c]).run Tryz.prog w=.ok v w:=by
 rcases hown.2 with ⟨rfl,rfl⟩ | ⟨g,cap,cur,rfl,_,_,hnc,_⟩
 ·simp [Builtin.append_,run_underlying Tryz.underlying22,sizeOf,typeInfo,hi,Builtin.lenOf,Builtin.firstCells]
 ·simp [Builtin.append_,run_underlying Tryz.underlying22,sizeOf,typeInfo,hi,Builtin.lenOf,Builtin.firstCells,hnc,storeCells]
theorem wM {w:World} {ops:Array Oper} {rest:List Oper} {o:Oper} {a:Act} {Q:Exit→Act→World→Prop} (hgd:o.guard=none) (s x:Operand)
  (ho:o.op=.call { callee:=.builtin .append,args:=#[s,x],argTypes:=#[22,22] }) (i:TypeInfo) (hi:Tryz.prog.info? 3=some i)
  (base c:Nat) (v:Value) (n:Nat) (xs:List Value) (hs:a.eval s=v) (hown:w.ownsRow base 3 1 v n xs) (hx:a.eval x=.slice none 0 c)
  (h:wpList Tryz.prog ops Q rest (a.put o.dst v) w):wpList Tryz.prog ops Q (o :: rest) a w:=by
 refine wpList_plain hgd fun K hK=>?_
 have hrun:=Bq w c base i hi o.type v n xs hown
 unfold Oper.wp
 simp [execOp,ho,resolve,invoke,builtin,hs,hx,hrun,Result.andThen]
 exact hK _ _ h
theorem pX {w:World} {ops:Array Oper} {rest:List Oper} {o:Oper} {a:Act} {Q:Exit→Act→World→Prop} (hgd:o.guard=none) (s x:Operand)
  (ho:o.op=.call { callee:=.builtin .append,args:=#[s,x],argTypes:=#[22,22] })
  (base:Nat) (v:Value) (zs:List Int) (hs:a.eval s=v) (hown:w.ownsRow base 3 1 v zs.length (ints zs))
  (vs:Value) (ys:List Int) (hx:a.eval x=vs) (hr:fQ w vs ys) (hlen:zs.length+ys.length≤1000000) (hbase:base≤w.heap.size)
  (h:∀ v' w',w'.ownsRow base 3 1 v' (zs++ys).length (ints (zs++ys))→w.grownBy w' v.ownBlock→wpList Tryz.prog ops Q rest (a.put o.dst v') w'):wpList Tryz.prog ops Q (o :: rest) a w:=by
 obtain ⟨i0,hi,hz0,hz1,hz2⟩:=info_parts info3
 obtain ⟨sa,c,rfl,h1,h2⟩:=hr.form
 cases sa with
 | none =>
  have hz:ys.length=0:=by
   rcases hr.2 with ⟨-,hz⟩ | ⟨g,o',c',e,-⟩
   ·exact hz
   ·cases e
  obtain rfl:ys=[]:=List.length_eq_zero_iff.1 hz
  refine wM hgd s x ho i0 hi base c v _ _ hs hown hx (h v w (by simpa using hown) ⟨rfl,rfl,rfl,Nat.le_refl _,fun _ _ _=>rfl⟩)
 | some ad =>
  refine wpList_append_own _ hgd s x 22 ho base 3 i0 (.int .i64 0) 1 8 Tryz.underlying22 hi hz0 hz1 hz2 rfl (by decide) v zs.length (ints zs) hs hown ad ys.length c (ints ys) hx (by rw [nR]; omega) (aen hr).2 (wJ ys) (by unfold maxLen; omega) (by omega) hbase ?_
  intro v' w2 ho2 hg2 _
  refine h v' w2 ?_ hg2
  have e:ints (zs++ys)=ints zs++ints ys:=by simp [ints]
  rw [e,List.length_append]
  exact ho2
theorem below_grown {w w1 w2:World} {B:Nat} {e:TypeId} {sz n:Nat} {v:Value} {xs:List Value} (hb:Below B w w1) (hown:w1.ownsRow B e sz v n xs) (hg:w1.grownBy w2 v.ownBlock) (hB:B≤w1.heap.size):Below B w w2:=
 Below.grown hb hg hB (fun q hq=>(hown.lt q hq).1)
theorem OQ (v va vb:Value) (xs ys:List Int) (w:World) (h:ams w v va vb) (ha:fQ w va xs) (hb:fQ w vb ys) (hx:xs.length≤1000) (hy:ys.length≤1000) :
  Calls Tryz.prog 252 #[v] w (WQ (xs++ys) w):=by
 obtain ⟨i0,hi,hz0,hz1,hz2⟩:=info_parts info3
 obtain ⟨g,o,c,rfl,hg,h0,h1⟩:=h
 have HA:=hid ha
 have HB:=hid hb
 obtain ⟨aa,ca,rfl,ha1,ha2⟩:=ha.form
 obtain ⟨ab,cb,rfl,hb1,hb2⟩:=hb.form
 clear ha hb
 unfold maxLen at ha2 hb2
 go_enter Tryz.func252,Tryz.ntmps252
 go_wp2_with fail
 go_loop [3,11] (fun s i=>(i=.int .i64 0∧s=.int .i64 0)∨(i=.int .i64 1∧s=.int .i64 xs.length)∨(i=.int .i64 2∧s=.int .i64 ((xs.length:Int)+ys.length))) (fun s i=>2 - (intOf i).toNat)
 case atStart=>exact .inl ⟨rfl,rfl⟩
 case round =>
  rcases hrel with ⟨rfl,rfl⟩ | ⟨rfl,rfl⟩ | ⟨rfl,rfl⟩
  ·go_wp2_with fail
   go_round
   case rel=>exact .inr (.inl ⟨rfl,rfl⟩)
   case measure=>decide
  ·go_wp2_with fail
   go_round
   case rel=>exact .inr (.inr ⟨rfl,rfl⟩)
   case measure=>decide
  ·have hG:Calls Tryz.prog 259 #[.slice none 0 0,.int .i64 ((xs.length:Int)+ys.length)] w (Ko w):=by
    have:=WO (xs.length+ys.length) w (by omega)
    rwa [Int.natCast_add] at this
   have HG:=hid hG
   clear hG
   go_wp2_with fail
   refine HG.out.mono ?_
   rintro e w1 ⟨v1,rfl,ho1,hb1⟩
   have VY:=hid ho1
   have HB1:=hid hb1
   clear ho1 hb1
   go_wp2_with fail
   go_loopw [6,27] (fun v i wr=>∃ zs:List Int,((i=.int .i64 0∧zs=[])∨(i=.int .i64 1∧zs=xs)∨(i=.int .i64 2∧zs=xs++ys))∧Hid (wr.ownsRow w.heap.size 3 1 v zs.length (ints zs))∧Hid (Below w.heap.size w wr)) (fun _ i _=>2 - (intOf i).toNat)
   case atStart=>exact ⟨[],.inl ⟨rfl,rfl⟩,VY,HB1⟩
   case round =>
    obtain ⟨zs,hi',HOr,bn⟩:=hrel
    have hsz:=bn.out.size
    have q0:=(bn.out.cell (p:=⟨g,o,none⟩) hg).trans h0
    have q1:=(bn.out.cell (p:=⟨g,o+1,none⟩) hg).trans h1
    have hgr:g<wr.heap.size:=by omega
    rcases hi' with ⟨rfl,rfl⟩ | ⟨rfl,rfl⟩ | ⟨rfl,rfl⟩
    ·go_wp2_with (at_builtin; refine pX rfl _ _ rfl w.heap.size _ [] rfl HOr.out _ xs rfl (HA.out.below bn.out (Nat.le_refl _)) (by simp; omega) hsz ?_)
     intro v' w2 ho2 hg2
     have HB2:=hid (below_grown bn.out HOr.out hg2 hsz)
     have xH:=hid ho2
     clear ho2 hg2
     go_wp2_with fail
     go_roundw
     case rel=>exact ⟨xs,.inr (.inl ⟨rfl,rfl⟩),hid (by simpa using xH.out),HB2⟩
     case measure=>decide
    ·go_wp2_with (at_builtin; refine pX rfl _ _ rfl w.heap.size _ zs rfl HOr.out _ ys rfl (HB.out.below bn.out (Nat.le_refl _)) (by omega) hsz ?_)
     intro v' w2 ho2 hg2
     have HB2:=hid (below_grown bn.out HOr.out hg2 hsz)
     have xH:=hid ho2
     clear ho2 hg2
     go_wp2_with fail
     go_roundw
     case rel=>exact ⟨zs++ys,.inr (.inr ⟨rfl,rfl⟩),hid (by have:=xH.out; rw [List.length_append]; exact this),HB2⟩
     case measure=>decide
    ·go_wp2_with fail
     go_ret
     exact ⟨_,rfl,HOr.out,bn.out⟩
end Go.Proofs.YteablcielclaeaaGreatDoor
