/- IntsClone, Box, EngBegin. -/
import Derived.OneCell
import Derived.Deep.MidRow
import Derived.Test.YteablcielclaeaaGreatDoorP06
import Derived.Deep.Cut
namespace Go.Proofs.YteablcielclaeaaGreatDoor
open Go.ChangeShapes Go.WideShapes Go.ChangeAt Go.RowKit
set_option linter.unusedVariables false
open Go.Lib (hid)
def TD (zs:List Int) (w:World) (e:Ending) (w':World):Prop:=∃ v',e=.returned v'∧w'.ownsRow w.heap.size 3 1 v' zs.length (ints zs)∧Below w.heap.size w w'
theorem lJ (v:Value) (zs:List Int) (w:World) (h:fQ w v zs) (hl:zs.length≤1000000) :
  Calls Tryz.prog 22 #[v] w (TD zs w):=by
 obtain ⟨i0,hi,hz0,hz1,hz2⟩:=info_parts info3
 have hform:(∃ c,v=.slice none 0 c∧zs=[])∨∃ (ad:Addr) (c:Nat),v=.slice (some ad) zs.length c∧zs.length≤c∧c≤maxLen ∧
   ∀ j u,(ints zs)[j]?=some u→(w.alloc (.cells #[] 3)).cell? (ad.add j)=some u:=by
  rcases h.2 with ⟨⟨a,c,rfl,hm⟩,hz⟩ | ⟨g,o,c,rfl,h1,h2,hc⟩
  ·obtain rfl:zs=[]:=List.length_eq_zero_iff.1 hz
   cases a with
   | none=>exact .inl ⟨c,rfl,rfl⟩
   | some ad=>exact .inr ⟨ad,c,rfl,by simp,hm,fun j u hu=>by simp [ints] at hu⟩
  ·refine .inr ⟨⟨g,o,none⟩,c,rfl,h1,h2,fun j u hu=>?_⟩
   have hj:j<zs.length:=by
    have:=(List.getElem?_eq_some_iff.1 hu).1
    rwa [nR] at this
   have hcell:=hc j (by omega)
   rw [hu] at hcell
   have hlt:=World.block_lt_of_cell? w _ hcell
   have e:(⟨g,o,none⟩:Addr).add j=⟨g,o+j,none⟩:=by unfold Addr.add; split <;> simp_all
   rw [e,World.cell?_of_block (w:=w) (a:=⟨g,o+j,none⟩) (Below.heap_alloc w _ g hlt)]
   exact hcell
 rcases hform with ⟨c,rfl,rfl⟩ | ⟨ad,c,rfl,h1,h2,hnews⟩
 ·have hq:=fun (w:World) (a:Option Addr) (n c:Nat)=>Lib.run_eql_slice_nil (P:=Tryz.prog) w 22 3 a n c 0 0 Tryz.underlying22
  clear h hl
  go_enter Tryz.func22,Tryz.ntmps22
  go_wp2
  go_ret
  exact ⟨_,rfl,World.ownsRow_nil _ _ _ _,Below.refl _ _⟩
 ·have hq:=fun (w:World) (a:Option Addr) (n c:Nat)=>Lib.run_eql_slice_nil (P:=Tryz.prog) w 22 3 a n c 0 0 Tryz.underlying22
  have hown0:(w.alloc (.cells #[] 3)).ownsRow w.heap.size 3 1 (.slice (some ⟨w.heap.size,0,none⟩) 0 0) 0 []:=World.ownsRow_made w #[] 0 (Nat.le_refl _) (by unfold maxLen; omega) rfl
  have nX:=hid hown0
  have nY:=hid hnews
  have OU:=hid (show (ints zs).length=zs.length * 1 by rw [nR]; omega)
  clear hown0 hnews h
  go_enter Tryz.func22,Tryz.ntmps22
  go_wp2_with (at_builtin; refine wpList_append_own _ rfl _ _ 22 rfl w.heap.size 3 i0 (.int .i64 0) 1 8 Tryz.underlying22 hi hz0 hz1 hz2 rfl (by decide) _ 0 [] rfl nX.out ad zs.length c (ints zs) rfl OU.out nY.out (wJ zs) ?c3 ?c4 ?c5 ?_)
  case c3=>unfold maxLen; omega
  case c4=>omega
  case c5=>simp
  intro v' w2 hown' hgrow _
  try simp only [Nat.zero_add,List.nil_append] at hown'
  have hb:Below w.heap.size w w2:=Below.grown ((Below.refl _ w).alloc (Nat.le_refl _) _) hgrow (by simp) (fun q hq=>by simp [Value.ownBlock] at hq; omega)
  have HO:=hid hown'
  clear hown' hgrow
  go_wp2
  go_ret
  exact ⟨v',rfl,HO.out,hb⟩
end Go.Proofs.YteablcielclaeaaGreatDoor
namespace Go.Proofs.YteablcielclaeaaGreatDoor
open Go.RowKit
set_option linter.unusedVariables false
def Box (w:World) (b:Nat) (cs:List Value) (t:TypeId):Prop:=w.heap[b]?=some (.cells cs.toArray t (0,0))
theorem Box.lt {w:World} {b:Nat} {cs:List Value} {t:TypeId} (h:Box w b cs t):b<w.heap.size:=by
 unfold Box at h
 by_cases hh:b<w.heap.size
 ·exact hh
 ·rw [Array.getElem?_eq_none (by omega)] at h
  cases h
theorem Box.below {w w':World} {B b:Nat} {cs:List Value} {t:TypeId} (h:Box w b cs t) (hb:Below B w w') (hB:b<B):Box w' b cs t:=(hb.block b hB).trans h
theorem Box.stays {w w':World} {b:Nat} {cs:List Value} {t:TypeId} (h:Box w b cs t) (hb:Below w.heap.size w w'):Box w' b cs t:=h.below hb h.lt
theorem Box.drewN {w:World} {b:Nat} {cs:List Value} {t:TypeId} (h:Box w b cs t) (n:Nat):Box (w.drewN n) b cs t:=h
theorem Box.drew {w:World} {b:Nat} {cs:List Value} {t:TypeId} (h:Box w b cs t):Box w.drew b cs t:=h
theorem Box.alloc {w:World} {b:Nat} {cs:List Value} {t:TypeId} (h:Box w b cs t) (o:Obj):Box (w.alloc o) b cs t:=(Below.heap_alloc w o b h.lt).trans h
theorem Box.new (w:World) (cs:List Value) (t:TypeId):Box (w.alloc (.cells cs.toArray t)) w.heap.size cs t:=heap_alloc_new w _
theorem Box.cell {w:World} {b:Nat} {cs:List Value} {t:TypeId} (h:Box w b cs t) (j:Nat) {v:Value} (hj:cs[j]?=some v):w.cell? ⟨b,j,none⟩=some v:=by
 unfold Box at h
 simp only [World.cell?,h]
 simpa using hj
theorem Box.frozen {w:World} {b:Nat} {cs:List Value} {t:TypeId} (h:Box w b cs t) (j:Nat):w.frozen? ⟨b,j,none⟩=false:=by
 unfold Box at h
 simp [World.frozen?,h]
theorem Box.set {w:World} {b:Nat} {cs:List Value} {t:TypeId} (h:Box w b cs t) (j:Nat) (u:Value):Box (w.setCell ⟨b,j,none⟩ u) b (cs.set j u) t:=by
 have hlt:=h.lt
 unfold Box at *
 have h':w.heap[b]=.cells cs.toArray t (0,0):=by simpa [Array.getElem?_eq_getElem hlt] using h
 show (w.heap.modify b _)[b]?=_
 rw [Array.getElem?_eq_getElem (by simpa using hlt),Array.getElem_modify_self,h']
 simp
theorem Box.far {w:World} {b:Nat} {cs:List Value} {t:TypeId} (h:Box w b cs t) (p:Addr) (u:Value) (hne:b≠p.block):Box (w.setCell p u) b cs t:=(Below.heap_setCell w p u b hne).trans h
theorem Box.grown {w w':World} {b:Nat} {cs:List Value} {t:TypeId} {row:Option Nat} (h:Box w b cs t) (hg:w.grownBy w' row) (hne:some b≠row):Box w' b cs t:=(hg.block b h.lt hne).trans h
theorem Box.range {w:World} {b:Nat} {cs:List Value} {t:TypeId} (h:Box w b cs t):w.rangeAt b 0 cs:=fun j v hj=>by rw [Nat.zero_add]; exact h.cell j hj
theorem Box.there {w:World} {b n:Nat} {cs:List Value} {t:TypeId} (h:Box w b cs t) (hn:cs.length=n):w.there b 0 n:=fun j hj=>by
 rw [Nat.zero_add]
 exact ⟨by rw [h.cell j (List.getElem?_eq_getElem (by omega))]; rfl,h.frozen j⟩
theorem jT (b:Nat):∀ (vs:List Value) (o:Nat) (w:World) (k:Nat),k≠b→(w.setCells b o vs).heap[k]?=w.heap[k]?
 | [],_,_,_,_=>rfl
 | v :: t,o,w,k,hk=>by
  rw [World.setCells,jT b t (o+1) _ k hk]
  exact Below.heap_setCell w _ v k hk
theorem size_setCells (b:Nat):∀ (vs:List Value) (o:Nat) (w:World),(w.setCells b o vs).heap.size=w.heap.size
 | [],_,_=>rfl
 | v :: t,o,w=>by rw [World.setCells,size_setCells b t (o+1) _]; simp [World.setCell]
theorem eY (b:Nat):∀ (vs:List Value) (o:Nat) (w:World),(w.setCells b o vs).os=w.os∧(w.setCells b o vs).tape=w.tape∧(w.setCells b o vs).output=w.output
 | [],_,_=>⟨rfl,rfl,rfl⟩
 | v :: t,o,w=>by rw [World.setCells]; exact eY b t (o+1) _
theorem below_setCells {B b:Nat} {a w:World} (h:Below B a w) (hb:B≤b) (o:Nat) (vs:List Value):Below B a (w.setCells b o vs):=
 h.trans ⟨(eY b vs o w).1,(eY b vs o w).2.1,(eY b vs o w).2.2,by rw [size_setCells]; exact Nat.le_refl _,fun k hk=>jT b vs o w k (by omega)⟩
theorem aN {w:World} {base b:Nat} {e:TypeId} {sz n:Nat} {v:Value} {xs:List Value} (h:w.ownsRow base e sz v n xs) (hb:b<base) (o:Nat) (vs:List Value):(w.setCells b o vs).ownsRow base e sz v n xs:=
 h.kept (row:=some b) ⟨(eY b vs o w).1,(eY b vs o w).2.1,(eY b vs o w).2.2,by rw [size_setCells]; exact Nat.le_refl _,fun k _ hk=>jT b vs o w k (fun e=>hk (by rw [e]))⟩
  (by cases hv:v.ownBlock with
    | none=>exact .inl rfl
    | some k=>exact .inr (by have:=(h.lt k hv).1; simp; omega))
theorem Box.OV {w:World} {b b':Nat} {cs:List Value} {t:TypeId} (h:Box w b cs t) (hne:b≠b') (o:Nat) (vs:List Value):Box (w.setCells b' o vs) b cs t:=(jT b' vs o w b hne).trans h
theorem xM (b:Nat):∀ (vs pre:List Value) (cs:List Value) (w:World) (t:TypeId),cs.length=vs.length→Box w b (pre++cs) t→Box (w.setCells b pre.length vs) b (pre++vs) t
 | [],pre,cs,w,t,hl,h=>by
  obtain rfl:cs=[]:=List.length_eq_zero_iff.1 (by simpa using hl)
  exact h
 | v :: vs,pre,[],w,t,hl,h=>by simp at hl
 | v :: vs,pre,c :: cs,w,t,hl,h=>by
  rw [World.setCells]
  have h1:=h.set pre.length v
  rw [List.set_append_right _ _ (Nat.le_refl _),Nat.sub_self,List.set_cons_zero] at h1
  have:=xM b vs (pre++[v]) cs _ t (by simpa using hl) (by simpa using h1)
  rw [List.length_append] at this
  simpa using this
theorem Box.store {w:World} {b:Nat} {cs vs:List Value} {t:TypeId} (h:Box w b cs t) (hl:cs.length=vs.length):Box (w.setCells b 0 vs) b vs t:=by
 have:=xM b vs [] cs w t hl h
 simpa using this
section
variable {P:Program} {ops:Array Oper} {rest:List Oper} {op:Oper} {a:Act} {w:World} {Q:Exit→Act→World→Prop}
theorem aH (hgd:op.guard=none) (ty:TypeId) (x:Operand) (ho:op.op=.load ty x) (b:Nat) (hx:a.eval x=.pointer (some ⟨b,0,none⟩)) {cs:List Value} {t:TypeId} (hc:Box w b cs t)
  {d:TypeDesc} (hu:P.underlying ty=some d) (hd:d.isRow=true) (hi:(P.info? ty).map (·.size)=some cs.length)
  (h:wpList P ops Q rest (a.put op.dst (.agg cs.toArray)) w):wpList P ops Q (op :: rest) a w:=
 wpList_load_mid hgd ty x ho b 0 hx cs d hc.range hu hd hi h
theorem aT (hgd:op.guard=none) (ty:TypeId) (x y:Operand) (ho:op.op=.store ty x y) (b:Nat) {vs cs:List Value} {t:TypeId} (hx:a.eval x=.pointer (some ⟨b,0,none⟩)) (hy:a.eval y=.agg vs.toArray)
  (hc:Box w b cs t) (hl:cs.length=vs.length) (hi:(P.info? ty).map (·.size)=some vs.length) (h1:vs.all (·.oneCell')=true)
  (h:wpList P ops Q rest (a.put op.dst undef) (w.setCells b 0 vs)):wpList P ops Q (op :: rest) a w:=
 wpList_store_mid hgd ty x y ho b 0 vs.toArray hx hy (by simpa using hc.there hl) (by simpa using hi) (by simpa using h1) (by simpa using h)
end
theorem aQ {K:Act→World→Prop} {A:Act} {W:World} (h:∀ w',w'=W→K A w'):K A W:=h _ rfl
theorem eG {w:World} {p:Addr} {v:Value} (h:w.cell? p=some v) (o:Obj):(w.alloc o).cell? p=some v:=by
 rw [World.cell?_alloc_lt _ _ _ (World.block_lt_of_cell? w p h)]; exact h
theorem kE {P:Program} {fn:Func} {tmps:Array Value} {a s:Nat} {t t':TypeId} {w:World} {b:Nat} {cs:List Value} {v:Value} {d:TypeDesc} (hr:fn.results=#[.cell a t,.tmp s])
  (ha:tmps.getD a undef=.pointer (some ⟨b,0,none⟩)) (hs:tmps.getD s undef=v) (hc:Box w b cs t') (hu:P.underlying t=some d) (hd:d.isRow=true) (hi:(P.info? t).map (·.size)=some cs.length) :
  (results fn tmps).run P w=.ok (.tuple #[.agg cs.toArray,v]) w:=by
 have hl:=run_loadVar_mid (P:=P) w b 0 t cs d hc.range hu hd hi
 have ha':tmps[a]?.getD undef=.pointer (some ⟨b,0,none⟩):=by simpa using ha
 have hs':tmps[s]?.getD undef=v:=by simpa using hs
 unfold results
 rw [hr]
 simp [asAddr,ha',hs',hl]
theorem dJ {P:Program} {fn:Func} {tmps:Array Value} {a:Nat} {t t':TypeId} {w:World} {b:Nat} {cs:List Value} {d:TypeDesc} (hr:fn.results=#[.cell a t])
  (ha:tmps.getD a undef=.pointer (some ⟨b,0,none⟩)) (hc:Box w b cs t') (hu:P.underlying t=some d) (hd:d.isRow=true) (hi:(P.info? t).map (·.size)=some cs.length) :
  (results fn tmps).run P w=.ok (.agg cs.toArray) w:=by
 have hl:=run_loadVar_mid (P:=P) w b 0 t cs d hc.range hu hd hi
 have ha':tmps[a]?.getD undef=.pointer (some ⟨b,0,none⟩):=by simpa using ha
 unfold results
 rw [hr]
 simp [asAddr,ha',hl]
end Go.Proofs.YteablcielclaeaaGreatDoor
namespace Go.Proofs.YteablcielclaeaaGreatDoor
open Go.ChangeShapes Go.WideShapes Go.ChangeAt Go.RowKit
set_option linter.unusedVariables false
set_option maxHeartbeats 4000000
set_option maxRecDepth 100000
open Go.Lib (hid)
theorem kR {W w1:World} (hb:Below W.heap.size W w1):(∀ b o,b<W.heap.size→w1.cell? ⟨b,o,none⟩=W.cell? ⟨b,o,none⟩)∧(∀ b o,b<W.heap.size→w1.frozen? ⟨b,o,none⟩=W.frozen? ⟨b,o,none⟩):=
 ⟨fun b o h=>hb.cell (p:=⟨b,o,none⟩) h,fun b o h=>hb.frozen (p:=⟨b,o,none⟩) h⟩
theorem sH.alloc {w:World} {p:bf} {vc v0 v1:Value} (h:sH w p vc v0 v1) (o:Obj):sH (w.alloc o) p vc v0 v1:=h.below ((Below.refl _ _).alloc (Nat.le_refl _) _) (Nat.le_refl _)
theorem CV (R:aA) (vp vs ve:Value) (p:bf) (vc v0 v1:Value) (w:World) (h:pV w R vp vs ve) (hnm:R.name.size≤maxLen) (hp:sH w p vc v0 v1) :
  Calls Tryz.prog 206 #[(.agg #[.string R.name,.int .i64 R.width,.int .i64 R.height,vp,vs,.bool R.falls,.bool R.keeps,ve,.int .i64 R.blocked,.int .i64 R.quiet,.int .i64 R.bC]),(.agg #[vc,v0,v1,.int .i64 p.turn,.int .i64 p.quiet])] w fun e w'=>e=.returned (.int .i64 (jl R p))∧Below w.heap.size w w':=by
 have HR:=hid h
 have HP:=hid hp
 have HN:=hid hnm
 have HC:Hid (jl R p=if aJ R≠0 then aJ R else fA R p):=hid rfl
 clear h hp hnm
 go_enter Tryz.func206,Tryz.ntmps206
 go_wp2_with fail
 refine (nV R vp vs ve _ ((HR.out.alloc _).alloc _) HN.out).mono ?_
 rintro e w1 ⟨rfl,hb1⟩
 have hs1:=hb1.size
 simp at hs1
 have z0:w.heap.size<w1.heap.size:=by omega
 have z1:w.heap.size+1<w1.heap.size:=by omega
 have q0:w1.cell? ⟨w.heap.size,0,none⟩=some (.string R.name):=(hb1.cell (by go_size)).trans (by simp [go_sem])
 have q1:w1.cell? ⟨w.heap.size,1,none⟩=some (.int .i64 R.width):=(hb1.cell (by go_size)).trans (by simp [go_sem])
 have q2:w1.cell? ⟨w.heap.size,2,none⟩=some (.int .i64 R.height):=(hb1.cell (by go_size)).trans (by simp [go_sem])
 have q3:w1.cell? ⟨w.heap.size,3,none⟩=some vp:=(hb1.cell (by go_size)).trans (by simp [go_sem])
 have q4:w1.cell? ⟨w.heap.size,4,none⟩=some vs:=(hb1.cell (by go_size)).trans (by simp [go_sem])
 have q5:w1.cell? ⟨w.heap.size,5,none⟩=some (.bool R.falls):=(hb1.cell (by go_size)).trans (by simp [go_sem])
 have q6:w1.cell? ⟨w.heap.size,6,none⟩=some (.bool R.keeps):=(hb1.cell (by go_size)).trans (by simp [go_sem])
 have q7:w1.cell? ⟨w.heap.size,7,none⟩=some ve:=(hb1.cell (by go_size)).trans (by simp [go_sem])
 have q8:w1.cell? ⟨w.heap.size,8,none⟩=some (.int .i64 R.blocked):=(hb1.cell (by go_size)).trans (by simp [go_sem])
 have q9:w1.cell? ⟨w.heap.size,9,none⟩=some (.int .i64 R.quiet):=(hb1.cell (by go_size)).trans (by simp [go_sem])
 have q10:w1.cell? ⟨w.heap.size,10,none⟩=some (.int .i64 R.bC):=(hb1.cell (by go_size)).trans (by simp [go_sem])
 have p0:w1.cell? ⟨w.heap.size+1,0,none⟩=some vc:=(hb1.cell (by go_size)).trans (by simp [go_sem])
 have p1:w1.cell? ⟨w.heap.size+1,1,none⟩=some v0:=(hb1.cell (by go_size)).trans (by simp [go_sem])
 have p2:w1.cell? ⟨w.heap.size+1,2,none⟩=some v1:=(hb1.cell (by go_size)).trans (by simp [go_sem])
 have p3:w1.cell? ⟨w.heap.size+1,3,none⟩=some (.int .i64 p.turn):=(hb1.cell (by go_size)).trans (by simp [go_sem])
 have p4:w1.cell? ⟨w.heap.size+1,4,none⟩=some (.int .i64 p.quiet):=(hb1.cell (by go_size)).trans (by simp [go_sem])
 have HB:Hid (Below w.heap.size w w1):=hid ((((Below.refl _ _).alloc (Nat.le_refl _) _).alloc (by go_size) _).trans (hb1.mono (by go_size)))
 clear hb1 hs1
 cases t1:(aJ R == 0)
 ·have t1':(aJ R != 0)=true:=by simp [bne,t1]
  have HE:Hid (jl R p=aJ R):=hid (by rw [HC.out,if_pos (by simpa using t1)])
  go_wp2_with fail
  go_ret
  exact ⟨by rw [HE.out]; rfl,HB.out⟩
 have t1':(aJ R != 0)=false:=by simp [bne,t1]
 have HZ:Hid (aJ R=0):=hid (by simpa using t1)
 have HE:Hid (jl R p=fA R p):=hid (by rw [HC.out,if_neg (by simp [HZ.out])])
 clear t1 HC
 go_wp2_with fail
 refine (TB R vp vs ve p vc v0 v1 _ (HR.out.below HB.out (Nat.le_refl _)) (HP.out.below HB.out (Nat.le_refl _)) HZ.out).mono ?_
 rintro e w2 ⟨rfl,hb2⟩
 have HB2:=hid (ak HB.out hb2 HB.out.size)
 clear hb2
 go_wp2_with fail
 go_ret
 exact ⟨by rw [HE.out]; rfl,HB2.out⟩
theorem CW {R:aA} (h:aJ R=0):R.start.length≤64:=by
 obtain ⟨hw,hh,_⟩:=BM h
 have hwh:=CU R.width R.height 8 8 hw.1 hw.2 hh.1 hh.2
 unfold aJ at h
 by_cases e1:sJ R.name=false
 ·rw [if_pos e1] at h; cases h
 rw [if_neg e1] at h
 by_cases e2:wb R.width 1 8=false∨wb R.height 1 8=false
 ·rw [if_pos e2] at h; cases h
 rw [if_neg e2] at h
 by_cases e3:dG R.pieces≠0
 ·rw [if_pos e3] at h; exact absurd h e3
 rw [if_neg e3] at h
 by_cases e4:(R.start.length:Int)≠R.width * R.height
 ·rw [if_pos e4] at h; cases h
 ·omega
def xO:Value:=.agg #[.slice none 0 0,.slice none 0 0,.slice none 0 0,.int .i64 0,.int .i64 0]
def aF (R:aA):bf:=⟨R.start,R.pieces.map (·.hand),R.pieces.map (·.hand),0,0⟩
def BInv (B:Nat) (vc v0 v1:Value) (zs0 zs1:List Int) (w2 w:World):Prop:=
 Box w B [vc,v0,v1,.int .i64 0,.int .i64 0] 158∧w.ownsRow (B+1) 3 1 v0 zs0.length (ints zs0)∧w.ownsRow (B+1) 3 1 v1 zs1.length (ints zs1) ∧
 (v0.ownBlock=none∨v0.ownBlock≠v1.ownBlock)∧Below B w2 w
theorem BInv.start (w2:World) (vc:Value):BInv w2.heap.size vc (.slice none 0 0) (.slice none 0 0) [] [] w2 (w2.alloc (.cells #[vc,.slice none 0 0,.slice none 0 0,.int .i64 0,.int .i64 0] 158)):=
 ⟨Box.new w2 _ _,World.ownsRow_nil _ _ _ _,World.ownsRow_nil _ _ _ _,.inl rfl,(Below.refl _ _).alloc (Nat.le_refl _) _⟩
theorem BInv.drew {B:Nat} {vc v0 v1:Value} {zs0 zs1:List Int} {w2 w:World} (h:BInv B vc v0 v1 zs0 zs1 w2 w):BInv B vc v0 v1 zs0 zs1 w2 w.drew:=
 ⟨h.1,h.2.1,h.2.2.1,h.2.2.2.1,below_drewN h.2.2.2.2 1⟩
theorem BInv.alloc {B:Nat} {vc v0 v1:Value} {zs0 zs1:List Int} {w2 w:World} (h:BInv B vc v0 v1 zs0 zs1 w2 w) (o:Obj):BInv B vc v0 v1 zs0 zs1 w2 (w.alloc o):=
 ⟨h.1.alloc o,h.2.1.alloc o,h.2.2.1.alloc o,h.2.2.2.1,h.2.2.2.2.alloc (Nat.le_of_lt h.1.lt) o⟩
theorem uF {w:World} {b:Nat} {z:Int} (h:w.cell? ⟨b,0,none⟩=some (.int .i64 z)):∀ j u,[Value.int .i64 z][j]?=some u→w.cell? ((⟨b,0,none⟩:Addr).add j)=some u:=by
 intro j u hu
 rcases j with _ | j
 ·simp at hu; subst hu; rw [lT]; exact h
 ·simp at hu
theorem one_cell {z:Int}:∀ u∈[Value.int .i64 z],u.oneCell'=true:=by intro u hu; simp at hu; subst hu; rfl
theorem uG {w:World} {b B:Nat} {e:TypeId} {sz n:Nat} {v:Value} {xs:List Value} (h:w.ownsRow b e sz v n xs) (hB:B<b):some B≠v.ownBlock:=fun e=>by have:=(h.lt B e.symm).1; omega
theorem oO {v:Value} {B b:Nat} (h:∀ k,v.ownBlock=some k→k<B) (hB:B≤b):some b≠v.ownBlock:=fun e=>by have:=h b e.symm; omega
theorem uH {v0 v1:Value} (h:v0.ownBlock=none∨v0.ownBlock≠v1.ownBlock):v1.ownBlock=none∨v1.ownBlock≠v0.ownBlock:=by
 cases h1:v1.ownBlock with
 | none=>exact .inl rfl
 | some b =>
  right
  rcases h with h | h
  ·rw [h]; simp
  ·rw [h1] at h; exact fun e=>h e.symm
theorem new_ne {v0 v1:Value} {g H:Nat} (hq:v0.ownBlock=some g∨g=H) (h:v0.ownBlock=none∨v0.ownBlock≠v1.ownBlock) (hl:∀ b,v1.ownBlock=some b→b<H):some g≠v1.ownBlock:=by
 rcases hq with e | e
 ·rcases h with h | h
  ·rw [h] at e; cases e
  ·rw [← e]; exact h
 ·intro e'
  have:=hl g e'.symm
  omega
theorem TF {v1:Value} {g6 g13 H:Nat} (h:some g6≠v1.ownBlock) (hq:v1.ownBlock=some g13∨g13=H) (hg:g6<H):g6≠g13:=by
 rcases hq with e | e
 ·exact fun e'=>h (by rw [e',e])
 ·omega
theorem jG (zs:List Int) (z:Int):ints (zs++[z])=ints zs++[.int .i64 z]:=by simp [ints]
def OwnB (base:Nat) (w:World) (p:bf) (vc v0 v1:Value):Prop:=
 w.ownsRow base 3 1 vc p.cells.length (ints p.cells)∧w.ownsRow base 3 1 v0 p.h0.length (ints p.h0)∧w.ownsRow base 3 1 v1 p.h1.length (ints p.h1)
theorem OwnB.rd {base:Nat} {w:World} {p:bf} {vc v0 v1:Value} (h:OwnB base w p vc v0 v1):sH w p vc v0 v1:=⟨fQ.dB h.1,fQ.dB h.2.1,fQ.dB h.2.2⟩
def OW (R:aA) (w:World) (e:Ending) (w':World):Prop:=
 (aJ R≠0∧e=.returned (.tuple #[xO,.int .i64 (aJ R)])∧Below w.heap.size w w') ∨
 (aJ R=0∧∃ vc v0 v1,e=.returned (.tuple #[sG (aF R) vc v0 v1,.int .i64 0])∧OwnB w.heap.size w' (aF R) vc v0 v1∧Below w.heap.size w w')
theorem CX (R:aA) (vp vs ve:Value) (w:World) (h:pV w R vp vs ve) (hnm:R.name.size≤maxLen) :
  Calls Tryz.prog 53 #[(.agg #[.string R.name,.int .i64 R.width,.int .i64 R.height,vp,vs,.bool R.falls,.bool R.keeps,ve,.int .i64 R.blocked,.int .i64 R.quiet,.int .i64 R.bC])] w (OW R w):=by
 have HR:=hid h
 have HN:=hid hnm
 clear h hnm
 go_enter Tryz.func53,Tryz.ntmps53
 go_wp2_with fail
 refine (nV R vp vs ve _ ((HR.out.alloc _).alloc _) HN.out).mono ?_
 rintro e w1 ⟨rfl,hb1⟩
 have hs1:=hb1.size
 simp at hs1
 have z0:w.heap.size<w1.heap.size:=by omega
 have z1:w.heap.size+1<w1.heap.size:=by omega
 obtain ⟨hcell,hfr⟩:=kR hb1
 have HB:Hid (Below w.heap.size w w1):=hid ((((Below.refl _ _).alloc (Nat.le_refl _) _).alloc (by go_size) _).trans (hb1.mono (by go_size)))
 cases t1:(aJ R == 0)
 ·have t1':(aJ R != 0)=true:=by simp [bne,t1]
  have HT:=hid t1
  clear hb1 t1
  go_wp2_with fail
  refine bodyPost_ret (v:=.tuple #[xO,.int .i64 (aJ R)]) (by simp [results,Tryz.results53,go_sem,xO,hcell]) rfl (.inl ⟨by simpa using HT.out,rfl,?_⟩)
  have hbel:=HB.out
  go_grown
 have t1':(aJ R != 0)=false:=by simp [bne,t1]
 have HZ:Hid (aJ R=0):=hid (by simpa using t1)
 have hst:R.start.length≤64:=CW HZ.out
 have hnp:=(BM HZ.out).2.2
 have Gi:Hid (fQ w1 vs R.start):=hid (HR.out.2.1.below HB.out (Nat.le_refl _))
 have q3:w1.cell? ⟨w.heap.size,3,none⟩=some vp:=(hb1.cell (by go_size)).trans (by simp [go_sem])
 have q4:w1.cell? ⟨w.heap.size,4,none⟩=some vs:=(hb1.cell (by go_size)).trans (by simp [go_sem])
 have g1:Box w1 (w.heap.size+1) [.slice none 0 0,.slice none 0 0,.slice none 0 0,.int .i64 0,.int .i64 0] 158:=by
  have hbx:=Box.new (w.alloc (.cells #[.string R.name,.int .i64 R.width,.int .i64 R.height,vp,vs,.bool R.falls,.bool R.keeps,ve,.int .i64 R.blocked,.int .i64 R.quiet,.int .i64 R.bC] 61)) [.slice none 0 0,.slice none 0 0,.slice none 0 0,.int .i64 0,.int .i64 0] 158
  rw [World.size_alloc] at hbx
  exact hbx.below hb1 (by go_size)
 clear hcell hfr hb1 hs1 t1
 go_wp2_with fail
 refine (lJ vs R.start _ Gi.out (by omega)).mono ?_
 rintro e w2 ⟨vc,rfl,ho2,hb2⟩
 have q3b:w2.cell? ⟨w.heap.size,3,none⟩=some vp:=(hb2.cell z0).trans q3
 have g1b:=g1.below hb2 z1
 have z0b:=Nat.lt_of_lt_of_le z0 hb2.size
 have z1b:=Nat.lt_of_lt_of_le z1 hb2.size
 have HB2:=hid (ak HB.out hb2 HB.out.size)
 have HVc:Hid (fQ w2 vc R.start):=hid (fQ.dB ho2)
 obtain ⟨va,CY,rfl⟩:=aG ho2
 have HVo:=hid ho2
 have z1a:w.heap.size+1<w1.heap.size:=z1
 have hnil:=HR.out
 obtain ⟨ap,cp,rfl,hp1,hp2⟩:=HR.out.1.form
 unfold maxLen at hp2
 obtain ⟨i0,hi,hz0,hz1,hz2⟩:=info_parts info3
 have HI:=hid hi
 have HZ0:=hid hz0
 have HZ1:=hid hz1
 have HZ2:=hid hz2
 clear ho2 hb2 q3 q4 g1 z0 z1 hnil hi hz0 hz1 hz2
 go_wp2_with fail
 go_loopw [21] (fun i wr=>∃ (k:Nat) (v0 v1:Value),k≤R.pieces.length∧i=.int .i64 k∧Hid (BInv w2.heap.size (.slice va R.start.length CY) v0 v1 ((R.pieces.map (·.hand)).take k) ((R.pieces.map (·.hand)).take k) w2 wr)) (fun i _=>R.pieces.length - (intOf i).toNat)
 case atStart=>exact ⟨0,_,_,Nat.zero_le _,rfl,hid (BInv.start _ _)⟩
 case round =>
  obtain ⟨k,v0,v1,hk,rfl,HI0⟩:=hrel
  have hsz:w2.heap.size<wr.heap.size:=HI0.out.1.lt
  have hbel:Below w2.heap.size w2 wr:=HI0.out.2.2.2.2
  have q3r:wr.cell? ⟨w.heap.size,3,none⟩=some (.slice ap R.pieces.length cp):=(hbel.cell z0b).trans q3b
  have z0r:w.heap.size<wr.heap.size:=by omega
  by_cases hlt:k<R.pieces.length
  ·obtain ⟨g,o,rfl,hg,hc⟩:=lV (HR.out.1.below (HB2.out.trans (hbel.mono HB2.out.size)) (Nat.le_refl _)) (by omega)
   obtain ⟨vw,d0,d1,d2,d3,hw⟩:=hc k hlt
   obtain ⟨aw,cw,rfl,hw1,hw2⟩:=hw.form
   have hk0:(0:Int)≤(k:Int):=by omega
   have hk1:(k:Int)<(R.pieces.length:Int):=by omega
   have HT:Hid ((R.pieces.map (·.hand)).take (k+1)=(R.pieces.map (·.hand)).take k++[(R.pieces.getD k default).hand]):=hid (by
    rw [List.take_add_one,List.getElem?_map,List.getElem?_eq_getElem hlt,List.getD_eq_getElem?_getD,List.getElem?_eq_getElem hlt]; rfl)
   have HLen:Hid (((R.pieces.map (·.hand)).take k).length=k):=hid (by rw [List.length_take,List.length_map]; omega)
   clear hc hw hbel
   generalize R.pieces.getD k default=x at *
   obtain ⟨xl,xh,xp,xw⟩:=x
   simp only at d0 d1 d2 d3
   generalize (R.pieces.map (·.hand)).take k=zs at *
   go_wp2_with fail
   have HIq:=hid (HI0.out.alloc (.cells #[.int .u8 xl,.int .i64 xh,.int .i64 xp,.slice aw xw.length cw] 137))
   have OB0:∀ b,v0.ownBlock=some b→b<wr.heap.size:=fun b hb=>(HI0.out.2.1.lt b hb).2
   have OB1:∀ b,v1.ownBlock=some b→b<wr.heap.size:=fun b hb=>(HI0.out.2.2.1.lt b hb).2
   have fx:(wr.alloc (.cells #[.int .u8 xl,.int .i64 xh,.int .i64 xp,.slice aw xw.length cw] 137)).cell? ⟨wr.heap.size,1,none⟩=some (.int .i64 xh):=by simp [go_sem]
   clear d0 d1 d2 d3 q3r hk0 hk1
   generalize (wr.alloc (.cells #[.int .u8 xl,.int .i64 xh,.int .i64 xp,.slice aw xw.length cw] 137))=wq at *
   have hzl:zs.length≤6:=by have:=HLen.out; omega
   obtain ⟨a0,c0,rfl⟩:=aG HIq.out.2.1
   obtain ⟨a1,c1,rfl⟩:=aG HIq.out.2.2.1
   have amA:BInv w2.heap.size (.slice va R.start.length CY) (.slice a0 zs.length c0) (.slice a1 zs.length c1) zs zs w2 wq.drew:=BInv.drew HIq.out
   obtain ⟨Bx0,Ox0,Oy0,NE,Lx0⟩:=amA
   have fx0:wq.drew.cell? ⟨wr.heap.size,1,none⟩=some (.int .i64 xh):=fx
   have Y0:wr.heap.size<wq.drew.heap.size:=World.block_lt_of_cell? _ _ fx0
   clear fx HIq HI0
   refine wp_region_noPanic ?_
   refine bI (S:=(fun w'=>w'.cell? ⟨w2.heap.size,1,none⟩=some (.slice a0 zs.length c0)∧w'.cell? ⟨w2.heap.size,2,none⟩=some (.slice a1 zs.length c1)∧w'.cell? ⟨wr.heap.size,1,none⟩=some (.int .i64 xh))) (L:=[16,19]) (by kernel_rfl) ⟨Bx0.cell 1 rfl,Bx0.cell 2 rfl,fx0⟩ (fun hHeld=>?_)
   refine aC 0 ?_
   refine aC 3 ?_
   refine aC 7 ?_
   refine aC 10 ?_
   refine aC 14 ?_
   refine aC 17 ?_
   refine aC 1 ?_
   refine dV 4 ?_
   refine aC 8 ?_
   refine dV 11 ?_
   refine dV 2 ?_
   refine dV 9 ?_
   refine Tv (rs:=[5,12]) ?_
   refine (aU.cons (by first | (simp only [List.getElem?_toArray,List.getElem?_cons_zero,List.getElem?_cons_succ] <;> rfl) | rfl) (fun K hK=>?_) (aU.cons (by first | (simp only [List.getElem?_toArray,List.getElem?_cons_zero,List.getElem?_cons_succ] <;> rfl) | rfl) (fun K hK=>?_) aU.nil))
   ·skip
    go_simp
    refine aQ ?_
    intro w5 e5
    have TG:Box w5 w2.heap.size [(.slice va R.start.length CY),(.slice a0 zs.length c0),(.slice a1 zs.length c1),.int .i64 0,.int .i64 0] 158:=by rw [e5]; exact Bx0.alloc _
    have fx5:w5.cell? ⟨wr.heap.size,1,none⟩=some (.int .i64 xh):=by rw [e5]; exact eG fx0 _
    have Ox5:w5.ownsRow (w2.heap.size+1) 3 1 (.slice a0 zs.length c0) zs.length (ints zs):=by rw [e5]; exact Ox0.alloc _
    have Oy5:w5.ownsRow (w2.heap.size+1) 3 1 (.slice a1 zs.length c1) zs.length (ints zs):=by rw [e5]; exact Oy0.alloc _
    have Lx5:Below w2.heap.size w2 w5:=by rw [e5]; exact Lx0.alloc (Nat.le_of_lt Bx0.lt) _
    have Z5:wq.drew.heap.size≤w5.heap.size:=by rw [e5]; simp
    have Y5:wr.heap.size<w5.heap.size:=Nat.lt_of_lt_of_le Y0 Z5
    have N5:w5.cell? ⟨wq.drew.heap.size,0,none⟩=some (.int .i64 xh):=by rw [e5]; simp [go_sem]
    clear e5
    refine hK.out _ _ ⟨TG.cell 1 rfl,TG.cell 2 rfl,fx5⟩ (fun hHeld=>?_)
    clear hK K
    refine Tv (rs:=[6,12]) ?_
    refine (aU.cons (by first | (simp only [List.getElem?_toArray,List.getElem?_cons_zero,List.getElem?_cons_succ] <;> rfl) | rfl) (fun K hK=>?_) (aU.cons (by first | (simp only [List.getElem?_toArray,List.getElem?_cons_zero,List.getElem?_cons_succ] <;> rfl) | rfl) (fun K hK=>?_) aU.nil))
    ·skip
     rw [if_pos (by rfl)]
     refine wp_append_lies _ _ _ 22 rfl (w2.heap.size+1) 3 i0 (.int .i64 0) 1 8 Tryz.underlying22 HI.out HZ0.out HZ1.out HZ2.out rfl (by decide) (.slice a0 zs.length c0) zs.length (ints zs) rfl Ox5 ⟨wq.drew.heap.size,0,none⟩ 1 1 [.int .i64 xh] rfl rfl (uF N5) one_cell (by decide) (by unfold maxLen; omega) (by omega) TG.lt w5.heap.size rfl ?_
     intro g6 c6 w6 OX Bv hq6 hl6
     have Ol:=TG.grown Bv (uG (Ox5) (by omega))
     have fx6:=Bv.cell fx5 (oO OB0 (Nat.le_refl _))
     have Lx6:=Below.grown Lx5 Bv (Nat.le_of_lt TG.lt) (fun q hq=>Nat.le_trans (Nat.le_succ _) (Ox5.lt q hq).1)
     have Z6:=Bv.size
     have Y6:wr.heap.size<w6.heap.size:=Nat.lt_of_lt_of_le Y5 Z6
     have Ox6:=OX
     have Oy6:=Oy5.kept Bv (uH NE)
     have G6:=hl6
     have NE6:some g6≠Value.ownBlock (.slice a1 zs.length c1):=new_ne hq6 NE (fun b hb=>Nat.lt_of_lt_of_le (OB1 b hb) (Nat.le_of_lt Y5))
     clear OX Bv hq6 hl6
     refine hK.out _ _ ⟨Ol.cell 1 rfl,Ol.cell 2 rfl,fx6⟩ (fun hHeld=>?_)
     clear hK K
     refine aC 15 ?_
     refine fH 12 fun K hK=>?_
     go_simp
     refine aQ ?_
     intro w12 e12
     have uY:Box w12 w2.heap.size [(.slice va R.start.length CY),(.slice a0 zs.length c0),(.slice a1 zs.length c1),.int .i64 0,.int .i64 0] 158:=by rw [e12]; exact Ol.alloc _
     have Kq:w12.cell? ⟨wr.heap.size,1,none⟩=some (.int .i64 xh):=by rw [e12]; exact eG fx6 _
     have OY:w12.ownsRow (w2.heap.size+1) 3 1 (.slice (some ⟨g6,0,none⟩) (zs.length+1) c6) (zs.length+1) (ints zs++[.int .i64 xh]):=by rw [e12]; exact Ox6.alloc _
     have OZ:w12.ownsRow (w2.heap.size+1) 3 1 (.slice a1 zs.length c1) zs.length (ints zs):=by rw [e12]; exact Oy6.alloc _
     have WU:Below w2.heap.size w2 w12:=by rw [e12]; exact Lx6.alloc (Nat.le_of_lt Ol.lt) _
     have Z12:w6.heap.size≤w12.heap.size:=by rw [e12]; simp
     have Y12:wr.heap.size<w12.heap.size:=Nat.lt_of_lt_of_le Y6 Z12
     have N12:w12.cell? ⟨w6.heap.size,0,none⟩=some (.int .i64 xh):=by rw [e12]; simp [go_sem]
     have G12:=Nat.lt_of_lt_of_le G6 Z12
     clear e12
     refine hK.out _ _ ⟨uY.cell 1 rfl,uY.cell 2 rfl,Kq⟩ (fun hHeld=>?_)
     clear hK K
     refine fH 13 fun K hK=>?_
     rw [if_pos (by rfl)]
     refine wp_append_lies _ _ _ 22 rfl (w2.heap.size+1) 3 i0 (.int .i64 0) 1 8 Tryz.underlying22 HI.out HZ0.out HZ1.out HZ2.out rfl (by decide) (.slice a1 zs.length c1) zs.length (ints zs) rfl OZ ⟨w6.heap.size,0,none⟩ 1 1 [.int .i64 xh] rfl rfl (uF N12) one_cell (by decide) (by unfold maxLen; omega) (by omega) uY.lt w12.heap.size rfl ?_
     intro g13 c13 qO Kr pY Kt WV
     have sK:=uY.grown pY (uG (OZ) (by omega))
     have WW:=pY.cell Kq (oO OB1 (Nat.le_refl _))
     have WX:=Below.grown WU pY (Nat.le_of_lt uY.lt) (fun q hq=>Nat.le_trans (Nat.le_succ _) (OZ.lt q hq).1)
     have Z13:=pY.size
     have Y13:wr.heap.size<qO.heap.size:=Nat.lt_of_lt_of_le Y12 Z13
     have WY:=OY.kept pY (.inr NE6)
     have WZ:=Kr
     have W9:g6≠g13:=TF NE6 Kt G12
     clear Kr pY Kt WV
     refine hK.out _ _ ⟨sK.cell 1 rfl,sK.cell 2 rfl,WW⟩ (fun hHeld=>?_)
     clear hK K
     refine rP 16 fun K hK=>?_
     have d1:=sK.cell 1 rfl
     have BA:=sK.frozen 1
     go_simp
     refine aQ ?_
     intro w16 e16
     have CZ:Box w16 w2.heap.size [(.slice va R.start.length CY),.slice (some ⟨g6,0,none⟩) (zs.length+1) c6,(.slice a1 zs.length c1),.int .i64 0,.int .i64 0] 158:=by rw [e16]; exact sK.set 1 _
     have Xa:w16.ownsRow (w2.heap.size+1) 3 1 (.slice (some ⟨g6,0,none⟩) (zs.length+1) c6) (zs.length+1) (ints zs++[.int .i64 xh]):=by rw [e16]; exact ownsRow_setCell_below WY (by simp) _
     have Xb:w16.ownsRow (w2.heap.size+1) 3 1 (.slice (some ⟨g13,0,none⟩) (zs.length+1) c13) (zs.length+1) (ints zs++[.int .i64 xh]):=by rw [e16]; exact ownsRow_setCell_below WZ (by simp) _
     have Xc:Below w2.heap.size w2 w16:=by rw [e16]; exact WX.setCell (Nat.le_refl _) _
     clear e16 d1 BA
     refine hK.out _ _ ?_
     clear hK K
     refine aC 18 ?_
     refine rP 19 fun K hK=>?_
     have d1:=CZ.cell 2 rfl
     have BA:=CZ.frozen 2
     go_simp
     refine aQ ?_
     intro Ku e19
     have Kv:Box Ku w2.heap.size [(.slice va R.start.length CY),.slice (some ⟨g6,0,none⟩) (zs.length+1) c6,.slice (some ⟨g13,0,none⟩) (zs.length+1) c13,.int .i64 0,.int .i64 0] 158:=by rw [e19]; exact CZ.set 2 _
     have Kw:Ku.ownsRow (w2.heap.size+1) 3 1 (.slice (some ⟨g6,0,none⟩) (zs.length+1) c6) (zs.length+1) (ints zs++[.int .i64 xh]):=by rw [e19]; exact ownsRow_setCell_below Xa (by simp) _
     have Ky:Ku.ownsRow (w2.heap.size+1) 3 1 (.slice (some ⟨g13,0,none⟩) (zs.length+1) c13) (zs.length+1) (ints zs++[.int .i64 xh]):=by rw [e19]; exact ownsRow_setCell_below Xb (by simp) _
     have KA:Below w2.heap.size w2 Ku:=by rw [e19]; exact Xc.setCell (Nat.le_refl _) _
     clear e19 d1 BA
     refine hK.out _ _ ?_
     clear hK K
     refine jC ?_
     have HF:Hid (BInv w2.heap.size (.slice va R.start.length CY) (.slice (some ⟨g6,0,none⟩) (zs.length+1) c6) (.slice (some ⟨g13,0,none⟩) (zs.length+1) c13) (zs++[xh]) (zs++[xh]) w2 Ku):=hid ⟨Kv,by rw [jG,List.length_append]; exact Kw,by rw [jG,List.length_append]; exact Ky,.inr (by simp only [Value.ownBlock,ne_eq,Option.some.injEq]; exact W9),KA⟩
     clear Kv Kw Ky KA hHeld
     go_wp2_with fail
     go_roundw
     case rel=>exact ⟨k+1,_,_,by omega,by go_num,hid (by rw [HT.out]; exact HF.out)⟩
     case measure=>simp [intOf]; omega
    ·skip
     go_simp
     refine aQ ?_
     intro w12 e12
     have uY:Box w12 w2.heap.size [(.slice va R.start.length CY),(.slice a0 zs.length c0),(.slice a1 zs.length c1),.int .i64 0,.int .i64 0] 158:=by rw [e12]; exact TG.alloc _
     have Kq:w12.cell? ⟨wr.heap.size,1,none⟩=some (.int .i64 xh):=by rw [e12]; exact eG fx5 _
     have OY:w12.ownsRow (w2.heap.size+1) 3 1 (.slice a0 zs.length c0) zs.length (ints zs):=by rw [e12]; exact Ox5.alloc _
     have OZ:w12.ownsRow (w2.heap.size+1) 3 1 (.slice a1 zs.length c1) zs.length (ints zs):=by rw [e12]; exact Oy5.alloc _
     have WU:Below w2.heap.size w2 w12:=by rw [e12]; exact Lx5.alloc (Nat.le_of_lt TG.lt) _
     have Z12:w5.heap.size≤w12.heap.size:=by rw [e12]; simp
     have Y12:wr.heap.size<w12.heap.size:=Nat.lt_of_lt_of_le Y5 Z12
     have N12:w12.cell? ⟨w5.heap.size,0,none⟩=some (.int .i64 xh):=by rw [e12]; simp [go_sem]
     have ahr:w12.cell? ⟨wq.drew.heap.size,0,none⟩=some (.int .i64 xh):=by rw [e12]; exact eG N5 _
     clear e12
     refine hK.out _ _ ⟨uY.cell 1 rfl,uY.cell 2 rfl,Kq⟩ (fun hHeld=>?_)
     clear hK K
     refine fH 6 fun K hK=>?_
     rw [if_pos (by rfl)]
     refine wp_append_lies _ _ _ 22 rfl (w2.heap.size+1) 3 i0 (.int .i64 0) 1 8 Tryz.underlying22 HI.out HZ0.out HZ1.out HZ2.out rfl (by decide) (.slice a0 zs.length c0) zs.length (ints zs) rfl OY ⟨wq.drew.heap.size,0,none⟩ 1 1 [.int .i64 xh] rfl rfl (uF ahr) one_cell (by decide) (by unfold maxLen; omega) (by omega) uY.lt w12.heap.size rfl ?_
     intro g6 c6 w6 OX Bv hq6 hl6
     have Ol:=uY.grown Bv (uG (OY) (by omega))
     have fx6:=Bv.cell Kq (oO OB0 (Nat.le_refl _))
     have Lx6:=Below.grown WU Bv (Nat.le_of_lt uY.lt) (fun q hq=>Nat.le_trans (Nat.le_succ _) (OY.lt q hq).1)
     have Z6:=Bv.size
     have Y6:wr.heap.size<w6.heap.size:=Nat.lt_of_lt_of_le Y12 Z6
     have Xd:=Bv.cell N12 (oO OB0 (Nat.le_of_lt Y5))
     have Ox6:=OX
     have Oy6:=OZ.kept Bv (uH NE)
     have G6:=hl6
     have NE6:some g6≠Value.ownBlock (.slice a1 zs.length c1):=new_ne hq6 NE (fun b hb=>Nat.lt_of_lt_of_le (OB1 b hb) (Nat.le_of_lt Y12))
     clear OX Bv hq6 hl6
     refine hK.out _ _ ⟨Ol.cell 1 rfl,Ol.cell 2 rfl,fx6⟩ (fun hHeld=>?_)
     clear hK K
     refine aC 15 ?_
     refine fH 13 fun K hK=>?_
     rw [if_pos (by rfl)]
     refine wp_append_lies _ _ _ 22 rfl (w2.heap.size+1) 3 i0 (.int .i64 0) 1 8 Tryz.underlying22 HI.out HZ0.out HZ1.out HZ2.out rfl (by decide) (.slice a1 zs.length c1) zs.length (ints zs) rfl Oy6 ⟨w5.heap.size,0,none⟩ 1 1 [.int .i64 xh] rfl rfl (uF Xd) one_cell (by decide) (by unfold maxLen; omega) (by omega) Ol.lt w6.heap.size rfl ?_
     intro g13 c13 qO Kr pY Kt WV
     have sK:=Ol.grown pY (uG (Oy6) (by omega))
     have WW:=pY.cell fx6 (oO OB1 (Nat.le_refl _))
     have WX:=Below.grown Lx6 pY (Nat.le_of_lt Ol.lt) (fun q hq=>Nat.le_trans (Nat.le_succ _) (Oy6.lt q hq).1)
     have Z13:=pY.size
     have Y13:wr.heap.size<qO.heap.size:=Nat.lt_of_lt_of_le Y6 Z13
     have WY:=Ox6.kept pY (.inr NE6)
     have WZ:=Kr
     have W9:g6≠g13:=TF NE6 Kt G6
     clear Kr pY Kt WV
     refine hK.out _ _ ⟨sK.cell 1 rfl,sK.cell 2 rfl,WW⟩ (fun hHeld=>?_)
     clear hK K
     refine rP 16 fun K hK=>?_
     have d1:=sK.cell 1 rfl
     have BA:=sK.frozen 1
     go_simp
     refine aQ ?_
     intro w16 e16
     have CZ:Box w16 w2.heap.size [(.slice va R.start.length CY),.slice (some ⟨g6,0,none⟩) (zs.length+1) c6,(.slice a1 zs.length c1),.int .i64 0,.int .i64 0] 158:=by rw [e16]; exact sK.set 1 _
     have Xa:w16.ownsRow (w2.heap.size+1) 3 1 (.slice (some ⟨g6,0,none⟩) (zs.length+1) c6) (zs.length+1) (ints zs++[.int .i64 xh]):=by rw [e16]; exact ownsRow_setCell_below WY (by simp) _
     have Xb:w16.ownsRow (w2.heap.size+1) 3 1 (.slice (some ⟨g13,0,none⟩) (zs.length+1) c13) (zs.length+1) (ints zs++[.int .i64 xh]):=by rw [e16]; exact ownsRow_setCell_below WZ (by simp) _
     have Xc:Below w2.heap.size w2 w16:=by rw [e16]; exact WX.setCell (Nat.le_refl _) _
     clear e16 d1 BA
     refine hK.out _ _ ?_
     clear hK K
     refine aC 18 ?_
     refine rP 19 fun K hK=>?_
     have d1:=CZ.cell 2 rfl
     have BA:=CZ.frozen 2
     go_simp
     refine aQ ?_
     intro Ku e19
     have Kv:Box Ku w2.heap.size [(.slice va R.start.length CY),.slice (some ⟨g6,0,none⟩) (zs.length+1) c6,.slice (some ⟨g13,0,none⟩) (zs.length+1) c13,.int .i64 0,.int .i64 0] 158:=by rw [e19]; exact CZ.set 2 _
     have Kw:Ku.ownsRow (w2.heap.size+1) 3 1 (.slice (some ⟨g6,0,none⟩) (zs.length+1) c6) (zs.length+1) (ints zs++[.int .i64 xh]):=by rw [e19]; exact ownsRow_setCell_below Xa (by simp) _
     have Ky:Ku.ownsRow (w2.heap.size+1) 3 1 (.slice (some ⟨g13,0,none⟩) (zs.length+1) c13) (zs.length+1) (ints zs++[.int .i64 xh]):=by rw [e19]; exact ownsRow_setCell_below Xb (by simp) _
     have KA:Below w2.heap.size w2 Ku:=by rw [e19]; exact Xc.setCell (Nat.le_refl _) _
     clear e19 d1 BA
     refine hK.out _ _ ?_
     clear hK K
     refine jC ?_
     have HF:Hid (BInv w2.heap.size (.slice va R.start.length CY) (.slice (some ⟨g6,0,none⟩) (zs.length+1) c6) (.slice (some ⟨g13,0,none⟩) (zs.length+1) c13) (zs++[xh]) (zs++[xh]) w2 Ku):=hid ⟨Kv,by rw [jG,List.length_append]; exact Kw,by rw [jG,List.length_append]; exact Ky,.inr (by simp only [Value.ownBlock,ne_eq,Option.some.injEq]; exact W9),KA⟩
     clear Kv Kw Ky KA hHeld
     go_wp2_with fail
     go_roundw
     case rel=>exact ⟨k+1,_,_,by omega,by go_num,hid (by rw [HT.out]; exact HF.out)⟩
     case measure=>simp [intOf]; omega
   ·skip
    go_simp
    refine aQ ?_
    intro w12 e12
    have uY:Box w12 w2.heap.size [(.slice va R.start.length CY),(.slice a0 zs.length c0),(.slice a1 zs.length c1),.int .i64 0,.int .i64 0] 158:=by rw [e12]; exact Bx0.alloc _
    have Kq:w12.cell? ⟨wr.heap.size,1,none⟩=some (.int .i64 xh):=by rw [e12]; exact eG fx0 _
    have OY:w12.ownsRow (w2.heap.size+1) 3 1 (.slice a0 zs.length c0) zs.length (ints zs):=by rw [e12]; exact Ox0.alloc _
    have OZ:w12.ownsRow (w2.heap.size+1) 3 1 (.slice a1 zs.length c1) zs.length (ints zs):=by rw [e12]; exact Oy0.alloc _
    have WU:Below w2.heap.size w2 w12:=by rw [e12]; exact Lx0.alloc (Nat.le_of_lt Bx0.lt) _
    have Z12:wq.drew.heap.size≤w12.heap.size:=by rw [e12]; simp
    have Y12:wr.heap.size<w12.heap.size:=Nat.lt_of_lt_of_le Y0 Z12
    have N12:w12.cell? ⟨wq.drew.heap.size,0,none⟩=some (.int .i64 xh):=by rw [e12]; simp [go_sem]
    clear e12
    refine hK.out _ _ ⟨uY.cell 1 rfl,uY.cell 2 rfl,Kq⟩ (fun hHeld=>?_)
    clear hK K
    refine fH 5 fun K hK=>?_
    go_simp
    refine aQ ?_
    intro w5 e5
    have TG:Box w5 w2.heap.size [(.slice va R.start.length CY),(.slice a0 zs.length c0),(.slice a1 zs.length c1),.int .i64 0,.int .i64 0] 158:=by rw [e5]; exact uY.alloc _
    have fx5:w5.cell? ⟨wr.heap.size,1,none⟩=some (.int .i64 xh):=by rw [e5]; exact eG Kq _
    have Ox5:w5.ownsRow (w2.heap.size+1) 3 1 (.slice a0 zs.length c0) zs.length (ints zs):=by rw [e5]; exact OY.alloc _
    have Oy5:w5.ownsRow (w2.heap.size+1) 3 1 (.slice a1 zs.length c1) zs.length (ints zs):=by rw [e5]; exact OZ.alloc _
    have Lx5:Below w2.heap.size w2 w5:=by rw [e5]; exact WU.alloc (Nat.le_of_lt uY.lt) _
    have Z5:w12.heap.size≤w5.heap.size:=by rw [e5]; simp
    have Y5:wr.heap.size<w5.heap.size:=Nat.lt_of_lt_of_le Y12 Z5
    have N5:w5.cell? ⟨w12.heap.size,0,none⟩=some (.int .i64 xh):=by rw [e5]; simp [go_sem]
    have ahs:w5.cell? ⟨wq.drew.heap.size,0,none⟩=some (.int .i64 xh):=by rw [e5]; exact eG N12 _
    clear e5
    refine hK.out _ _ ⟨TG.cell 1 rfl,TG.cell 2 rfl,fx5⟩ (fun hHeld=>?_)
    clear hK K
    refine fH 6 fun K hK=>?_
    rw [if_pos (by rfl)]
    refine wp_append_lies _ _ _ 22 rfl (w2.heap.size+1) 3 i0 (.int .i64 0) 1 8 Tryz.underlying22 HI.out HZ0.out HZ1.out HZ2.out rfl (by decide) (.slice a0 zs.length c0) zs.length (ints zs) rfl Ox5 ⟨w12.heap.size,0,none⟩ 1 1 [.int .i64 xh] rfl rfl (uF N5) one_cell (by decide) (by unfold maxLen; omega) (by omega) TG.lt w5.heap.size rfl ?_
    intro g6 c6 w6 OX Bv hq6 hl6
    have Ol:=TG.grown Bv (uG (Ox5) (by omega))
    have fx6:=Bv.cell fx5 (oO OB0 (Nat.le_refl _))
    have Lx6:=Below.grown Lx5 Bv (Nat.le_of_lt TG.lt) (fun q hq=>Nat.le_trans (Nat.le_succ _) (Ox5.lt q hq).1)
    have Z6:=Bv.size
    have Y6:wr.heap.size<w6.heap.size:=Nat.lt_of_lt_of_le Y5 Z6
    have Xd:=Bv.cell ahs (oO OB0 (Nat.le_of_lt Y0))
    have Ox6:=OX
    have Oy6:=Oy5.kept Bv (uH NE)
    have G6:=hl6
    have NE6:some g6≠Value.ownBlock (.slice a1 zs.length c1):=new_ne hq6 NE (fun b hb=>Nat.lt_of_lt_of_le (OB1 b hb) (Nat.le_of_lt Y5))
    clear OX Bv hq6 hl6
    refine hK.out _ _ ⟨Ol.cell 1 rfl,Ol.cell 2 rfl,fx6⟩ (fun hHeld=>?_)
    clear hK K
    refine aC 15 ?_
    refine fH 13 fun K hK=>?_
    rw [if_pos (by rfl)]
    refine wp_append_lies _ _ _ 22 rfl (w2.heap.size+1) 3 i0 (.int .i64 0) 1 8 Tryz.underlying22 HI.out HZ0.out HZ1.out HZ2.out rfl (by decide) (.slice a1 zs.length c1) zs.length (ints zs) rfl Oy6 ⟨wq.drew.heap.size,0,none⟩ 1 1 [.int .i64 xh] rfl rfl (uF Xd) one_cell (by decide) (by unfold maxLen; omega) (by omega) Ol.lt w6.heap.size rfl ?_
    intro g13 c13 qO Kr pY Kt WV
    have sK:=Ol.grown pY (uG (Oy6) (by omega))
    have WW:=pY.cell fx6 (oO OB1 (Nat.le_refl _))
    have WX:=Below.grown Lx6 pY (Nat.le_of_lt Ol.lt) (fun q hq=>Nat.le_trans (Nat.le_succ _) (Oy6.lt q hq).1)
    have Z13:=pY.size
    have Y13:wr.heap.size<qO.heap.size:=Nat.lt_of_lt_of_le Y6 Z13
    have WY:=Ox6.kept pY (.inr NE6)
    have WZ:=Kr
    have W9:g6≠g13:=TF NE6 Kt G6
    clear Kr pY Kt WV
    refine hK.out _ _ ⟨sK.cell 1 rfl,sK.cell 2 rfl,WW⟩ (fun hHeld=>?_)
    clear hK K
    refine rP 16 fun K hK=>?_
    have d1:=sK.cell 1 rfl
    have BA:=sK.frozen 1
    go_simp
    refine aQ ?_
    intro w16 e16
    have CZ:Box w16 w2.heap.size [(.slice va R.start.length CY),.slice (some ⟨g6,0,none⟩) (zs.length+1) c6,(.slice a1 zs.length c1),.int .i64 0,.int .i64 0] 158:=by rw [e16]; exact sK.set 1 _
    have Xa:w16.ownsRow (w2.heap.size+1) 3 1 (.slice (some ⟨g6,0,none⟩) (zs.length+1) c6) (zs.length+1) (ints zs++[.int .i64 xh]):=by rw [e16]; exact ownsRow_setCell_below WY (by simp) _
    have Xb:w16.ownsRow (w2.heap.size+1) 3 1 (.slice (some ⟨g13,0,none⟩) (zs.length+1) c13) (zs.length+1) (ints zs++[.int .i64 xh]):=by rw [e16]; exact ownsRow_setCell_below WZ (by simp) _
    have Xc:Below w2.heap.size w2 w16:=by rw [e16]; exact WX.setCell (Nat.le_refl _) _
    clear e16 d1 BA
    refine hK.out _ _ ?_
    clear hK K
    refine aC 18 ?_
    refine rP 19 fun K hK=>?_
    have d1:=CZ.cell 2 rfl
    have BA:=CZ.frozen 2
    go_simp
    refine aQ ?_
    intro Ku e19
    have Kv:Box Ku w2.heap.size [(.slice va R.start.length CY),.slice (some ⟨g6,0,none⟩) (zs.length+1) c6,.slice (some ⟨g13,0,none⟩) (zs.length+1) c13,.int .i64 0,.int .i64 0] 158:=by rw [e19]; exact CZ.set 2 _
    have Kw:Ku.ownsRow (w2.heap.size+1) 3 1 (.slice (some ⟨g6,0,none⟩) (zs.length+1) c6) (zs.length+1) (ints zs++[.int .i64 xh]):=by rw [e19]; exact ownsRow_setCell_below Xa (by simp) _
    have Ky:Ku.ownsRow (w2.heap.size+1) 3 1 (.slice (some ⟨g13,0,none⟩) (zs.length+1) c13) (zs.length+1) (ints zs++[.int .i64 xh]):=by rw [e19]; exact ownsRow_setCell_below Xb (by simp) _
    have KA:Below w2.heap.size w2 Ku:=by rw [e19]; exact Xc.setCell (Nat.le_refl _) _
    clear e19 d1 BA
    refine hK.out _ _ ?_
    clear hK K
    refine jC ?_
    have HF:Hid (BInv w2.heap.size (.slice va R.start.length CY) (.slice (some ⟨g6,0,none⟩) (zs.length+1) c6) (.slice (some ⟨g13,0,none⟩) (zs.length+1) c13) (zs++[xh]) (zs++[xh]) w2 Ku):=hid ⟨Kv,by rw [jG,List.length_append]; exact Kw,by rw [jG,List.length_append]; exact Ky,.inr (by simp only [Value.ownBlock,ne_eq,Option.some.injEq]; exact W9),KA⟩
    clear Kv Kw Ky KA hHeld
    go_wp2_with fail
    go_roundw
    case rel=>exact ⟨k+1,_,_,by omega,by go_num,hid (by rw [HT.out]; exact HF.out)⟩
    case measure=>simp [intOf]; omega
  ·obtain rfl:k=R.pieces.length:=by omega
   have hTk:(R.pieces.map (·.hand)).take R.pieces.length=R.pieces.map (·.hand):=by rw [List.take_of_length_le]; simp
   have hinv:=HI0.out
   rw [hTk] at hinv
   obtain ⟨hBp,hO0,hO1,-,hL⟩:=hinv
   obtain ⟨a0,c0,rfl⟩:=aG hO0
   obtain ⟨a1,c1,rfl⟩:=aG hO1
   have aht:=hid (g1b.below hL z1b)
   have kF:=hid hBp
   have HP:Hid (sH wr (aF R) (.slice va R.start.length CY) (.slice a0 (R.pieces.map (·.hand)).length c0) (.slice a1 (R.pieces.map (·.hand)).length c1)):=hid ⟨HVc.out.below hL (Nat.le_refl _),fQ.dB hO0,fQ.dB hO1⟩
   have HBL:Hid (Below w.heap.size w wr):=hid (HB2.out.trans (hL.mono HB2.out.size))
   have Xe:=hid hL
   have HO0:=hid hO0
   have VY:=hid hO1
   clear hBp hO0 hO1 hL hTk HI0 g1b hbel
   go_upto_region 10 with (fail)
   refine wp_region_lit ?_
   refine aH (by rfl) 158 (.tmp 5) (by rfl) w2.heap.size (by rfl) kF.out Tryz.underlying158 (by rfl) (by kernel_rfl) ?_
   refine aT (vs:=[.slice va R.start.length CY,.slice a0 (R.pieces.map (·.hand)).length c0,.slice a1 (R.pieces.map (·.hand)).length c1,.int .i64 0,.int .i64 0]) (by rfl) 158 (.tmp 2) (.tmp 44) (by rfl) (w.heap.size+1) (by rfl) (by rfl) aht.out rfl (by kernel_rfl) (by rfl) ?_
   have H9:=hid (aht.out.store (vs:=[.slice va R.start.length CY,.slice a0 (R.pieces.map (·.hand)).length c0,.slice a1 (R.pieces.map (·.hand)).length c1,.int .i64 0,.int .i64 0]) rfl)
   have HP9:Hid (OwnB w.heap.size (wr.setCells (w.heap.size+1) 0 [.slice va R.start.length CY,.slice a0 (R.pieces.map (·.hand)).length c0,.slice a1 (R.pieces.map (·.hand)).length c1,.int .i64 0,.int .i64 0]) (aF R) (.slice va R.start.length CY) (.slice a0 (R.pieces.map (·.hand)).length c0) (.slice a1 (R.pieces.map (·.hand)).length c1)):=
    hid ⟨own_base (aN (aS HVo.out Xe.out) z1a 0 _) (by omega),own_base (aN HO0.out (by omega) 0 _) (by omega),own_base (aN VY.out (by omega) 0 _) (by omega)⟩
   have KC:=hid (below_setCells HBL.out (Nat.le_succ w.heap.size) 0 [.slice va R.start.length CY,.slice a0 (R.pieces.map (·.hand)).length c0,.slice a1 (R.pieces.map (·.hand)).length c1,.int .i64 0,.int .i64 0])
   generalize (wr.setCells (w.heap.size+1) 0 [.slice va R.start.length CY,.slice a0 (R.pieces.map (·.hand)).length c0,.slice a1 (R.pieces.map (·.hand)).length c1,.int .i64 0,.int .i64 0])=w9 at *
   go_wp2_with fail
   exact bodyPost_ret (kE rfl (by rfl) (by rfl) H9.out Tryz.underlying158 (by rfl) (by kernel_rfl)) rfl (.inr ⟨HZ.out,_,_,_,rfl,HP9.out,KC.out⟩)
end Go.Proofs.YteablcielclaeaaGreatDoor
