/- IntsClone, Box. -/
import Derived.Test.YthklhndcdijneaaGreatDoorC01
import Derived.Below
import Derived.OneCell
import Derived.Deep.MidRow
import Derived.Laws.AppendOwn
import Derived.Deep.QuietTactic
namespace Go.Proofs.YthklhndcdijneaaGreatDoor
open Go.ChangeShapes Go.WideShapes Go.ChangeAt Go.RowKit
set_option linter.unusedVariables false
/-! ### slices.Clone -/
def ClonePost (zs : List Int) (w : World) (e : Ending) (w' : World) : Prop := ∃ v', e = .returned v' ∧ w'.ownsRow w.heap.size 3 1 v' zs.length (ints zs) ∧ Below w.heap.size w w'
theorem Clone_any (v : Value) (zs : List Int) (w : World) (h : RdI w v zs) (hl : zs.length ≤ 1000000) :
  Calls Tryz.prog 43 #[v] w (ClonePost zs w) := by
 obtain ⟨i0, hi, hz0, hz1, hz2⟩ := info_parts info3
 have hform : (∃ c, v = .slice none 0 c ∧ zs = []) ∨ ∃ (ad : Addr) (c : Nat), v = .slice (some ad) zs.length c ∧ zs.length ≤ c ∧ c ≤ maxLen ∧
   ∀ j u, (ints zs)[j]? = some u → (w.alloc (.cells #[] 3)).cell? (ad.add j) = some u := by
  rcases h.2 with ⟨⟨a, c, rfl, hm⟩, hz⟩ | ⟨g, o, c, rfl, h1, h2, hc⟩
  ·obtain rfl : zs = [] := List.length_eq_zero_iff.1 hz
   cases a with
   | none => exact .inl ⟨c, rfl, rfl⟩
   | some ad => exact .inr ⟨ad, c, rfl, by simp, hm, fun j u hu => by simp [ints] at hu⟩
  ·refine .inr ⟨⟨g, o, none⟩, c, rfl, h1, h2, fun j u hu => ?_⟩
   have hj : j < zs.length := by
    have := (List.getElem?_eq_some_iff.1 hu).1
    rwa [ints_len] at this
   have hcell := hc j (by omega)
   rw [hu] at hcell
   have hlt := World.block_lt_of_cell? w _ hcell
   have e : (⟨g, o, none⟩ : Addr).add j = ⟨g, o + j, none⟩ := by unfold Addr.add; split <;> simp_all
   rw [e, World.cell?_of_block (w := w) (a := ⟨g, o + j, none⟩) (Below.heap_alloc w _ g hlt)]
   exact hcell
 rcases hform with ⟨c, rfl, rfl⟩ | ⟨ad, c, rfl, h1, h2, hnews⟩
 ·have hq := fun (w : World) (a : Option Addr) (n c : Nat) => Lib.run_eql_slice_nil (P := Tryz.prog) w 23 3 a n c 0 0 Tryz.underlying23
  clear h hl
  go_enter Tryz.func43, Tryz.ntmps43
  go_wp2
  go_ret
  exact ⟨_, rfl, World.ownsRow_nil _ _ _ _, Below.refl _ _⟩
 ·have hq := fun (w : World) (a : Option Addr) (n c : Nat) => Lib.run_eql_slice_nil (P := Tryz.prog) w 23 3 a n c 0 0 Tryz.underlying23
  have hown0 : (w.alloc (.cells #[] 3)).ownsRow w.heap.size 3 1 (.slice (some ⟨w.heap.size, 0, none⟩) 0 0) 0 [] := World.ownsRow_made w #[] 0 (Nat.le_refl _) (by unfold maxLen; omega) rfl
  have Hown0 := Lib.hid hown0
  have Hnews := Lib.hid hnews
  have Hil := Lib.hid (show (ints zs).length = zs.length * 1 by rw [ints_len]; omega)
  clear hown0 hnews h
  go_enter Tryz.func43, Tryz.ntmps43
  go_wp2_with (at_builtin; refine wpList_append_own _ rfl _ _ 23 rfl w.heap.size 3 i0 (.int .i64 0) 1 8 Tryz.underlying23 hi hz0 hz1 hz2 rfl (by decide) _ 0 [] rfl Hown0.out ad zs.length c (ints zs) rfl Hil.out Hnews.out (ints_cell1 zs) ?c3 ?c4 ?c5 ?_)
  case c3 => unfold maxLen; omega
  case c4 => omega
  case c5 => simp
  intro v' w2 hown' hgrow _
  try simp only [Nat.zero_add, List.nil_append] at hown'
  have hb : Below w.heap.size w w2 := Below.grown ((Below.refl _ w).alloc (Nat.le_refl _) _) hgrow (by simp) (fun q hq => by simp [Value.ownBlock] at hq; omega)
  have HO := Lib.hid hown'
  clear hown' hgrow
  go_wp2
  go_ret
  exact ⟨v', rfl, HO.out, hb⟩
end Go.Proofs.YthklhndcdijneaaGreatDoor
namespace Go.Proofs.YthklhndcdijneaaGreatDoor
open Go.RowKit
set_option linter.unusedVariables false
/-- block b holds the cells cs of a variable of type t. -/
def Box (w : World) (b : Nat) (cs : List Value) (t : TypeId) : Prop := w.heap[b]? = some (.cells cs.toArray t (0, 0))
theorem Box.lt {w : World} {b : Nat} {cs : List Value} {t : TypeId} (h : Box w b cs t) : b < w.heap.size := by
 unfold Box at h
 by_cases hh : b < w.heap.size
 ·exact hh
 ·rw [Array.getElem?_eq_none (by omega)] at h
  cases h
theorem Box.below {w w' : World} {B b : Nat} {cs : List Value} {t : TypeId} (h : Box w b cs t) (hb : Below B w w') (hB : b < B) : Box w' b cs t := (hb.block b hB).trans h
theorem Box.stays {w w' : World} {b : Nat} {cs : List Value} {t : TypeId} (h : Box w b cs t) (hb : Below w.heap.size w w') : Box w' b cs t := h.below hb h.lt
theorem Box.drewN {w : World} {b : Nat} {cs : List Value} {t : TypeId} (h : Box w b cs t) (n : Nat) : Box (w.drewN n) b cs t := h
theorem Box.drew {w : World} {b : Nat} {cs : List Value} {t : TypeId} (h : Box w b cs t) : Box w.drew b cs t := h
theorem Box.alloc {w : World} {b : Nat} {cs : List Value} {t : TypeId} (h : Box w b cs t) (o : Obj) : Box (w.alloc o) b cs t := (Below.heap_alloc w o b h.lt).trans h
theorem Box.new (w : World) (cs : List Value) (t : TypeId) : Box (w.alloc (.cells cs.toArray t)) w.heap.size cs t := heap_alloc_new w _
theorem Box.cell {w : World} {b : Nat} {cs : List Value} {t : TypeId} (h : Box w b cs t) (j : Nat) {v : Value} (hj : cs[j]? = some v) : w.cell? ⟨b, j, none⟩ = some v := by
 unfold Box at h
 simp only [World.cell?, h]
 simpa using hj
theorem Box.frozen {w : World} {b : Nat} {cs : List Value} {t : TypeId} (h : Box w b cs t) (j : Nat) : w.frozen? ⟨b, j, none⟩ = false := by
 unfold Box at h
 simp [World.frozen?, h]
theorem Box.set {w : World} {b : Nat} {cs : List Value} {t : TypeId} (h : Box w b cs t) (j : Nat) (u : Value) : Box (w.setCell ⟨b, j, none⟩ u) b (cs.set j u) t := by
 have hlt := h.lt
 unfold Box at *
 have h' : w.heap[b] = .cells cs.toArray t (0, 0) := by simpa [Array.getElem?_eq_getElem hlt] using h
 show (w.heap.modify b _)[b]? = _
 rw [Array.getElem?_eq_getElem (by simpa using hlt), Array.getElem_modify_self, h']
 simp
theorem Box.far {w : World} {b : Nat} {cs : List Value} {t : TypeId} (h : Box w b cs t) (p : Addr) (u : Value) (hne : b ≠ p.block) : Box (w.setCell p u) b cs t := (Below.heap_setCell w p u b hne).trans h
theorem Box.grown {w w' : World} {b : Nat} {cs : List Value} {t : TypeId} {row : Option Nat} (h : Box w b cs t) (hg : w.grownBy w' row) (hne : some b ≠ row) : Box w' b cs t := (hg.block b h.lt hne).trans h
theorem Box.range {w : World} {b : Nat} {cs : List Value} {t : TypeId} (h : Box w b cs t) : w.rangeAt b 0 cs := fun j v hj => by rw [Nat.zero_add]; exact h.cell j hj
theorem Box.there {w : World} {b n : Nat} {cs : List Value} {t : TypeId} (h : Box w b cs t) (hn : cs.length = n) : w.there b 0 n := fun j hj => by
 rw [Nat.zero_add]
 exact ⟨by rw [h.cell j (List.getElem?_eq_getElem (by omega))]; rfl, h.frozen j⟩
theorem heap_setCells (b : Nat) : ∀ (vs : List Value) (o : Nat) (w : World) (k : Nat), k ≠ b → (w.setCells b o vs).heap[k]? = w.heap[k]?
 | [], _, _, _, _ => rfl
 | v :: t, o, w, k, hk => by
  rw [World.setCells, heap_setCells b t (o + 1) _ k hk]
  exact Below.heap_setCell w _ v k hk
theorem size_setCells (b : Nat) : ∀ (vs : List Value) (o : Nat) (w : World), (w.setCells b o vs).heap.size = w.heap.size
 | [], _, _ => rfl
 | v :: t, o, w => by rw [World.setCells, size_setCells b t (o + 1) _]; simp [World.setCell]
theorem rest_setCells (b : Nat) : ∀ (vs : List Value) (o : Nat) (w : World), (w.setCells b o vs).os = w.os ∧ (w.setCells b o vs).tape = w.tape ∧ (w.setCells b o vs).output = w.output
 | [], _, _ => ⟨rfl, rfl, rfl⟩
 | v :: t, o, w => by rw [World.setCells]; exact rest_setCells b t (o + 1) _
theorem below_setCells {B b : Nat} {a w : World} (h : Below B a w) (hb : B ≤ b) (o : Nat) (vs : List Value) : Below B a (w.setCells b o vs) :=
 h.trans ⟨(rest_setCells b vs o w).1, (rest_setCells b vs o w).2.1, (rest_setCells b vs o w).2.2, by rw [size_setCells]; exact Nat.le_refl _, fun k hk => heap_setCells b vs o w k (by omega)⟩
theorem own_setCells {w : World} {base b : Nat} {e : TypeId} {sz n : Nat} {v : Value} {xs : List Value} (h : w.ownsRow base e sz v n xs) (hb : b < base) (o : Nat) (vs : List Value) : (w.setCells b o vs).ownsRow base e sz v n xs :=
 h.kept (row := some b) ⟨(rest_setCells b vs o w).1, (rest_setCells b vs o w).2.1, (rest_setCells b vs o w).2.2, by rw [size_setCells]; exact Nat.le_refl _, fun k _ hk => heap_setCells b vs o w k (fun e => hk (by rw [e]))⟩
  (by cases hv : v.ownBlock with
    | none => exact .inl rfl
    | some k => exact .inr (by have := (h.lt k hv).1; simp; omega))
theorem Box.farAll {w : World} {b b' : Nat} {cs : List Value} {t : TypeId} (h : Box w b cs t) (hne : b ≠ b') (o : Nat) (vs : List Value) : Box (w.setCells b' o vs) b cs t := (heap_setCells b' vs o w b hne).trans h
theorem setCells_box (b : Nat) : ∀ (vs pre : List Value) (cs : List Value) (w : World) (t : TypeId), cs.length = vs.length → Box w b (pre ++ cs) t → Box (w.setCells b pre.length vs) b (pre ++ vs) t
 | [], pre, cs, w, t, hl, h => by
  obtain rfl : cs = [] := List.length_eq_zero_iff.1 (by simpa using hl)
  exact h
 | v :: vs, pre, [], w, t, hl, h => by simp at hl
 | v :: vs, pre, c :: cs, w, t, hl, h => by
  rw [World.setCells]
  have h1 := h.set pre.length v
  rw [List.set_append_right _ _ (Nat.le_refl _), Nat.sub_self, List.set_cons_zero] at h1
  have := setCells_box b vs (pre ++ [v]) cs _ t (by simpa using hl) (by simpa using h1)
  rw [List.length_append] at this
  simpa using this
/-- the whole variable is stored anew. -/
theorem Box.store {w : World} {b : Nat} {cs vs : List Value} {t : TypeId} (h : Box w b cs t) (hl : cs.length = vs.length) : Box (w.setCells b 0 vs) b vs t := by
 have := setCells_box b vs [] cs w t hl h
 simpa using this
section
variable {P : Program} {ops : Array Oper} {rest : List Oper} {op : Oper} {a : Act} {w : World} {Q : Exit → Act → World → Prop}
theorem wpList_load_box (hgd : op.guard = none) (ty : TypeId) (x : Operand) (ho : op.op = .load ty x) (b : Nat) (hx : a.eval x = .pointer (some ⟨b, 0, none⟩)) {cs : List Value} {t : TypeId} (hc : Box w b cs t)
  {d : TypeDesc} (hu : P.underlying ty = some d) (hd : d.isRow = true) (hi : (P.info? ty).map (·.size) = some cs.length)
  (h : wpList P ops Q rest (a.put op.dst (.agg cs.toArray)) w) : wpList P ops Q (op :: rest) a w :=
 wpList_load_mid hgd ty x ho b 0 hx cs d hc.range hu hd hi h
theorem wpList_store_box (hgd : op.guard = none) (ty : TypeId) (x y : Operand) (ho : op.op = .store ty x y) (b : Nat) {vs cs : List Value} {t : TypeId} (hx : a.eval x = .pointer (some ⟨b, 0, none⟩)) (hy : a.eval y = .agg vs.toArray)
  (hc : Box w b cs t) (hl : cs.length = vs.length) (hi : (P.info? ty).map (·.size) = some vs.length) (h1 : vs.all (·.oneCell') = true)
  (h : wpList P ops Q rest (a.put op.dst undef) (w.setCells b 0 vs)) : wpList P ops Q (op :: rest) a w :=
 wpList_store_mid hgd ty x y ho b 0 vs.toArray hx hy (by simpa using hc.there hl) (by simpa using hi) (by simpa using h1) (by simpa using h)
end
theorem K_world {K : Act → World → Prop} {A : Act} {W : World} (h : ∀ w', w' = W → K A w') : K A W := h _ rfl
theorem cell_alloc {w : World} {p : Addr} {v : Value} (h : w.cell? p = some v) (o : Obj) : (w.alloc o).cell? p = some v := by
 rw [World.cell?_alloc_lt _ _ _ (World.block_lt_of_cell? w p h)]; exact h
/-- results that are one variable and one slot. -/
theorem results_box {P : Program} {fn : Func} {tmps : Array Value} {a s : Nat} {t t' : TypeId} {w : World} {b : Nat} {cs : List Value} {v : Value} {d : TypeDesc} (hr : fn.results = #[.cell a t, .tmp s])
  (ha : tmps.getD a undef = .pointer (some ⟨b, 0, none⟩)) (hs : tmps.getD s undef = v) (hc : Box w b cs t') (hu : P.underlying t = some d) (hd : d.isRow = true) (hi : (P.info? t).map (·.size) = some cs.length) :
  (results fn tmps).run P w = .ok (.tuple #[.agg cs.toArray, v]) w := by
 have hl := run_loadVar_mid (P := P) w b 0 t cs d hc.range hu hd hi
 have ha' : tmps[a]?.getD undef = .pointer (some ⟨b, 0, none⟩) := by simpa using ha
 have hs' : tmps[s]?.getD undef = v := by simpa using hs
 unfold results
 rw [hr]
 simp [asAddr, ha', hs', hl]
/-- a result that is one variable. -/
theorem results_one {P : Program} {fn : Func} {tmps : Array Value} {a : Nat} {t t' : TypeId} {w : World} {b : Nat} {cs : List Value} {d : TypeDesc} (hr : fn.results = #[.cell a t])
  (ha : tmps.getD a undef = .pointer (some ⟨b, 0, none⟩)) (hc : Box w b cs t') (hu : P.underlying t = some d) (hd : d.isRow = true) (hi : (P.info? t).map (·.size) = some cs.length) :
  (results fn tmps).run P w = .ok (.agg cs.toArray) w := by
 have hl := run_loadVar_mid (P := P) w b 0 t cs d hc.range hu hd hi
 have ha' : tmps[a]?.getD undef = .pointer (some ⟨b, 0, none⟩) := by simpa using ha
 unfold results
 rw [hr]
 simp [asAddr, ha', hl]
end Go.Proofs.YthklhndcdijneaaGreatDoor
