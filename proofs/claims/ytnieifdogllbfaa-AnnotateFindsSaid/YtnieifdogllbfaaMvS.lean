/- slices.SortFunc at the moves: the kit's contract, at a slice that the call owns. -/
import Derived.Test.YtnieifdogllbfaaMvL
import Derived.Test.YtnieifdogllbfaaSortMv
import Derived.Sort.OwnSortedInts
namespace Go.Proofs.Ytnieifdogllbfaa
open Go.ChangeShapes Go.WideShapes Go.ChangeAt Go.RowKit Go.Shelf
set_option linter.unusedVariables false

/-! ### the order -/
theorem ordM_lt (a b : MoveZ) : ordM a b < 0 ↔ a.src < b.src ∨ (a.src = b.src ∧ (a.dst < b.dst ∨ (a.dst = b.dst ∧ a.piece < b.piece))) := by
  obtain ⟨a1, a2, a3⟩ := a
  obtain ⟨b1, b2, b3⟩ := b
  unfold ordM cmpZ
  simp only [orZ]
  by_cases h1 : a1 < b1 <;> by_cases h2 : b1 < a1 <;> by_cases h3 : a2 < b2 <;> by_cases h4 : b2 < a2 <;> by_cases h5 : a3 < b3 <;> by_cases h6 : b3 < a3 <;> simp [h1, h2, h3, h4, h5, h6] <;> omega
theorem ordM_swo : Sort.SWO (ltOf ordM) where
  irrefl x := by unfold ltOf; simp only [decide_eq_false_iff_not, ordM_lt]; omega
  trans x y z h1 h2 := by unfold ltOf at *; simp only [decide_eq_true_eq, ordM_lt] at *; omega
  ntrans x y z h1 h2 := by unfold ltOf at *; simp only [decide_eq_false_iff_not, ordM_lt] at *; omega
theorem ordM_total (x y : MoveZ) (h1 : ltOf ordM x y = false) (h2 : ltOf ordM y x = false) : x = y := by
  unfold ltOf at *
  simp only [decide_eq_false_iff_not, ordM_lt] at h1 h2
  obtain ⟨a1, a2, a3⟩ := x
  obtain ⟨b1, b2, b3⟩ := y
  simp only [MoveZ.mk.injEq] at *
  omega

/-! ### the row -/
def encMv (m : MoveZ) : List Value := [.int .i64 m.src, .int .i64 m.dst, .int .i64 m.piece]
theorem flatK_mv (xs : List MoveZ) : Sort.flatK encMv 3 xs.toArray = (flatM xs).toArray := by
  apply Array.ext
  · simp [flatM_len]
  · intro t h1 h2
    have ht : t < xs.length * 3 := by simpa using h1
    obtain ⟨q, r, hr, rfl⟩ : ∃ q r, r < 3 ∧ t = q * 3 + r := ⟨t / 3, t % 3, Nat.mod_lt _ (by decide), by omega⟩
    have hq : q < xs.length := by omega
    have e1 : (q * 3 + r) / 3 = q := by omega
    have e2 : (q * 3 + r) % 3 = r := by omega
    have hg : xs.toArray[q]! = xs.getD q default := by
      rw [getElem!_pos _ q (by simpa using hq), List.getD_eq_getElem?_getD, List.getElem?_eq_getElem hq]; simp
    have hf := flatM_at xs q hq
    have hL : (Sort.flatK encMv 3 xs.toArray)[q * 3 + r]! = (flatM xs).toArray[q * 3 + r]! := by
      rw [Sort.get_flatK _ _ _ _ (by simpa using ht), e1, e2, hg]
      have h3 : r = 0 ∨ r = 1 ∨ r = 2 := by omega
      rcases h3 with rfl | rfl | rfl
      · have := hf.1; simp only [Nat.add_zero, List.getElem!_toArray]; rw [List.getElem!_eq_getElem?_getD, List.getElem!_eq_getElem?_getD, this]; rfl
      · have := hf.2.1; simp only [List.getElem!_toArray]; rw [List.getElem!_eq_getElem?_getD, List.getElem!_eq_getElem?_getD, this]; rfl
      · have := hf.2.2; simp only [List.getElem!_toArray]; rw [List.getElem!_eq_getElem?_getD, List.getElem!_eq_getElem?_getD, this]; rfl
    rw [getElem!_pos (Sort.flatK encMv 3 xs.toArray) _ h1, getElem!_pos (flatM xs).toArray _ h2] at hL
    exact hL
theorem holds_of_cells {w : World} {g : Nat} {cur : Array Value} {e : TypeId} {vs : List Value} (hb : w.heap[g]? = some (.cells cur e (0, 0))) (ht : cur.toList.take vs.length = vs) : Sort.Holds id w g 0 vs.toArray := by
  intro j hj
  have hj' : j < vs.length := by simpa using hj
  refine ⟨?_, by simp [World.frozen?, hb]⟩
  have h1 : (cur.toList.take vs.length)[j]? = vs[j]? := by rw [ht]
  rw [List.getElem?_take_of_lt hj'] at h1
  simp only [World.cell?, hb, Nat.zero_add]
  simp only [Option.isSome_none, Bool.false_eq_true, if_false]
  rw [← Array.getElem?_toList, h1]
  simp [hj']
theorem heap_put {w : World} {g n : Nat} {os : Array Obj} {cur : Array Value} {e : TypeId} {fr : Nat × Nat} (d : Array Value) (hb : w.heap[g]? = some (.cells cur e fr)) :
    (Sort.grow (Sort.putRow id (Sort.ahead w n) g 0 d) os).heap[g]? = some (.cells (Sort.putCells id 0 d cur) e fr) := by
  have hg : g < w.heap.size := (Array.getElem?_eq_some_iff.1 hb).1
  rw [Sort.heap_grow_old _ _ (by simpa using hg)]
  simp [Sort.putRow, Sort.mapBlock, Sort.ahead, Array.getElem?_modify, hb, Sort.onCells]
theorem grown_put {w : World} {g n : Nat} {os : Array Obj} (d : Array Value) : w.grownBy (Sort.grow (Sort.putRow id (Sort.ahead w n) g 0 d) os) (some g) := by
  refine ⟨rfl, rfl, rfl, by simp, fun k hk hne => ?_⟩
  rw [Sort.heap_grow_old _ _ (by simpa using hk)]
  have : g ≠ k := fun e => hne (by rw [e])
  simp [Sort.putRow, Sort.mapBlock, Sort.ahead, Array.getElem?_modify, this]
theorem take_put' (cur : Array Value) (ts : List Value) (h : ts.length ≤ cur.size) : (Sort.putCells id 0 ts.toArray cur).toList.take ts.length = ts := by
  apply List.ext_getElem?
  intro j
  by_cases hj : j < ts.length
  · rw [List.getElem?_take_of_lt hj, Array.getElem?_toList]
    simp [Sort.putCells, hj, show j < cur.size by omega]
  · rw [List.getElem?_take_eq_none (by omega), List.getElem?_eq_none (by omega)]
theorem sortMv_holds : SortMvSaid := by
  intro base v xs w h hl
  rcases h.2 with ⟨rfl, hz⟩ | ⟨g, cap, cur, rfl, hg, hb, hn, hm, hs, ht⟩
  · obtain rfl : xs = [] := List.length_eq_zero_iff.1 hz
    refine (Try.sortNone none 0 _ w).mono ?_
    rintro e w' ⟨rfl, rfl⟩
    exact ⟨rfl, by simpa [sortZ] using h, ⟨rfl, rfl, rfl, Nat.le_refl _, fun _ _ _ => rfl⟩⟩
  · have hlt : g < w.heap.size := (Array.getElem?_eq_some_iff.1 hb).1
    have hH : Sort.HoldsK encMv 3 w g 0 xs.toArray := by
      unfold Sort.HoldsK
      rw [flatK_mv]
      exact holds_of_cells hb (by rw [flatM_len]; exact ht)
    have hc := Try.sortMoves Try.isAgg57 Try.sizeOf57 encMv (fun _ => rfl) (fun x v hv => by simp [encMv] at hv; rcases hv with rfl | rfl | rfl <;> rfl) ordM ordM_swo 61 #[] g 0 cap xs.toArray w
      (enters_of Try.func61 (by kernel_rfl) rfl) (fun _ _ _ _ x y => ord_any x y _) hH hlt (by simp; omega) ordM_total
    simp only [List.size_toArray] at hc
    refine hc.mono ?_
    rintro e w' ⟨rfl, n, os, rfl⟩
    have hsl : (sortZ xs).length = xs.length := List.length_mergeSort _
    refine ⟨rfl, ?_, ?_⟩
    · show (Sort.grow (Sort.putRow id (Sort.ahead w n) g 0 (Sort.flatK encMv 3 (sortZ xs).toArray)) os).ownsRow base 57 3 _ _ _
      rw [flatK_mv]
      refine ⟨by rw [flatM_len, hsl], .inr ⟨g, cap, _, rfl, hg, heap_put _ hb, hn, hm, by simp [Sort.putCells, hs], ?_⟩⟩
      have h3 := take_put' cur (flatM (sortZ xs)) (by rw [flatM_len, hsl, hs]; omega)
      rw [flatM_len, hsl] at h3
      exact h3
    · exact grown_put _
end Go.Proofs.Ytnieifdogllbfaa
