/- The rows of a table: their order as a weak order; a row of rows that the call owns. -/
import Derived.Test.YtjgnjahnfglbaaaStD
namespace Go.Proofs.Ytjgnjahnfglbaaa
open Go.ChangeShapes Go.WideShapes Go.ChangeAt Go.RowKit Go.Shelf
set_option linter.unusedVariables false

/-! ### the order -/
theorem cmpZ_lt (a b : Int) : cmpZ a b < 0 ↔ a < b := by unfold cmpZ; split; · simp [*]
                                                         · split <;> simp <;> omega
theorem cmpZ_eq (a b : Int) : cmpZ a b = 0 ↔ a = b := by unfold cmpZ; split; · simp; omega
                                                         · split <;> simp <;> omega
theorem orZ_lt (a b c : Int) : orZ [cmpZ a b, c] < 0 ↔ a < b ∨ (a = b ∧ c < 0) := by
  unfold orZ orZ orZ
  have h1 := cmpZ_lt a b
  have h2 := cmpZ_eq a b
  split
  · split <;> omega
  · omega
theorem orZ_zero (a b c : Int) : orZ [cmpZ a b, c] = 0 ↔ a = b ∧ c = 0 := by
  unfold orZ orZ orZ
  have h2 := cmpZ_eq a b
  split
  · split <;> omega
  · omega
theorem cmpL_lt (a b : Int) (s t : List Int) : cmpL (a :: s) (b :: t) < 0 ↔ a < b ∨ (a = b ∧ cmpL s t < 0) := by
  rw [cmpL]
  have h1 := cmpZ_lt a b
  have h2 := cmpZ_eq a b
  split <;> omega
theorem cmpL_zero (a b : Int) (s t : List Int) : cmpL (a :: s) (b :: t) = 0 ↔ a = b ∧ cmpL s t = 0 := by
  rw [cmpL]
  have h2 := cmpZ_eq a b
  split <;> omega
theorem cmpL_nil : cmpL [] [] = 0 := by rw [cmpL]; intro a s b t h; cases h
theorem cfR_lt (x y : RowZ) : cfR x y < 0 ↔ y.pts < x.pts ∨ (y.pts = x.pts ∧ (y.b0 < x.b0 ∨ (y.b0 = x.b0 ∧ (y.b1 < x.b1 ∨ (y.b1 = x.b1 ∧ (y.b2 < x.b2 ∨ (y.b2 = x.b2 ∧ y.b3 < x.b3))))))) := by
  unfold cfR
  rw [orZ_lt, cmpL_lt, cmpL_lt, cmpL_lt, cmpL_lt, cmpL_nil]
  omega
theorem cfR_zero (x y : RowZ) : cfR x y = 0 ↔ y.pts = x.pts ∧ y.b0 = x.b0 ∧ y.b1 = x.b1 ∧ y.b2 = x.b2 ∧ y.b3 = x.b3 := by
  unfold cfR
  rw [orZ_zero, cmpL_zero, cmpL_zero, cmpL_zero, cmpL_zero, cmpL_nil]
  omega
def ltR : RowZ → RowZ → Bool := ltOf cfR
theorem ltR_true (x y : RowZ) : ltR x y = true ↔ cfR x y < 0 := by unfold ltR ltOf; simp
theorem ltR_false (x y : RowZ) : ltR x y = false ↔ ¬ cfR x y < 0 := by unfold ltR ltOf; simp
theorem ltR_swo : Sort.SWO ltR where
  irrefl x := by rw [ltR_false, cfR_lt]; omega
  trans x y z h1 h2 := by rw [ltR_true, cfR_lt] at *; omega
  ntrans x y z h1 h2 := by rw [ltR_false, cfR_lt] at *; omega
theorem cfR_zero_iff (x y : RowZ) : cfR x y = 0 ↔ ltR x y = false ∧ ltR y x = false := by rw [ltR_false, ltR_false, cfR_zero, cfR_lt, cfR_lt]; omega
theorem cfR_pts (x y : RowZ) (h : ltR x y = false) : x.pts ≤ y.pts := by rw [ltR_false, cfR_lt] at h; omega

/-! ### a row of rows -/
def flatR (rs : List RowZ) : List Value := rs.flatMap encR
theorem flatR_len (rs : List RowZ) : (flatR rs).length = rs.length * 8 := by
  induction rs with
  | nil => rfl
  | cons r t ih =>
    have e : flatR (r :: t) = encR r ++ flatR t := rfl
    rw [e, List.length_append, ih, List.length_cons]
    simp [encR]; omega
theorem flatR_append (xs ys : List RowZ) : flatR (xs ++ ys) = flatR xs ++ flatR ys := by simp [flatR]
theorem flatR_get (rs : List RowZ) (k j : Nat) (hk : k < rs.length) (hj : j < 8) : (flatR rs)[k * 8 + j]? = (encR rs[k])[j]? := by
  induction rs generalizing k with
  | nil => simp at hk
  | cons r t ih =>
    have e : flatR (r :: t) = encR r ++ flatR t := rfl
    have hl : (encR r).length = 8 := rfl
    cases k with
    | zero =>
      rw [e, Nat.zero_mul, Nat.zero_add, List.getElem?_append_left (by omega)]; rfl
    | succ k =>
      rw [e, List.getElem?_append_right (by omega), hl, show (k + 1) * 8 + j - 8 = k * 8 + j by omega, ih k (by simpa using hk)]
      rfl
theorem encR_one (x : RowZ) : ∀ v ∈ encR x, v.oneCell' = true := by
  intro v hv
  simp only [encR, List.mem_cons, List.not_mem_nil, or_false] at hv
  rcases hv with rfl | rfl | rfl | rfl | rfl | rfl | rfl | rfl <;> rfl
theorem flatK_row (rs : List RowZ) : Sort.flatK encR 8 rs.toArray = (flatR rs).toArray := by
  apply Array.ext
  · simp [flatR_len]
  · intro t h1 h2
    have ht : t < rs.length * 8 := by simpa using h1
    obtain ⟨q, r, hr, rfl⟩ : ∃ q r, r < 8 ∧ t = q * 8 + r := ⟨t / 8, t % 8, Nat.mod_lt _ (by decide), by omega⟩
    have hq : q < rs.length := by omega
    have e1 : (q * 8 + r) / 8 = q := by omega
    have e2 : (q * 8 + r) % 8 = r := by omega
    have hg : rs.toArray[q]! = rs[q] := by
      rw [getElem!_pos _ q (by simpa using hq)]; simp
    have hf := flatR_get rs q r hq hr
    have hL : (Sort.flatK encR 8 rs.toArray)[q * 8 + r]! = (flatR rs).toArray[q * 8 + r]! := by
      rw [Sort.get_flatK _ _ _ _ (by simpa using ht), e1, e2, hg]
      simp only [List.getElem!_toArray]
      rw [List.getElem!_eq_getElem?_getD, List.getElem!_eq_getElem?_getD, hf]
    rw [getElem!_pos (Sort.flatK encR 8 rs.toArray) _ h1, getElem!_pos (flatR rs).toArray _ h2] at hL
    exact hL
theorem holds_of_cells {w : World} {g : Nat} {cur : Array Value} {e : TypeId} {vs : List Value} (hb : w.heap[g]? = some (.cells cur e (0, 0))) (ht : cur.toList.take vs.length = vs) : Sort.Holds id w g 0 vs.toArray := by
  intro j hj
  have hj' : j < vs.length := by simpa using hj
  refine ⟨?_, by simp [World.frozen?, hb]⟩
  have h1 : (cur.toList.take vs.length)[j]? = vs[j]? := by rw [ht]
  rw [List.getElem?_take_of_lt hj'] at h1
  simp only [World.cell?, hb, Nat.zero_add]
  simp only [Option.isSome_none, Bool.false_eq_true, if_false]
  rw [← Array.getElem?_toList, h1]
  simp [hj']
theorem heap_put {w : World} {g n : Nat} {os : Array Obj} {cur : Array Value} {e : TypeId} {fr : Nat × Nat} (d : Array Value) (hb : w.heap[g]? = some (.cells cur e fr)) :
    (Sort.grow (Sort.putRow id (Sort.ahead w n) g 0 d) os).heap[g]? = some (.cells (Sort.putCells id 0 d cur) e fr) := by
  have hg : g < w.heap.size := (Array.getElem?_eq_some_iff.1 hb).1
  rw [Sort.heap_grow_old _ _ (by simpa using hg)]
  simp [Sort.putRow, Sort.mapBlock, Sort.ahead, Array.getElem?_modify, hb, Sort.onCells]
theorem grown_put {w : World} {g n : Nat} {os : Array Obj} (d : Array Value) : w.grownBy (Sort.grow (Sort.putRow id (Sort.ahead w n) g 0 d) os) (some g) := by
  refine ⟨rfl, rfl, rfl, by simp, fun k hk hne => ?_⟩
  rw [Sort.heap_grow_old _ _ (by simpa using hk)]
  have : g ≠ k := fun e => hne (by rw [e])
  simp [Sort.putRow, Sort.mapBlock, Sort.ahead, Array.getElem?_modify, this]
theorem take_put' (cur : Array Value) (ts : List Value) (h : ts.length ≤ cur.size) : (Sort.putCells id 0 ts.toArray cur).toList.take ts.length = ts := by
  apply List.ext_getElem?
  intro j
  by_cases hj : j < ts.length
  · rw [List.getElem?_take_of_lt hj, Array.getElem?_toList]
    simp [Sort.putCells, hj, show j < cur.size by omega]
  · rw [List.getElem?_take_eq_none (by omega), List.getElem?_eq_none (by omega)]
theorem own_row {w : World} {base g cap n : Nat} {rs rs' : List RowZ} {os : Array Obj} (h : w.ownsRow base 30 8 (.slice (some ⟨g, 0, none⟩) rs.length cap) rs.length (flatR rs)) (hl : rs'.length = rs.length) :
    (sortWorldK encR 8 w g 0 n rs'.toArray os).ownsRow base 30 8 (.slice (some ⟨g, 0, none⟩) rs.length cap) rs.length (flatR rs') ∧ w.grownBy (sortWorldK encR 8 w g 0 n rs'.toArray os) (some g) := by
  rcases h.2 with ⟨h0, _⟩ | ⟨g', cap', cur, hv, hg, hb, hn, hm, hs, ht⟩
  · cases h0
  · simp only [Value.slice.injEq, Option.some.injEq, Addr.mk.injEq, true_and, and_true] at hv
    obtain ⟨rfl, rfl⟩ := hv
    have e : sortWorldK encR 8 w g 0 n rs'.toArray os = Sort.grow (Sort.putRow id (Sort.ahead w n) g 0 (flatR rs').toArray) os := by
      show Sort.grow (Sort.putRow id (Sort.ahead w n) g 0 (Sort.flatK encR 8 rs'.toArray)) os = _
      rw [flatK_row]
    rw [e]
    refine ⟨⟨by rw [flatR_len, hl], .inr ⟨g, cap, _, rfl, hg, heap_put _ hb, hn, hm, by simp [Sort.putCells, hs], ?_⟩⟩, grown_put _⟩
    have h3 := take_put' cur (flatR rs') (by rw [flatR_len, hl, hs]; omega)
    rw [flatR_len, hl] at h3
    exact h3
theorem holds_row {w : World} {base g cap : Nat} {rs : List RowZ} (h : w.ownsRow base 30 8 (.slice (some ⟨g, 0, none⟩) rs.length cap) rs.length (flatR rs)) : Sort.HoldsK encR 8 w g 0 rs.toArray := by
  rcases h.2 with ⟨h0, _⟩ | ⟨g', cap', cur, hv, hg, hb, hn, hm, hs, ht⟩
  · cases h0
  · simp only [Value.slice.injEq, Option.some.injEq, Addr.mk.injEq, true_and, and_true] at hv
    obtain ⟨rfl, rfl⟩ := hv
    unfold Sort.HoldsK
    rw [flatK_row]
    exact holds_of_cells hb (by rw [flatR_len]; exact ht)
end Go.Proofs.Ytjgnjahnfglbaaa
