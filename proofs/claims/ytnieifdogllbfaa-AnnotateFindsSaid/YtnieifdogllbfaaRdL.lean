/- A slice of structs that is read: each element's cells as a predicate of the world, nested slices among them. -/
import Derived.Test.YtnieifdogllbfaaIntsB
namespace Go.Proofs.Ytnieifdogllbfaa
open Go.ChangeShapes Go.WideShapes Go.ChangeAt Go.RowKit
set_option linter.unusedVariables false

/-- how an element lies in memory: k cells. -/
structure El (α : Type) where
  k : Nat
  E : World → α → List Value → Prop
  mono : ∀ {w w' : World} {B : Nat} {x : α} {cs : List Value}, E w x cs → Below B w w' → w.heap.size ≤ B → E w' x cs
  len : ∀ {w : World} {x : α} {cs : List Value}, E w x cs → cs.length = k

/-- a slice of such elements that is read. -/
def RdL {α : Type} (el : El α) (w : World) (v : Value) (xs : List α) : Prop :=
  (∃ a c, v = .slice a 0 c ∧ c ≤ maxLen ∧ xs.length = 0) ∨ ∃ g o c, v = .slice (some ⟨g, o, none⟩) xs.length c ∧ xs.length ≤ c ∧ c ≤ maxLen ∧ g < w.heap.size ∧
    ∀ i (h : i < xs.length), ∃ cs, el.E w xs[i] cs ∧ ∀ j, j < el.k → w.cell? ⟨g, o + i * el.k + j, none⟩ = cs[j]?

theorem RdL.below {α : Type} {el : El α} {w w' : World} {v : Value} {xs : List α} {B : Nat} (h : RdL el w v xs) (hb : Below B w w') (hB : w.heap.size ≤ B) : RdL el w' v xs := by
  rcases h with h | ⟨g, o, c, h1, h2, h3, h4, h5⟩
  · exact .inl h
  · refine .inr ⟨g, o, c, h1, h2, h3, Nat.lt_of_lt_of_le h4 hb.size, fun i hi => ?_⟩
    obtain ⟨cs, a, b⟩ := h5 i hi
    exact ⟨cs, el.mono a hb hB, fun j hj => (hb.cell (Nat.lt_of_lt_of_le h4 hB)).trans (b j hj)⟩

theorem RdL.form {α : Type} {el : El α} {w : World} {v : Value} {xs : List α} (h : RdL el w v xs) : ∃ a c, v = .slice a xs.length c ∧ xs.length ≤ c ∧ c ≤ maxLen := by
  rcases h with ⟨a, c, h, hm, hz⟩ | ⟨g, o, c, h1, h2, h3, _⟩
  · exact ⟨a, c, by rw [h, hz], by omega, hm⟩
  · exact ⟨_, _, h1, h2, h3⟩

theorem RdL.some {α : Type} {el : El α} {w : World} {a : Option Addr} {n c : Nat} {xs : List α} (h : RdL el w (.slice a n c) xs) (hn : 0 < xs.length) : ∃ g o, a = some ⟨g, o, none⟩ ∧ g < w.heap.size ∧
    ∀ i (h : i < xs.length), ∃ cs, el.E w xs[i] cs ∧ ∀ j, j < el.k → w.cell? ⟨g, o + i * el.k + j, none⟩ = cs[j]? := by
  rcases h with ⟨_, _, _, _, hz⟩ | ⟨g, o, c, h1, h2, h3, h4, h5⟩
  · omega
  · simp only [Value.slice.injEq] at h1
    exact ⟨g, o, h1.1, h4, h5⟩

theorem RdL.nil {α : Type} (el : El α) (w : World) : RdL el w (.slice none 0 0) [] := .inl ⟨none, 0, rfl, by unfold maxLen; omega, rfl⟩

/-- the first elements. -/
theorem RdL.take {α : Type} {el : El α} {w : World} {a : Option Addr} {n c : Nat} {xs : List α} (h : RdL el w (.slice a n c) xs) (k : Nat) (hk : k ≤ xs.length) : RdL el w (.slice a k c) (xs.take k) := by
  have hl : (xs.take k).length = k := by rw [List.length_take]; omega
  rcases h with ⟨a', c', h, hm, hz⟩ | ⟨g, o, c', h1, h2, h3, h4, h5⟩
  · simp only [Value.slice.injEq] at h
    obtain ⟨rfl, _, rfl⟩ := h
    have : k = 0 := by omega
    subst this
    exact .inl ⟨_, _, rfl, hm, rfl⟩
  · simp only [Value.slice.injEq] at h1
    obtain ⟨rfl, _, rfl⟩ := h1
    refine .inr ⟨g, o, c, by rw [hl], by omega, h3, h4, fun i hi => ?_⟩
    obtain ⟨cs, e, f⟩ := h5 i (by omega)
    exact ⟨cs, by simpa using e, f⟩

/-- a row that a call owns, each of whose elements is laid so. -/
theorem RdL.of_own {α : Type} {el : El α} {w : World} {b : Nat} {t : TypeId} {v : Value} {xs : List α} {ys : List Value} (h : w.ownsRow b t el.k v xs.length ys)
    (hE : ∀ i (h : i < xs.length), el.E w xs[i] ((ys.drop (i * el.k)).take el.k)) : RdL el w v xs := by
  rcases h.2 with ⟨h0, h1⟩ | ⟨g, cap, cur, rfl, hb, hg, hn, hm, hs, ht⟩
  · exact .inl ⟨none, 0, h0, by unfold maxLen; omega, h1⟩
  · have hlt : g < w.heap.size := by
      by_cases hh : g < w.heap.size
      · exact hh
      · rw [Array.getElem?_eq_none (by omega)] at hg
        cases hg
    refine .inr ⟨g, 0, cap, rfl, hn, hm, hlt, fun i hi => ⟨_, hE i hi, fun j hj => ?_⟩⟩
    have hm1 : (i + 1) * el.k ≤ xs.length * el.k := Nat.mul_le_mul_right _ hi
    have hm2 : (i + 1) * el.k = i * el.k + el.k := by rw [Nat.add_mul, Nat.one_mul]
    have := h.cellAt (i * el.k + j) (by omega)
    rw [Nat.zero_add, this, List.getElem?_take, if_pos hj, List.getElem?_drop]

/-! ### lists that are looked through -/
def scanE (f : Nat → Int) : Nat → Nat → Int
  | _, 0 => 0
  | k, m + 1 => if f k = 0 then scanE f (k + 1) m else f k
theorem scanE_step (f : Nat → Int) (k n : Nat) (h : k < n) : scanE f k (n - k) = if f k = 0 then scanE f (k + 1) (n - (k + 1)) else f k := by
  obtain ⟨m, hm⟩ : ∃ m, n - k = m + 1 := ⟨n - k - 1, by omega⟩
  rw [hm, scanE, show n - (k + 1) = m by omega]
theorem scanE_zero (f : Nat → Int) : ∀ (m k : Nat), scanE f k m = 0 ↔ ∀ i, k ≤ i → i < k + m → f i = 0
  | 0, k => by simp [scanE]; intro i _ _; omega
  | m + 1, k => by
    rw [scanE]
    by_cases h : f k = 0
    · rw [if_pos h, scanE_zero f m (k + 1)]
      constructor
      · intro g i hi hj
        by_cases e : i = k
        · subst e; exact h
        · exact g i (by omega) (by omega)
      · intro g i hi hj
        exact g i (by omega) (by omega)
    · rw [if_neg h]
      constructor
      · intro e; exact absurd e h
      · intro g; exact absurd (g k (by omega) (by omega)) h
end Go.Proofs.Ytnieifdogllbfaa
