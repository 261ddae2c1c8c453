/- What pairer.search computes, as plain Lean. -/
import Derived.Test.YtkngpbnildhdpaaSwA
import Derived.Test.YtkngpbnildhdpaaIntsIx
namespace Go.Proofs.Ytkngpbnildhdpaa
open Go.ChangeShapes Go.WideShapes Go.ChangeAt Go.RowKit
set_option linter.unusedVariables false

/-- the search: depth, whether a bye is left, the sum, the opponents so far, the best pairing and its cost. -/
def srchZ (ps : List SwP) : Nat → Bool → Int → List Int → (Option (List Int) × Int) → (Option (List Int) × Int)
  | 0, _, _, _, b => b
  | f + 1, bye, sum, wth, b =>
    if idxE (-1) wth 0 < 0 then (if b.1 = none ∨ sum < b.2 then (some wth, sum) else b)
    else
      let i := (idxE (-1) wth 0).toNat
      let b' := (List.range' (i + 1) (ps.length - (i + 1))).foldl (fun b j => if wth.getD j 0 < 0 ∧ metN ps i j = 0 then srchZ ps f bye (sum + costZ ps i j) ((wth.set i j).set j i) b else b) b
      if bye = true ∧ (plAt ps i).bye = false then srchZ ps f false (sum + 100 * (plAt ps i).score * (plAt ps i).score) (wth.set i ps.length) b' else b'
def pairZ (ps : List SwP) : Option (List Int) × Int := srchZ ps (ps.length + 1) (decide (ps.length % 2 = 1)) 0 (List.replicate ps.length (-1)) (none, 0)
def newTwo : List SwP := [⟨0, [], 0, false⟩, ⟨0, [], 0, false⟩]
theorem pair_two : pairZ newTwo = (some [1, 0], 0) := by decide +kernel
theorem idxE_ge (x : Int) : ∀ (l : List Int) (k : Int), idxE x l k = -1 ∨ k ≤ idxE x l k
  | [], k => .inl rfl
  | z :: t, k => by
    unfold idxE
    split
    · exact .inr (Int.le_refl _)
    · rcases idxE_ge x t (k + 1) with h | h
      · exact .inl h
      · exact .inr (by omega)
theorem idxE_found (x : Int) : ∀ (l : List Int) (k : Nat), 0 ≤ idxE x l k → ∃ i : Nat, idxE x l k = (k + i : Nat) ∧ i < l.length ∧ l.getD i 0 = x
  | [], k, h => by unfold idxE at h; omega
  | z :: t, k, h => by
    unfold idxE at h ⊢
    by_cases q : (x == z) = true
    · rw [if_pos q]
      exact ⟨0, rfl, by simp, by simpa using (beq_iff_eq.1 q).symm⟩
    · rw [if_neg q] at h ⊢
      obtain ⟨i, h1, h2, h3⟩ := idxE_found x t (k + 1) h
      exact ⟨i + 1, by rw [show ((k : Int) + 1) = ((k + 1 : Nat) : Int) by omega] at *; rw [h1]; omega, by simpa using h2, by simpa using h3⟩
theorem idxE_none (x : Int) : ∀ (l : List Int) (k : Nat), idxE x l k < 0 → ∀ i, i < l.length → l.getD i 0 ≠ x
  | [], k, _, i, hi => absurd hi (by simp)
  | z :: t, k, h, i, hi => by
    unfold idxE at h
    by_cases q : (x == z) = true
    · rw [if_pos q] at h; omega
    · rw [if_neg q] at h
      rcases i with _ | i
      · simpa using fun e => q (by simp [e])
      · simpa using idxE_none x t (k + 1) h i (by simpa using hi)
end Go.Proofs.Ytkngpbnildhdpaa
