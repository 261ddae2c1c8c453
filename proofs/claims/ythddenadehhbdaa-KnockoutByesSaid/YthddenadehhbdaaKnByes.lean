/- The plain part of knockout.Byes. -/
import Derived.Test.YthddenadehhbdaaKnSeeds2
namespace Go.Proofs.Ythddenadehhbdaa
open Go.ChangeShapes Go.WideShapes Go.ChangeAt Go.RowKit
set_option linter.unusedVariables false

def byeS (a b : Int) : List Int := if a < 0 ∨ b < 0 then [if a < b then b else a] else []
def byesTo (l : List Int) : Nat → List Int
  | 0 => []
  | k + 1 => byesTo l k ++ byeS (l.getD (2 * k) 0) (l.getD (2 * k + 1) 0)
theorem byesTo_len (l : List Int) (k : Nat) : (byesTo l k).length ≤ k := by
  induction k with
  | zero => simp [byesTo]
  | succ k ih => rw [byesTo, List.length_append]; unfold byeS; split <;> simp <;> omega
def halfN (n : Nat) : Nat := 2 ^ (kOf n - 1)
def byesZ (n : Nat) : List Int := byesTo (seedsZ n) (halfN n)
theorem kOf_b (n : Nat) : 1 ≤ kOf n ∧ kOf n ≤ 5 := by unfold kOf; split <;> (try split) <;> (try split) <;> (try split) <;> omega
theorem seedsZ_len (n : Nat) : (seedsZ n).length = 2 * halfN n := by
  have h := kOf_b n
  unfold seedsZ halfN
  rw [List.length_map, seedsTo_len]
  obtain ⟨k, hk⟩ : ∃ k, kOf n = k + 1 := ⟨kOf n - 1, by omega⟩
  rw [hk, Nat.pow_succ]
  simp
  omega
theorem halfN_b (n : Nat) : 1 ≤ halfN n ∧ halfN n ≤ 16 := by
  have h := kOf_b n
  unfold halfN
  have h1 : 2 ^ (kOf n - 1) ≤ 2 ^ 4 := Nat.pow_le_pow_right (by omega) (by omega)
  have h2 : 0 < 2 ^ (kOf n - 1) := Nat.pow_pos (by omega)
  omega
theorem pow_half (n : Nat) : 2 ^ kOf n = 2 * halfN n := by
  rw [← seedsZ_len, seedsZ, List.length_map, seedsTo_len]
/-- the numbers below m. -/
def upto (m : Nat) : List Int := (List.range m).map fun (i : Nat) => (i : Int)
def permB (n : Nat) : Bool := (byesZ n).isPerm (upto (2 * halfN n - n)) && decide (n ≤ 2 * halfN n)
theorem perm_all (n : Nat) (h0 : 2 ≤ n) (h1 : n ≤ 32) : permB n = true := by
  have h : ∀ m : Fin 31, permB (m.val + 2) = true := by decide +kernel
  have := h ⟨n - 2, by omega⟩
  simp only at this
  rwa [show n - 2 + 2 = n by omega] at this
theorem upto_sorted (m : Nat) : (upto m).Pairwise (· ≤ ·) := by
  unfold upto
  rw [List.pairwise_map]
  refine List.Pairwise.imp ?_ List.pairwise_lt_range
  intro a b h
  omega
theorem perm_eq : ∀ (l₁ l₂ : List Int), l₁.Perm l₂ → l₁.Pairwise (· ≤ ·) → l₂.Pairwise (· ≤ ·) → l₁ = l₂ := by
  intro l₁ l₂ h h1 h2
  exact List.Perm.eq_of_pairwise (le := (· ≤ ·)) (fun a b _ _ h h' => Int.le_antisymm h h') h1 h2 h
def sortB (n : Nat) : List Int := (byesZ n).mergeSort fun x y => decide (x ≤ y)
theorem sortB_eq (n : Nat) (h0 : 2 ≤ n) (h1 : n ≤ 32) : sortB n = upto (2 * halfN n - n) ∧ n ≤ 2 * halfN n := by
  have h := perm_all n h0 h1
  unfold permB at h
  rw [Bool.and_eq_true, decide_eq_true_eq, List.isPerm_iff] at h
  refine ⟨perm_eq _ _ ((List.mergeSort_perm _ _).trans h.1) ?_ (upto_sorted _), h.2⟩
  have := List.pairwise_mergeSort (le := fun x y : Int => decide (x ≤ y)) (by intro a b c; simp; omega) (by intro a b; simp; omega) (byesZ n)
  exact this.imp (by simp)
theorem upto_len (m : Nat) : (upto m).length = m := by simp [upto]
theorem upto_get (m i : Nat) (h : i < m) : (upto m).getD i 0 = i := by simp [upto, List.getD, h]
end Go.Proofs.Ythddenadehhbdaa
