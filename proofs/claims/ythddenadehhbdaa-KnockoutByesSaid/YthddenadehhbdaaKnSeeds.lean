/- The contracts of knockout.Check, rounds, Rounds, seeds and Seeds. -/
import Derived.Test.YthddenadehhbdaaIntsB
import Derived.WalkLawsBesides
namespace Go.Proofs.Ythddenadehhbdaa
open Go.ChangeShapes Go.WideShapes Go.ChangeAt Go.RowKit
set_option linter.unusedVariables false

def chkN (n : Int) : Int := if n < 2 ∨ 32 < n then 4 else 0
theorem Check_no (n : Int) (w : World) (h : n < 2 ∨ 32 < n) :
    Calls Try.prog 51 #[.int .i64 n] w fun e w' => e = .returned (.int .i64 4) ∧ w = w' := by
  rcases h with h | h
  all_goals
    go_enter Try.func51, Try.ntmps51
    go_wp2
    go_ret
    exact ⟨rfl, rfl⟩
theorem Check_ok (n : Int) (w : World) (h0 : 2 ≤ n) (h1 : n ≤ 32) :
    Calls Try.prog 51 #[.int .i64 n] w fun e w' => e = .returned (.int .i64 0) ∧ w = w' := by
  go_enter Try.func51, Try.ntmps51
  go_wp2
  go_ret
  exact ⟨rfl, rfl⟩

/-- the least k with n ≤ 2^k, for n from 2 to 32. -/
def kOf (n : Nat) : Nat := if n ≤ 2 then 1 else if n ≤ 4 then 2 else if n ≤ 8 then 3 else if n ≤ 16 then 4 else 5
theorem rounds_any (n : Nat) (w : World) (h0 : 2 ≤ n) (h1 : n ≤ 32) :
    Calls Try.prog 54 #[.int .i64 n] w fun e w' => e = .returned (.int .i64 (kOf n)) ∧ w = w' := by
  go_enter Try.func54, Try.ntmps54
  go_wp2_with fail
  go_loop [3] (fun i => ∃ k : Nat, k ≤ kOf n ∧ i = .int .i64 k) (fun i => 5 - (intOf i).toNat)
  case atStart => exact ⟨0, Nat.zero_le _, rfl⟩
  case round =>
    obtain ⟨k, hk, rfl⟩ := hrel
    have hk5 : k ≤ 5 := by unfold kOf at hk; split at hk <;> (try split at hk) <;> (try split at hk) <;> (try split at hk) <;> omega
    by_cases hlt : k < kOf n
    · have hb : k < 5 ∧ 2 ^ k < n := by
        unfold kOf at hlt
        have hk4 : k = 0 ∨ k = 1 ∨ k = 2 ∨ k = 3 ∨ k = 4 := by split at hlt <;> (try split at hlt) <;> (try split at hlt) <;> (try split at hlt) <;> omega
        rcases hk4 with rfl | rfl | rfl | rfl | rfl <;> simp <;> (split at hlt <;> (try split at hlt) <;> (try split at hlt) <;> (try split at hlt) <;> omega)
      obtain ⟨hb1, hb2⟩ := hb
      have hk4 : k = 0 ∨ k = 1 ∨ k = 2 ∨ k = 3 ∨ k = 4 := by omega
      rcases hk4 with rfl | rfl | rfl | rfl | rfl
      all_goals
        simp at hb2
        go_wp2_with fail
        go_round
        case rel => exact ⟨_, hlt, by go_num⟩
        case measure => simp [intOf]
    · obtain rfl : k = kOf n := by omega
      have hb : n ≤ 2 ^ kOf n := by unfold kOf; split <;> (try split) <;> (try split) <;> (try split) <;> omega
      have hb1 : 1 ≤ kOf n := by unfold kOf; split <;> (try split) <;> (try split) <;> (try split) <;> omega
      generalize hkn : kOf n = k at *
      have HKN := Lib.hid hkn
      clear hkn
      have hk4 : k = 1 ∨ k = 2 ∨ k = 3 ∨ k = 4 ∨ k = 5 := by omega
      rcases hk4 with rfl | rfl | rfl | rfl | rfl
      all_goals
        simp at hb
        go_wp2_with fail
        go_ret
        exact ⟨by rw [HKN.out]; rfl, rfl⟩

theorem Rounds_no (n : Int) (w : World) (h : n < 2 ∨ 32 < n) :
    Calls Try.prog 26 #[.int .i64 n] w fun e w' => e = .returned (.tuple #[.int .i64 0, .int .i64 4]) ∧ w = w' := by
  have H := Lib.hid (Check_no n w h)
  clear h
  go_enter Try.func26, Try.ntmps26
  go_wp2_with fail
  refine H.out.mono ?_
  rintro e w' ⟨rfl, rfl⟩
  go_wp2
  go_ret2
  exact ⟨rfl, rfl⟩
theorem Rounds_ok (n : Nat) (w : World) (h0 : 2 ≤ n) (h1 : n ≤ 32) :
    Calls Try.prog 26 #[.int .i64 n] w fun e w' => e = .returned (.tuple #[.int .i64 (kOf n), .int .i64 0]) ∧ w = w' := by
  go_enter Try.func26, Try.ntmps26
  go_wp2_with fail
  refine (Check_ok n w (by omega) (by omega)).mono ?_
  rintro e w' ⟨rfl, rfl⟩
  go_wp2_with fail
  refine (rounds_any n w h0 h1).mono ?_
  rintro e w' ⟨rfl, rfl⟩
  go_wp2
  go_ret2
  exact ⟨rfl, rfl⟩

/-! ### seeds -/
def pairS (l : List Int) (k : Nat) : List Int := if ((k : Int) % 2 == 1) = true then [2 * (l.length : Int) - 1 - l.getD k 0, l.getD k 0] else [l.getD k 0, 2 * (l.length : Int) - 1 - l.getD k 0]
def nextPre (l : List Int) (k : Nat) : List Int := (List.range k).flatMap (pairS l)
theorem nextPre_succ (l : List Int) (k : Nat) : nextPre l (k + 1) = nextPre l k ++ pairS l k := by
  unfold nextPre; rw [List.range_succ, List.flatMap_append]; simp
theorem nextPre_len (l : List Int) (k : Nat) : (nextPre l k).length = 2 * k := by
  induction k with
  | zero => rfl
  | succ k ih => rw [nextPre_succ, List.length_append, ih]; unfold pairS; split <;> simp <;> omega
def seedsTo : Nat → List Int
  | 0 => [0]
  | k + 1 => nextPre (seedsTo k) (seedsTo k).length
theorem seedsTo_len (k : Nat) : (seedsTo k).length = 2 ^ k := by
  induction k with
  | zero => rfl
  | succ k ih => rw [seedsTo, nextPre_len, ih, Nat.pow_succ]; omega
def InB (m : Int) (l : List Int) : Prop := ∀ i : Nat, 0 ≤ l.getD i 0 ∧ l.getD i 0 ≤ m
theorem seedsTo_in (k : Nat) (hk : k ≤ 5) : InB 31 (seedsTo k) := by
  have h : ∀ k, k ≤ 5 → (seedsTo k).all (fun x => decide (0 ≤ x) && decide (x ≤ 31)) = true := by
    intro k hk
    have : k = 0 ∨ k = 1 ∨ k = 2 ∨ k = 3 ∨ k = 4 ∨ k = 5 := by omega
    rcases this with rfl | rfl | rfl | rfl | rfl | rfl <;> decide +kernel
  intro i
  by_cases hi : i < (seedsTo k).length
  · have := List.all_eq_true.1 (h k hk) _ (List.getElem_mem hi)
    rw [List.getD_eq_getElem?_getD, List.getElem?_eq_getElem hi]
    simpa using this
  · rw [List.getD_eq_getElem?_getD, List.getElem?_eq_none (by omega)]; simp
def capB (n : Int) (p : Int) : Int := if n ≤ p then -1 else p
def seedsZ (n : Nat) : List Int := (seedsTo (kOf n)).map (capB n)
def capTo (n : Int) (l : List Int) (k : Nat) : List Int := (l.take k).map (capB n) ++ l.drop k
theorem capTo_len (n : Int) (l : List Int) (k : Nat) : (capTo n l k).length = l.length := by
  unfold capTo; simp; omega
theorem capTo_get (n : Int) (l : List Int) (k : Nat) (h : k < l.length) : (capTo n l k).getD k 0 = l.getD k 0 := by
  unfold capTo
  rw [List.getD_eq_getElem?_getD, List.getElem?_append_right (by simp; omega)]
  simp [List.getD]
  congr 2
  omega
theorem capTo_step (n : Int) (l : List Int) (k : Nat) (h : k < l.length) : capTo n l (k + 1) = (capTo n l k).set k (capB n (l.getD k 0)) := by
  unfold capTo
  rw [List.take_succ_eq_append_getElem h, List.map_append, List.set_append_right _ _ (by simp; omega)]
  have e : k - (List.map (capB n) (List.take k l)).length = 0 := by simp; omega
  rw [e]
  simp [List.getD, List.getElem?_eq_getElem h]
  rw [List.drop_eq_getElem_cons h]
  rfl
end Go.Proofs.Ythddenadehhbdaa
