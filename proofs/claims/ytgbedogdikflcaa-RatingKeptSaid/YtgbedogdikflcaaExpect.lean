/- The contract of rating.Expect: for every difference it returns the sum of the table's steps. -/
import Derived.Test.YtgbedogdikflcaaRows
import Derived.Test.YtgbedogdikflcaaBase
import Derived.WalkKit
import Derived.ProofKit
import Derived.OpenShut
import Derived.LoopTactic
import Derived.Outline
import Derived.Lib.Hide
namespace Go.Proofs.Ytgbedogdikflcaa
open Go.ChangeShapes Go.WideShapes Go.ChangeAt Go.RowKit
set_option linter.unusedVariables false

def tab : List Int := [4, 11, 18, 26, 33, 40, 47, 54, 62, 69, 77, 84, 92, 99, 107, 114, 122, 130, 138, 146, 154, 163, 171, 180, 189, 198, 207, 216, 226, 236, 246, 257, 268, 279, 291, 303, 316, 329, 345, 358, 375, 392]
def stepE (d p : Int) : Int := if 100 * p ≤ d then 1 else if d ≤ -100 * p then -1 else 0
def expL (d : Int) (l : List Int) : Int := (l.map (stepE d)).sum
def expect (d : Int) : Int := 50 + expL d tab

theorem expL_snoc (d p : Int) (l : List Int) : expL d (l ++ [p]) = expL d l + stepE d p := by
  unfold expL; simp
theorem stepE_b (d p : Int) : -1 ≤ stepE d p ∧ stepE d p ≤ 1 := by
  unfold stepE; split <;> (try split) <;> omega
theorem expL_b (d : Int) (l : List Int) : -(l.length : Int) ≤ expL d l ∧ expL d l ≤ l.length := by
  induction l with
  | nil => simp [expL]
  | cons a t ih => have := stepE_b d a; simp only [expL, List.map_cons, List.sum_cons, List.length_cons] at *; omega
theorem tab_snoc (k : Nat) (h : k < 42) : tab.take (k + 1) = tab.take k ++ [tab.getD k 0] := by
  have hl : k < tab.length := h
  rw [List.take_succ_eq_append_getElem hl]; simp [List.getD, List.getElem?_eq_getElem hl]
theorem tab_some (k : Nat) (hk : k < 42) : tab[k]? = some (tab.getD k 0) := by
  have hl : k < tab.length := hk
  rw [List.getD_eq_getElem?_getD, List.getElem?_eq_getElem hl]; rfl
theorem tab_b (k : Nat) : 0 ≤ tab.getD k 0 ∧ tab.getD k 0 ≤ 392 := by
  by_cases h : k < 42
  · have : ∀ x ∈ tab, 0 ≤ x ∧ x ≤ 392 := by decide
    have hl : k < tab.length := h
    rw [List.getD_eq_getElem?_getD, List.getElem?_eq_getElem hl]; exact this _ (List.getElem_mem hl)
  · rw [List.getD_eq_getElem?_getD, List.getElem?_eq_none (by simpa [tab] using h)]; simp
theorem expect_b (d : Int) : 8 ≤ expect d ∧ expect d ≤ 92 := by
  have := expL_b d tab; have e : tab.length = 42 := rfl; rw [e] at this; unfold expect; omega

/-! the plain laws of the table -/
theorem stepE_neg (d p : Int) (hp : 0 < p) : stepE (-d) p = - stepE d p := by
  unfold stepE; split <;> split <;> (try split) <;> (try split) <;> omega
theorem stepE_mono (d e p : Int) (hp : 0 < p) (h : d ≤ e) : stepE d p ≤ stepE e p := by
  unfold stepE; split <;> split <;> (try split) <;> (try split) <;> omega
theorem expL_neg (d : Int) (l : List Int) (hl : ∀ p ∈ l, 0 < p) : expL (-d) l = - expL d l := by
  induction l with
  | nil => simp [expL]
  | cons a t ih =>
    have h1 := stepE_neg d a (hl a (by simp))
    have h2 := ih (fun p hp => hl p (by simp [hp]))
    simp only [expL, List.map_cons, List.sum_cons] at *; omega
theorem expL_mono (d e : Int) (l : List Int) (hl : ∀ p ∈ l, 0 < p) (h : d ≤ e) : expL d l ≤ expL e l := by
  induction l with
  | nil => simp [expL]
  | cons a t ih =>
    have h1 := stepE_mono d e a (hl a (by simp)) h
    have h2 := ih (fun p hp => hl p (by simp [hp]))
    simp only [expL, List.map_cons, List.sum_cons] at *; omega
theorem tab_pos : ∀ p ∈ tab, 0 < p := by decide
theorem expect_neg (d : Int) : expect d + expect (-d) = 100 := by
  have := expL_neg d tab tab_pos; unfold expect; omega
theorem expect_mono (d e : Int) (h : d ≤ e) : expect d ≤ expect e := by
  have := expL_mono d e tab tab_pos h; unfold expect; omega

set_option maxRecDepth 100000 in
theorem idx (k : Nat) (hk : k < 42) (w : World) : (Instr.index 35 (.agg #[.int .i64 4, .int .i64 11, .int .i64 18, .int .i64 26, .int .i64 33, .int .i64 40, .int .i64 47, .int .i64 54, .int .i64 62, .int .i64 69, .int .i64 77, .int .i64 84, .int .i64 92, .int .i64 99, .int .i64 107, .int .i64 114, .int .i64 122, .int .i64 130, .int .i64 138, .int .i64 146, .int .i64 154, .int .i64 163, .int .i64 171, .int .i64 180, .int .i64 189, .int .i64 198, .int .i64 207, .int .i64 216, .int .i64 226, .int .i64 236, .int .i64 246, .int .i64 257, .int .i64 268, .int .i64 279, .int .i64 291, .int .i64 303, .int .i64 316, .int .i64 329, .int .i64 345, .int .i64 358, .int .i64 375, .int .i64 392]) (.int .i64 (k : Int))).run Try.prog w = .ok (.int .i64 (tab.getD k 0)) w :=
  run_index_arr (P := Try.prog) (tab.map (Value.int .i64)).toArray (k : Int) (.int .i64 (tab.getD k 0)) w Try.underlying35 (by kernel_rfl) (by kernel_rfl) (by omega) (by omega) (by
    rw [Int.toNat_natCast, List.getElem?_toArray, List.getElem?_map, tab_some k hk]; rfl)

set_option maxHeartbeats 400000 in
theorem expect_any (d : Int) (w : World) (h1 : -9223372036854775808 ≤ d) (h2 : d ≤ 9223372036854775807) :
    Calls Try.prog 8 #[.int .i64 d] w fun e w' => e = .returned (.int .i64 (expect d)) ∧ w = w' := by
  go_enter Try.func8, Try.ntmps8
  go_wp2
  go_loop [3, 7] (fun n i => ∃ k : Nat, k ≤ 42 ∧ i = .int .i64 k ∧ n = .int .i64 (50 + expL d (tab.take k))) (fun _ i => 42 - (intOf i).toNat)
  case atStart => exact ⟨0, Nat.zero_le _, rfl, rfl⟩
  case round =>
    obtain ⟨k, hk, rfl, rfl⟩ := hrel
    have hb := expL_b d (tab.take k)
    have hl : (tab.take k).length ≤ k := List.length_take_le _ _
    by_cases hlt : k < 42
    · have hi := fun w => idx k hlt w
      have hp := tab_b k
      have HS : Hid (expL d (tab.take (k + 1)) = expL d (tab.take k) + stepE d (tab.getD k 0)) := by rw [tab_snoc k hlt]; exact expL_snoc _ _ _
      generalize tab.getD k 0 = p at *
      go_wp2
      all_goals
        go_round
        case rel => exact ⟨k + 1, by omega, by go_num, by
          rw [HS.out]; unfold stepE
          first | (rw [if_pos (by omega)]; go_num) | (rw [if_neg (by omega), if_pos (by omega)]; go_num) | (rw [if_neg (by omega), if_neg (by omega)]; go_num)⟩
        case measure => simp [intOf]; omega
    · go_wp2
      go_ret
      exact ⟨by rw [List.take_of_length_le (by simp [tab]; omega)]; rfl, rfl⟩
end Go.Proofs.Ytgbedogdikflcaa
