/- swiss.Cost of two players; append of a row and -1. -/
import Derived.Test.YtkngpbnildhdpaaSwCostL
import Derived.Test.YtkngpbnildhdpaaSwF
import Derived.BigQuiet
import Derived.Deep.Cut
import Derived.Deep.QuietTactic
namespace Go.Proofs.Ytkngpbnildhdpaa
open Go.ChangeShapes Go.WideShapes Go.ChangeAt Go.RowKit
set_option linter.unusedVariables false

def twoB (n : Nat) (i j : Int) : Bool := decide (0 ≤ i) && (decide (i < n) && (decide (0 ≤ j) && (decide (j < n) && decide (i ≠ j))))
set_option maxHeartbeats 2000000 in
theorem two_any (a : Option Addr) (n c : Nat) (i j : Int) (w : World) (hn : (n : Int) < 2 ^ 63) :
    Calls Try.prog 13 #[.slice a n c, .int .i64 i, .int .i64 j] w fun e w' => e = .returned (.bool (twoB n i j)) ∧ w = w' := by
  unfold twoB
  go_enter Try.func13, Try.ntmps13
  by_cases h1 : 0 ≤ i
  · by_cases h2 : i < n
    · by_cases h3 : 0 ≤ j
      · by_cases h4 : j < n
        · by_cases h5 : i = j
          · subst h5
            go_wp2_with fail
            all_goals (try go_ret)
            all_goals first | (refine ⟨?_, rfl⟩; simp <;> omega) | omega
          · go_wp2_with fail
            all_goals (try go_ret)
            all_goals first | (refine ⟨?_, rfl⟩; simp [h1, h2, h3, h4, h5] <;> omega) | omega
        · go_wp2_with fail
          all_goals (try go_ret)
          all_goals first | (refine ⟨?_, rfl⟩; simp [h1, h2, h3, h4] <;> omega) | omega
      · go_wp2_with fail
        all_goals (try go_ret)
        all_goals first | (refine ⟨?_, rfl⟩; simp [h1, h2, h3] <;> omega) | omega
    · go_wp2_with fail
      all_goals (try go_ret)
      all_goals first | (refine ⟨?_, rfl⟩; simp [h1, h2] <;> omega) | omega
  · go_wp2_with fail
    all_goals (try go_ret)
    all_goals first | (refine ⟨?_, rfl⟩; simp [h1] <;> omega) | omega
theorem twoB_ok {n i j : Nat} (hi : i < n) (hj : j < n) (h : i ≠ j) : twoB n (i : Int) (j : Int) = true := by
  unfold twoB
  simp only [Bool.and_eq_true, decide_eq_true_eq]
  omega

set_option maxRecDepth 100000 in
set_option maxHeartbeats 4000000 in
theorem Cost_any (s : Value) (ps : List SwP) (i j : Nat) (w : World) (h : RdS w s ps) (hok : ChkOk ps) (hi : i < ps.length) (hj : j < ps.length) (hij : i ≠ j) :
    Calls Try.prog 8 #[s, .int .i64 i, .int .i64 j] w fun e w' => e = .returned (.tuple #[.int .i64 (costZ ps i j), .int .i64 0]) ∧ Below w.heap.size w w' := by
  obtain ⟨a, c, rfl, h1, h2⟩ := h.form
  unfold maxLen at h2
  have HRD := Lib.hid h
  have HOK := Lib.hid hok
  clear h hok
  go_enter Try.func8, Try.ntmps8
  go_upto_region 2 with (go_at_call 10; refine (Check_any _ ps _ HRD.out).mono ?_; rintro e w1 ⟨cc, rfl, hsay, hbl⟩; have HC := Lib.hid (says_ok HOK.out hsay); have HB1 := Lib.hid hbl; clear hsay hbl)
  obtain rfl : cc = 0 := HC.out
  go_wp2_with (go_at_call 13; refine (two_any a ps.length c (i : Int) (j : Int) _ (by omega)).mono ?_; rintro e w2 ⟨rfl, rfl⟩; rw [twoB_ok hi hj hij])
  refine (cost_any _ ps i j _ (HRD.out.below HB1.out (Nat.le_refl _)) hi hj (HOK.out.2.1 i hi).1 (HOK.out.2.1 j hj).1).mono ?_
  rintro e w2 ⟨rfl, m, rfl⟩
  go_wp2_with fail
  refine bodyPost_ret (v := .tuple #[.int .i64 (costZ ps i j), .int .i64 0]) (by simp [results, Try.results8, go_sem]) rfl ?_
  exact ⟨rfl, below_drewN HB1.out m⟩
end Go.Proofs.Ytkngpbnildhdpaa
