/- The contracts of rating.out, rating.Change and of the statement's own check 'rates'. -/
import Derived.Test.YtgbedogdikflcaaExpect
namespace Go.Proofs.Ytgbedogdikflcaa
open Go.ChangeShapes Go.WideShapes Go.ChangeAt Go.RowKit
set_option linter.unusedVariables false

def outB (n : Int) : Bool := decide (n < -1000000 ∨ 1000000 < n)
theorem outB_true {n : Int} (h : n < -1000000 ∨ 1000000 < n) : outB n = true := by unfold outB; simpa using h
theorem outB_false {n : Int} (h : outB n = false) : -1000000 ≤ n ∧ n ≤ 1000000 := by unfold outB at h; simp at h; exact h

theorem out_any (n : Int) (w : World) :
    Calls Try.prog 11 #[.int .i64 n] w fun e w' => e = .returned (.bool (outB n)) ∧ w = w' := by
  by_cases h1 : n < -1000000
  · have H := Lib.hid (outB_true (Or.inl h1))
    go_enter Try.func11, Try.ntmps11
    go_wp2
    go_ret
    exact ⟨by rw [H.out]; rfl, rfl⟩
  · by_cases h2 : 1000000 < n
    · have H := Lib.hid (outB_true (Or.inr h2))
      go_enter Try.func11, Try.ntmps11
      go_wp2
      go_ret
      exact ⟨by rw [H.out]; rfl, rfl⟩
    · have H := Lib.hid (show outB n = false by unfold outB; rw [decide_eq_false_iff_not]; omega)
      go_enter Try.func11, Try.ntmps11
      go_wp2
      go_ret
      exact ⟨by rw [H.out]; rfl, rfl⟩

/-- what rating.Change returns: the change and the error. -/
def changeR (a b p f : Int) : Int × Int :=
  if outB a = true ∨ outB b = true then (0, 4) else if p < 0 ∨ 2 < p then (0, 1) else if f < 1 ∨ 64 < f then (0, 4) else (f * (50 * p - expect (a - b)), 0)

set_option maxHeartbeats 1000000 in
theorem Change_any (a b p f : Int) (w : World) :
    Calls Try.prog 7 #[.int .i64 a, .int .i64 b, .int .i64 p, .int .i64 f] w fun e w' => e = .returned (.tuple #[.int .i64 (changeR a b p f).1, .int .i64 (changeR a b p f).2]) ∧ w = w' := by
  by_cases ha : outB a = true
  · have H := Lib.hid (show changeR a b p f = (0, 4) by unfold changeR; rw [if_pos (Or.inl ha)])
    go_enter Try.func7, Try.ntmps7
    go_wp2_with (go_at_call 11; refine (out_any _ _).mono ?_; rintro e w' ⟨rfl, rfl⟩)
    go_ret2
    exact ⟨by rw [H.out]; rfl, rfl⟩
  · have ha' : outB a = false := by simpa using ha
    clear ha
    by_cases hb : outB b = true
    · have H := Lib.hid (show changeR a b p f = (0, 4) by unfold changeR; rw [if_pos (Or.inr hb)])
      go_enter Try.func7, Try.ntmps7
      go_wp2_with (go_at_call 11; refine (out_any _ _).mono ?_; rintro e w' ⟨rfl, rfl⟩)
      go_ret2
      exact ⟨by rw [H.out]; rfl, rfl⟩
    · have hb' : outB b = false := by simpa using hb
      clear hb
      have hn : ¬ (outB a = true ∨ outB b = true) := by simp [ha', hb']
      have a1 := outB_false ha'
      have b1 := outB_false hb'
      by_cases hp : p < 0
      · have H := Lib.hid (show changeR a b p f = (0, 1) by unfold changeR; rw [if_neg hn, if_pos (Or.inl hp)])
        clear hn
        go_enter Try.func7, Try.ntmps7
        go_wp2_with (go_at_call 11; refine (out_any _ _).mono ?_; rintro e w' ⟨rfl, rfl⟩)
        go_ret2
        exact ⟨by rw [H.out]; rfl, rfl⟩
      · by_cases hp2 : 2 < p
        · have H := Lib.hid (show changeR a b p f = (0, 1) by unfold changeR; rw [if_neg hn, if_pos (Or.inr hp2)])
          clear hn
          go_enter Try.func7, Try.ntmps7
          go_wp2_with (go_at_call 11; refine (out_any _ _).mono ?_; rintro e w' ⟨rfl, rfl⟩)
          go_ret2
          exact ⟨by rw [H.out]; rfl, rfl⟩
        · by_cases hf : f < 1
          · have H := Lib.hid (show changeR a b p f = (0, 4) by unfold changeR; rw [if_neg hn, if_neg (by omega), if_pos (Or.inl hf)])
            clear hn
            go_enter Try.func7, Try.ntmps7
            go_wp2_with (go_at_call 11; refine (out_any _ _).mono ?_; rintro e w' ⟨rfl, rfl⟩)
            go_ret2
            exact ⟨by rw [H.out]; rfl, rfl⟩
          · by_cases hf2 : 64 < f
            · have H := Lib.hid (show changeR a b p f = (0, 4) by unfold changeR; rw [if_neg hn, if_neg (by omega), if_pos (Or.inr hf2)])
              clear hn
              go_enter Try.func7, Try.ntmps7
              go_wp2_with (go_at_call 11; refine (out_any _ _).mono ?_; rintro e w' ⟨rfl, rfl⟩)
              go_ret2
              exact ⟨by rw [H.out]; rfl, rfl⟩
            · have H := Lib.hid (show changeR a b p f = (f * (50 * p - expect (a - b)), 0) by unfold changeR; rw [if_neg hn, if_neg (by omega), if_neg (by omega)])
              clear hn
              have he := expect_b (a - b)
              have hm : f * (50 * p - expect (a - b)) ≤ 64 * 200 := Int.le_trans (Int.mul_le_mul_of_nonneg_left (by omega : 50 * p - expect (a - b) ≤ 200) (by omega)) (by omega)
              have hm2 : -(64 * 200) ≤ f * (50 * p - expect (a - b)) := Int.le_trans (by omega) (Int.mul_le_mul_of_nonneg_left (by omega : -200 ≤ 50 * p - expect (a - b)) (by omega))
              go_enter Try.func7, Try.ntmps7
              go_wp2_with (first | (go_at_call 11; refine (out_any _ _).mono ?_; rintro e w' ⟨rfl, rfl⟩) | (go_at_call 8; refine (expect_any _ _ (by omega) (by omega)).mono ?_; rintro e w' ⟨rfl, rfl⟩))
              go_ret2
              exact ⟨by rw [H.out]; rfl, rfl⟩

theorem rates_any (w : World) :
    Calls Try.prog 6 #[] w fun e w' => e = .returned (.bool true) ∧ w = w' := by
  have e0 : expect 0 = 50 := by decide +kernel
  have e1 : expect 400 = 51 := by decide +kernel
  go_enter Try.func6, Try.ntmps6
  go_wp2_with (go_at_call 8; refine (expect_any _ _ (by omega) (by omega)).mono ?_; rintro e w' ⟨rfl, rfl⟩)
  go_ret
  exact ⟨rfl, rfl⟩
end Go.Proofs.Ytgbedogdikflcaa
