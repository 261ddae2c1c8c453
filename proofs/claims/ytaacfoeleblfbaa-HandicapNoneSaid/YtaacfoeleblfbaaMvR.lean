/- (part of MvI) slices.Index, slices.Contains at []api.Move. -/
import Derived.Test.YtaacfoeleblfbaaMvK
namespace Go.Proofs.Ytaacfoeleblfbaa
open Go.ChangeShapes Go.WideShapes Go.ChangeAt Go.RowKit
set_option linter.unusedVariables false

theorem rdM_of_own {w : World} {b : Nat} {v : Value} {xs : List MoveZ} (h : w.ownsRow b 70 3 v xs.length (flatM xs)) : RdL moveEl w v xs := by
  refine RdL.of_own (el := moveEl) h fun i hi => ?_
  show ((flatM xs).drop (i * 3)).take 3 = _
  have hf := flatM_at xs i hi
  have e : xs.getD i default = xs[i] := by rw [List.getD_eq_getElem?_getD, List.getElem?_eq_getElem hi]; rfl
  rw [e] at hf
  obtain ⟨f0, f1, f2⟩ := hf
  apply List.ext_getElem?
  intro j
  by_cases hj : j < 3
  · rw [List.getElem?_take_of_lt hj, List.getElem?_drop]
    have h3 : j = 0 ∨ j = 1 ∨ j = 2 := by omega
    rcases h3 with rfl | rfl | rfl
    · rw [Nat.add_zero, f0]; rfl
    · rw [f1]; rfl
    · rw [f2]; rfl
  · rw [List.getElem?_take_eq_none (by omega), List.getElem?_eq_none (by simp; omega)]
end Go.Proofs.Ytaacfoeleblfbaa
