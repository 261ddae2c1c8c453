/- The contracts of place.sound and place.Check. -/
import Derived.Test.YtnieifdogllbfaaGreatF03
import Derived.Deep.RegionHeld3
namespace Go.Proofs.YtnieifdogllbfaaGreat
open Go.ChangeShapes Go.WideShapes Go.ChangeAt Go.RowKit
set_option linter.unusedVariables false
/-- what rules.Check accepts has a board, and types of pieces. -/
theorem rulesOk {R : RulesZ} (h : rulesErr R = 0) : (1 ≤ R.width ∧ R.width ≤ 8) ∧ (1 ≤ R.height ∧ R.height ≤ 8) ∧ (1 ≤ R.pieces.length ∧ R.pieces.length ≤ 6) := by
 unfold rulesErr at h
 by_cases e1 : nameOk R.name = false
 ·rw [if_pos e1] at h; cases h
 rw [if_neg e1] at h
 by_cases e2 : wb R.width 1 8 = false ∨ wb R.height 1 8 = false
 ·rw [if_pos e2] at h; cases h
 rw [if_neg e2] at h
 have hw : wb R.width 1 8 = true := by cases hb : wb R.width 1 8 <;> simp_all
 have hh : wb R.height 1 8 = true := by cases hb : wb R.height 1 8 <;> simp_all
 by_cases e3 : piecesErr R.pieces = 0
 ·refine ⟨(wb_iff _ _ _).1 hw, (wb_iff _ _ _).1 hh, ?_⟩
  unfold piecesErr at e3
  by_cases f1 : R.pieces.length = 0
  ·rw [if_pos f1] at e3; cases e3
  ·by_cases f2 : 6 < R.pieces.length
   ·rw [if_neg f1, if_pos f2] at e3; cases e3
   ·omega
 ·rw [if_pos e3] at h; exact absurd h e3
end Go.Proofs.YtnieifdogllbfaaGreat
