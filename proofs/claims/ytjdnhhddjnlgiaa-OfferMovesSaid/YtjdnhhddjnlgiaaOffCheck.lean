/- The contract of offer.Check. -/
import Derived.Test.YtjdnhhddjnlgiaaRows
import Derived.Test.YtjdnhhddjnlgiaaBase
import Derived.WalkKit
import Derived.ProofKit
import Derived.OpenShut
import Derived.LoopTactic
import Derived.Outline
import Derived.Lib.Hide
import Derived.Handy
namespace Go.Proofs.Ytjdnhhddjnlgiaa
open Go.ChangeShapes Go.WideShapes Go.ChangeAt Go.RowKit
set_option linter.unusedVariables false

theorem ix0 (a b : Value) (w : World) : (Instr.index 22 (.agg #[a, b]) (.int .i64 0)).run Try.prog w = .ok a w :=
  run_index_arr (P := Try.prog) #[a, b] 0 a w Try.underlying22 (by kernel_rfl) (by kernel_rfl) (by omega) (by omega) rfl
theorem ix1 (a b : Value) (w : World) : (Instr.index 22 (.agg #[a, b]) (.int .i64 1)).run Try.prog w = .ok b w :=
  run_index_arr (P := Try.prog) #[a, b] 1 b w Try.underlying22 (by kernel_rfl) (by kernel_rfl) (by omega) (by omega) rfl
attribute [local go_sem] ix0 ix1

/-- what offer.Check accepts. -/
def OkO (b0 b1 l00 l01 l10 l11 : Int) : Prop :=
  (-1 ≤ l00 ∧ l00 ≤ 400 ∧ -1 ≤ l01 ∧ l01 ≤ 400 ∧ -1 ≤ b0 ∧ b0 ≤ 1 ∧ ¬ (b0 = 0 ∧ l00 = -1) ∧ ¬ (b0 = 1 ∧ l01 = -1)) ∧
  (-1 ≤ l10 ∧ l10 ≤ 400 ∧ -1 ≤ l11 ∧ l11 ≤ 400 ∧ -1 ≤ b1 ∧ b1 ≤ 1 ∧ ¬ (b1 = 0 ∧ l10 = -1) ∧ ¬ (b1 = 1 ∧ l11 = -1))
def ChkPost (ok : Prop) (w : World) (e : Ending) (w' : World) : Prop := ∃ c : Int, e = .returned (.int .i64 c) ∧ (c = 0 ↔ ok) ∧ w = w'

set_option maxHeartbeats 4000000 in
theorem Check_any (b0 b1 l00 l01 l10 l11 : Int) (w : World) :
    Calls Try.prog 15 #[.agg #[.int .i64 b0, .int .i64 b1, .int .i64 l00, .int .i64 l01, .int .i64 l10, .int .i64 l11]] w (ChkPost (OkO b0 b1 l00 l01 l10 l11) (w.alloc (.cells #[.int .i64 b0, .int .i64 b1, .int .i64 l00, .int .i64 l01, .int .i64 l10, .int .i64 l11] 25))) := by
  have c0 : b0 < 0 ∨ b0 = 0 ∨ b0 = 1 ∨ 1 < b0 := by omega
  have c1 : b1 < 0 ∨ b1 = 0 ∨ b1 = 1 ∨ 1 < b1 := by omega
  rcases c0 with c0 | rfl | rfl | c0 <;> rcases c1 with c1 | rfl | rfl | c1
  all_goals
    go_enter Try.func15, Try.ntmps15
    go_wp2
    refine wp_loop_rounds 3 ?_
    repeat any_goals (first | (rw [rounds_succ]; go_wp2) | (refine wp_loop_rounds 3 ?_))
    all_goals
      go_ret
      refine ⟨_, rfl, ?_, rfl⟩
      (try simp only [beq_iff_eq, beq_eq_false_iff_ne, ne_eq] at *)
      unfold OkO
      first | omega | (refine ⟨fun _ => ?_, fun _ => by trivial⟩; omega)
end Go.Proofs.Ytjdnhhddjnlgiaa
