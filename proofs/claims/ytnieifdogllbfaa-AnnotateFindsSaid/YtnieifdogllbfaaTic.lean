/- The rules of three in a row. -/
import Derived.Test.YtnieifdogllbfaaEngBegin
import Derived.Laws.MakeOwn
namespace Go.Proofs.Ytnieifdogllbfaa
open Go.ChangeShapes Go.WideShapes Go.ChangeAt Go.RowKit
set_option linter.unusedVariables false
def ticZ : RulesZ := ⟨⟨#[84, 73, 67]⟩, 3, 3, [⟨83, 5, 0, []⟩], List.replicate 9 0, false, false, [⟨0, 0, 3, false⟩], 2, 0, 0⟩
def TicPost (w : World) (e : Ending) (w' : World) : Prop := ∃ vp vs ve, e = .returned (rulesV ticZ vp vs ve) ∧ RdR w' ticZ vp vs ve ∧ Below w.heap.size w w'
set_option maxRecDepth 100000 in
set_option maxHeartbeats 4000000 in
theorem tic_any (w : World) : Calls Try.prog 11 #[] w (TicPost w) := by
  obtain ⟨i0, hi, hz0, hz1, hz2⟩ := info_parts info3
  have hmk : ∀ w' : World, (Instr.makeSlice 23 (.int .i64 9) (.int .i64 9)).run Try.prog w' = .ok (.slice (some ⟨w'.heap.size, 0, none⟩) 9 9) (w'.alloc (.cells #[.int .i64 0, .int .i64 0, .int .i64 0, .int .i64 0, .int .i64 0, .int .i64 0, .int .i64 0, .int .i64 0, .int .i64 0] 3)) := fun w' => by
    rw [run_make w' 23 3 i0 (.int .i64 0) Try.underlying23 hi hz0 .i64 .i64 9 9 (by decide) (by decide) (by rw [hz2]; decide) (by decide), hz1]
    kernel_rfl
  clear hi hz0 hz1 hz2
  go_enter Try.func11, Try.ntmps11
  go_wp2
  refine bodyPost_ret (v := rulesV ticZ (.slice (some ⟨w.heap.size + 1, 0, none⟩) 1 1) (.slice (some ⟨w.heap.size + 1 + 1, 0, none⟩) 9 9) (.slice (some ⟨w.heap.size + 1 + 1 + 1, 0, none⟩) 1 1)) (by simp [results, Try.results11, go_sem, rulesV, ticZ]) rfl ⟨_, _, _, rfl, ⟨?_, ?_, ?_⟩, by go_grown⟩
  · refine .inr ⟨w.heap.size + 1, 0, 1, rfl, Nat.le_refl _, by unfold maxLen; decide, by simp, fun i h => ?_⟩
    obtain rfl : i = 0 := by simp [ticZ] at h; exact h
    refine ⟨[.int .u8 83, .int .i64 5, .int .i64 0, .slice none 0 0], ⟨.slice none 0 0, rfl, RdL.nil _ _⟩, fun j hj => ?_⟩
    simp only [pieceEl] at hj
    rcases j with _ | _ | _ | _ | j
    all_goals first | (simp [go_sem]; done) | omega
  · refine ⟨rfl, .inr ⟨w.heap.size + 1 + 1, 0, 9, rfl, Nat.le_refl _, by unfold maxLen; decide, fun i hi => ?_⟩⟩
    have hi' : i < 9 := by simpa [ticZ] using hi
    rcases i with _ | _ | _ | _ | _ | _ | _ | _ | _ | i
    all_goals first | (simp [go_sem, ints, ticZ]; done) | omega
  · refine .inr ⟨w.heap.size + 1 + 1 + 1, 0, 1, rfl, Nat.le_refl _, by unfold maxLen; decide, by simp, fun i h => ?_⟩
    obtain rfl : i = 0 := by simp [ticZ] at h; exact h
    refine ⟨[.int .i64 0, .int .i64 0, .int .i64 3, .bool false], rfl, fun j hj => ?_⟩
    simp only [endEl] at hj
    rcases j with _ | _ | _ | _ | j
    all_goals first | (simp [go_sem]; done) | omega
theorem tic_rules : rulesErr ticZ = 0 := by decide +kernel
end Go.Proofs.Ytnieifdogllbfaa
