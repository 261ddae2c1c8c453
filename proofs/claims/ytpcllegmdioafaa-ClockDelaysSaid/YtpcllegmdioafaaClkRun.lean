/- Where clock.Stop and clock.Press refuse. -/
import Derived.Test.YtpcllegmdioafaaClkTicks
import Derived.Test.YtpcllegmdioafaaClkReady
namespace Go.Proofs.Ytpcllegmdioafaa
open Go.ChangeShapes Go.WideShapes Go.ChangeAt Go.RowKit
set_option linter.unusedVariables false

/-- the clock runs, and no flag has fallen. -/
def RunOk (n : Nat) (inc delay : Int) (ps : List (Int × Int)) (l0 l1 m0 m1 p0 p1 turn since fallen : Int) (st : Bool) (now : Int) : Prop :=
  RuleOk n inc delay ps ∧ ClkOk n l0 l1 m0 m1 p0 p1 turn since fallen ∧ (since ≤ now ∧ now ≤ 100000000) ∧ fallen < 0 ∧ usedZ st delay since now ≤ ofP turn l0 l1 ∧ st = false

theorem ready_no (A : Option Addr) (n cap : Nat) (inc delay : Int) (ps : List (Int × Int)) (l0 l1 m0 m1 p0 p1 turn since fallen : Int) (st : Bool) (now : Int) (h : ¬ RunOk n inc delay ps l0 l1 m0 m1 p0 p1 turn since fallen st now) (w : World) (hn : n ≤ 9223372036854775807) (hp : PerAt w w.heap.size A n ps) :
    Calls Try.prog 18 #[.agg #[.slice A n cap, .int .i64 inc, .int .i64 delay], .agg #[.int .i64 l0, .int .i64 l1, .int .i64 m0, .int .i64 m1, .int .i64 p0, .int .i64 p1, .int .i64 turn, .int .i64 since, .bool st, .int .i64 fallen], .int .i64 now, .bool false] w (fun e w' => ∃ c : Int, c ≠ 0 ∧ e = .returned (.tuple #[.agg #[.int .i64 0, .int .i64 0, .int .i64 0, .int .i64 0, .int .i64 0, .int .i64 0, .int .i64 0, .int .i64 0, .bool false, .int .i64 0], .int .i64 c]) ∧ Below w.heap.size w w') := by
  have key : ∀ c : Int, c ≠ 0 → ∀ (e : Ending) (w' : World), e = .returned (.tuple #[.agg #[.int .i64 0, .int .i64 0, .int .i64 0, .int .i64 0, .int .i64 0, .int .i64 0, .int .i64 0, .int .i64 0, .bool false, .int .i64 0], .int .i64 c]) ∧ Below w.heap.size w w' → ∃ c : Int, c ≠ 0 ∧ e = .returned (.tuple #[.agg #[.int .i64 0, .int .i64 0, .int .i64 0, .int .i64 0, .int .i64 0, .int .i64 0, .int .i64 0, .int .i64 0, .bool false, .int .i64 0], .int .i64 c]) ∧ Below w.heap.size w w' := fun c hc e w' ⟨a, b⟩ => ⟨c, hc, a, b⟩
  by_cases hv : RuleOk n inc delay ps ∧ ClkOk n l0 l1 m0 m1 p0 p1 turn since fallen
  · cases e0 : witB now since 100000000
    · exact (ready_time A n cap inc delay ps l0 l1 m0 m1 p0 p1 turn since fallen st now false w hn hp hv.1 hv.2 e0).mono (key 11 (by omega))
    · by_cases hf : 0 ≤ fallen
      · exact (ready_over A n cap inc delay ps l0 l1 m0 m1 p0 p1 turn since fallen st now false w hn hp hv.1 hv.2 e0 hf).mono (key 14 (by omega))
      · have hti := witB_iff.1 e0
        have ht : turn = 0 ∨ turn = 1 := by have := hv.2.1; omega
        rcases ht with rfl | rfl
        · by_cases hu : l0 < usedZ st delay since now
          · exact (ready_fall_0 A n cap inc delay ps l0 l1 m0 m1 p0 p1 since fallen st now false w hn hp hv.1 hv.2 e0 (by omega) hu).mono (key 14 (by omega))
          · cases st
            · exact absurd ⟨hv.1, hv.2, hti, by omega, by have : ofP 0 l0 l1 = l0 := rfl; rw [this]; omega, rfl⟩ h
            · exact (ready_state_0_false A n cap inc delay ps l0 l1 m0 m1 p0 p1 since fallen now w hn hp hv.1 hv.2 e0 (by omega) (by omega)).mono (key 10 (by omega))
        · by_cases hu : l1 < usedZ st delay since now
          · exact (ready_fall_1 A n cap inc delay ps l0 l1 m0 m1 p0 p1 since fallen st now false w hn hp hv.1 hv.2 e0 (by omega) hu).mono (key 14 (by omega))
          · cases st
            · exact absurd ⟨hv.1, hv.2, hti, by omega, by have : ofP 1 l0 l1 = l1 := rfl; rw [this]; omega, rfl⟩ h
            · exact (ready_state_1_false A n cap inc delay ps l0 l1 m0 m1 p0 p1 since fallen now w hn hp hv.1 hv.2 e0 (by omega) (by omega)).mono (key 10 (by omega))
  · exact ready_bad A n cap inc delay ps l0 l1 m0 m1 p0 p1 turn since fallen st now false w hn hp hv

theorem Stop_no (A : Option Addr) (n cap : Nat) (inc delay : Int) (ps : List (Int × Int)) (l0 l1 m0 m1 p0 p1 turn since fallen : Int) (st : Bool) (now : Int) (h : ¬ RunOk n inc delay ps l0 l1 m0 m1 p0 p1 turn since fallen st now) (w : World) (hn : n ≤ 9223372036854775807) (hp : PerAt w w.heap.size A n ps) :
    Calls Try.prog 10 #[.agg #[.slice A n cap, .int .i64 inc, .int .i64 delay], .agg #[.int .i64 l0, .int .i64 l1, .int .i64 m0, .int .i64 m1, .int .i64 p0, .int .i64 p1, .int .i64 turn, .int .i64 since, .bool st, .int .i64 fallen], .int .i64 now] w (fun e w' => ∃ c : Int, c ≠ 0 ∧ e = .returned (.tuple #[.agg #[.int .i64 0, .int .i64 0, .int .i64 0, .int .i64 0, .int .i64 0, .int .i64 0, .int .i64 0, .int .i64 0, .bool false, .int .i64 0], .int .i64 c]) ∧ Below w.heap.size w w') :=
  Stop_err A n cap inc delay ps l0 l1 m0 m1 p0 p1 turn since fallen st now w hn hp (fun c => c ≠ 0) (fun _ h => h) (fun W hW => ready_no A n cap inc delay ps l0 l1 m0 m1 p0 p1 turn since fallen st now h W hn hW)
theorem Press_no (A : Option Addr) (n cap : Nat) (inc delay : Int) (ps : List (Int × Int)) (l0 l1 m0 m1 p0 p1 turn since fallen : Int) (st : Bool) (now : Int) (h : ¬ RunOk n inc delay ps l0 l1 m0 m1 p0 p1 turn since fallen st now) (w : World) (hn : n ≤ 9223372036854775807) (hp : PerAt w w.heap.size A n ps) :
    Calls Try.prog 9 #[.agg #[.slice A n cap, .int .i64 inc, .int .i64 delay], .agg #[.int .i64 l0, .int .i64 l1, .int .i64 m0, .int .i64 m1, .int .i64 p0, .int .i64 p1, .int .i64 turn, .int .i64 since, .bool st, .int .i64 fallen], .int .i64 now] w (fun e w' => ∃ c : Int, c ≠ 0 ∧ e = .returned (.tuple #[.agg #[.int .i64 0, .int .i64 0, .int .i64 0, .int .i64 0, .int .i64 0, .int .i64 0, .int .i64 0, .int .i64 0, .bool false, .int .i64 0], .int .i64 c]) ∧ Below w.heap.size w w') :=
  Press_err A n cap inc delay ps l0 l1 m0 m1 p0 p1 turn since fallen st now w hn hp (fun c => c ≠ 0) (fun _ h => h) (fun W hW => ready_no A n cap inc delay ps l0 l1 m0 m1 p0 p1 turn since fallen st now h W hn hW)

theorem PerAt.setCell {w : World} {A : Option Addr} {n : Nat} {ps : List (Int × Int)} {B : Nat} (h : PerAt w B A n ps) (p : Addr) (u : Value) (hp : B ≤ p.block) : PerAt (w.setCell p u) B A n ps :=
  h.mono (Nat.le_refl _) (fun q hq => World.cell?_setCell_other w p q u (fun e => by subst e; omega))
theorem PerAt.more {w : World} {A : Option Addr} {n : Nat} {ps : List (Int × Int)} {B B' : Nat} (h : PerAt w B A n ps) (hB : B ≤ B') : PerAt w B' A n ps :=
  h.mono hB (fun _ _ => rfl)
theorem zeroClk (w : World) : (binOp .eql 27 (.agg #[.int .i64 0, .int .i64 0, .int .i64 0, .int .i64 0, .int .i64 0, .int .i64 0, .int .i64 0, .int .i64 0, .bool false, .int .i64 0]) (.agg #[.int .i64 0, .int .i64 0, .int .i64 0, .int .i64 0, .int .i64 0, .int .i64 0, .int .i64 0, .int .i64 0, .bool false, .int .i64 0])).run Try.prog w = .ok (.bool true) w := by kernel_rfl
end Go.Proofs.Ytpcllegmdioafaa
