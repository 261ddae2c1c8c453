/- A clock equals itself: the model's '==' on a struct of arrays, integers and a bool. -/
import Derived.Test.YtpcllegmdioafaaClkRun
import Derived.ChangeKeysEq
namespace Go.Proofs.Ytpcllegmdioafaa
open Go.ChangeShapes Go.WideShapes Go.ChangeAt Go.RowKit

theorem eqArr (w : World) (d : Nat) (a b : Int) : (Op.equalIn (d + 2) 25 (.agg #[.int .i64 a, .int .i64 b]) (.agg #[.int .i64 a, .int .i64 b])).run Try.prog w = .ok true w := by
  have e : (sizeOf 3).run Try.prog w = .ok 1 w := by kernel_rfl
  have p0 := run_part_plain (P := Try.prog) (w := w) (e := 3) (by kernel_rfl) (xs := #[.int .i64 a, .int .i64 b]) (off := 0) (v := .int .i64 a) rfl
  have p1 := run_part_plain (P := Try.prog) (w := w) (e := 3) (by kernel_rfl) (xs := #[.int .i64 a, .int .i64 b]) (off := 1) (v := .int .i64 b) rfl
  have q : ∀ x : Int, (Op.equalIn (d + 1) 3 (.int .i64 x) (.int .i64 x)).run Try.prog w = .ok true w := fun x => by
    rw [run_equalIn_int w d 3 .i64 .i64 x x Try.underlying3]; simp
  generalize hd : d + 1 = k at *
  have hk : d + 2 = k + 1 := by omega
  rw [hk, Op.equalIn]
  simp [run_underlying Try.underlying25, e, p0, p1, q, List.range']

theorem clkSame (w : World) (l0 l1 m0 m1 p0 p1 turn since fallen : Int) (st : Bool) : (binOp .eql 27 (.agg #[.int .i64 l0, .int .i64 l1, .int .i64 m0, .int .i64 m1, .int .i64 p0, .int .i64 p1, .int .i64 turn, .int .i64 since, .bool st, .int .i64 fallen]) (.agg #[.int .i64 l0, .int .i64 l1, .int .i64 m0, .int .i64 m1, .int .i64 p0, .int .i64 p1, .int .i64 turn, .int .i64 since, .bool st, .int .i64 fallen])).run Try.prog w = .ok (.bool true) w := by
  rw [run_eql_struct]
  have ea := fun a b => eqArr w 9997 a b
  simp [go_sem, ea]
end Go.Proofs.Ytpcllegmdioafaa
