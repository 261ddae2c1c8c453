/- The contracts of knockout.Seeds and of the law's own helper brackets. -/
import Derived.Test.YthddenadehhbdaaKnSeeds2
import Derived.Test.YthddenadehhbdaaFrame
namespace Go.Proofs.Ythddenadehhbdaa
open Go.ChangeShapes Go.WideShapes Go.ChangeAt Go.RowKit
set_option linter.unusedVariables false

theorem Seeds_ok (n : Nat) (w : World) (h0 : 2 ≤ n) (h1 : n ≤ 32) :
    Calls Try.prog 50 #[.int .i64 n] w fun e w' => ∃ v, e = .returned (.tuple #[v, .int .i64 0]) ∧ w'.ownsRow w.heap.size 3 1 v (seedsZ n).length (ints (seedsZ n)) ∧ Below w.heap.size w w' := by
  go_enter Try.func50, Try.ntmps50
  go_wp2_with fail
  refine (Check_ok n w (by omega) (by omega)).mono ?_
  rintro e w' ⟨rfl, rfl⟩
  go_wp2_with fail
  refine (seeds_any n w h0 h1).mono ?_
  rintro e w1 ⟨v, rfl, ho, hb⟩
  have HO := Lib.hid ho
  clear ho
  go_wp2
  go_ret2
  exact ⟨v, rfl, HO.out, hb⟩

theorem brackets_any (w : World) : Calls Try.prog 24 #[] w fun e w' => e = .returned (.bool true) ∧ Below w.heap.size w w' := by
  have hz : seedsZ 2 = [0, 1] := by decide +kernel
  have HS := Lib.hid (Seeds_ok 2 w (by omega) (by omega))
  rw [hz] at HS
  clear hz
  go_enter Try.func24, Try.ntmps24
  go_wp2_with fail
  refine HS.out.mono ?_
  rintro e w1 ⟨v, rfl, ho, hb⟩
  obtain ⟨g, c, rfl⟩ := own_some ho (by simp)
  have c0 : w1.cell? ⟨g, 0, none⟩ = some (.int .i64 0) := ho.cellAt 0 (by simp)
  have c1 : w1.cell? ⟨g, 1, none⟩ = some (.int .i64 1) := ho.cellAt 1 (by simp)
  clear ho
  simp only [List.length_cons, List.length_nil]
  go_wp2
  go_ret
  exact ⟨rfl, hb⟩
end Go.Proofs.Ythddenadehhbdaa
