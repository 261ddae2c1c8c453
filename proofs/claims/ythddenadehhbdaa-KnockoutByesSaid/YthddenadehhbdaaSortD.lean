/- What slices.Sort at []int does to a slice that the call owns, said. -/
import Derived.Test.YthddenadehhbdaaIntsB
namespace Go.Proofs.Ythddenadehhbdaa
open Go.ChangeShapes Go.WideShapes Go.ChangeAt Go.RowKit
set_option linter.unusedVariables false

def SortPost (b : Nat) (v : Value) (zs : List Int) (w : World) (e : Ending) (w' : World) : Prop :=
  e = .returned (.tuple #[]) ∧ w'.ownsRow b 3 1 v zs.length (ints (zs.mergeSort fun x y => decide (x ≤ y))) ∧ w.grownBy w' v.ownBlock
/-- slices.Sort sorts a slice that the call owns (proved in SortI). -/
def SortSaid : Prop := ∀ (b : Nat) (v : Value) (zs : List Int) (w : World), w.ownsRow b 3 1 v zs.length (ints zs) → zs.length ≤ 1000000 →
    Calls Try.prog 53 #[v] w (SortPost b v zs w)
end Go.Proofs.Ythddenadehhbdaa
