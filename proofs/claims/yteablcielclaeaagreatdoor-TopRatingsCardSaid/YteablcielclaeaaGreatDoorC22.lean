/- match's doAccept. -/
import Derived.Test.YteablcielclaeaaGreatDoorC21
namespace Go.Proofs.YteablcielclaeaaGreatDoor
open Go.ChangeShapes Go.WideShapes Go.ChangeAt Go.RowKit
set_option linter.unusedVariables false
variable {X S:Nat→Prop} {base b:Nat} {M:aO} {B:mg}
end Go.Proofs.YteablcielclaeaaGreatDoor
