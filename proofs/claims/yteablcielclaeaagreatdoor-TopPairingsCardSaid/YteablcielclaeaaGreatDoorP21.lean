/- match's doAccept. -/
import Derived.Test.YteablcielclaeaaGreatDoorP20
namespace Go.Proofs.YteablcielclaeaaGreatDoor
open Go.ChangeShapes Go.WideShapes Go.ChangeAt Go.RowKit
set_option linter.unusedVariables false
variable {X S:Nat→Prop} {base b:Nat} {M:aP} {B:kM}
end Go.Proofs.YteablcielclaeaaGreatDoor
