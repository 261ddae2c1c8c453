/- TopRatings: the games of a whole schedule keep all rating points, and the table has all points. For every input, no condition; the tables and variables that the library's texts read start as the program's text lays them (the card ties them). -/
import Derived.Test.YteablcielclaeaaGreatDoorC42
namespace Go.Proofs.YteablcielclaeaaGreatDoor.topRatings
open Go.ChangeShapes Go.WideShapes Go.ChangeAt Go.RowKit
set_option linter.unusedVariables false
theorem proved:Rows.TopRatingsCardSaid:=
 Claim7.holds_tied_plain_at .later [] [.data,.data,.data] true Rows.topRatingsCard.stood.harness false
  over (fun _ h=>by cases h) (by kernel_rfl) (fun _ h=>by cases h) topRatings_row_tie rfl ⟨rfl,rfl⟩ (by kernel_rfl) rfl
  (fun f fn hf hfn=>by
   obtain rfl:f=3:=Option.some.inj ((show Tryz.prog.funcNamed "gamehall/gamehalltop.TopRatings" = some 3 by kernel_rfl).symm.trans hf) |>.symm
   obtain rfl:fn=Tryz.f3:=(Option.some.inj (Tryz.func3.symm.trans hfn)).symm
   exact ⟨by kernel_rfl,fun j t ht=>by
    rw [Tryz.params3] at ht
    have hm:t∈[22,22,3]:=by simpa using Array.mem_of_getElem? ht
    have hall:([22,22,3].all fun u=>!Tryz.prog.wantsStandIn u)=true:=by kernel_rfl
    exact (show Tryz.prog.wantsStandIn t=false by simpa using List.all_eq_true.1 hall t hm)⟩)
  (by kernel_rfl)
#print axioms proved
end Go.Proofs.YteablcielclaeaaGreatDoor.topRatings
