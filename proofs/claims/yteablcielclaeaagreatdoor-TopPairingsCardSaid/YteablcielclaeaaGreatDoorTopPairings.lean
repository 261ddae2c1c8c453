/- TopPairings: a tournament by scores never pairs two players twice; all points are given; the table, a bracket and a schedule agree on the players. For every input, no condition; the tables and variables that the library's texts read start as the program's text lays them (the card ties them). -/
import Derived.Test.YteablcielclaeaaGreatDoorP45
namespace Go.Proofs.YteablcielclaeaaGreatDoor.topPairings
open Go.ChangeShapes Go.WideShapes Go.ChangeAt Go.RowKit
set_option linter.unusedVariables false
theorem proved:Rows.TopPairingsCardSaid:=
 Claim7.holds_tied_plain_at .later [] [.data,.data,.data] true Rows.topPairingsCard.stood.harness false
  over (fun _ h=>by cases h) (by kernel_rfl) (fun _ h=>by cases h) topPairings_row_tie rfl ⟨rfl,rfl⟩ (by kernel_rfl) rfl
  (fun f fn hf hfn=>by
   obtain rfl:f=4:=Option.some.inj ((show Tryz.prog.funcNamed "gamehall/gamehalltop.TopPairings" = some 4 by kernel_rfl).symm.trans hf) |>.symm
   obtain rfl:fn=Tryz.f4:=(Option.some.inj (Tryz.func4.symm.trans hfn)).symm
   exact ⟨by kernel_rfl,fun j t ht=>by
    rw [Tryz.params4] at ht
    have hm:t∈[3,22]:=by simpa using Array.mem_of_getElem? ht
    have hall:([3,22].all fun u=>!Tryz.prog.wantsStandIn u)=true:=by kernel_rfl
    exact (show Tryz.prog.wantsStandIn t=false by simpa using List.all_eq_true.1 hall t hm)⟩)
  (by kernel_rfl)
#print axioms proved
end Go.Proofs.YteablcielclaeaaGreatDoor.topPairings
