/- RefereeEarlier: what is decided about an event is the same whatever came later; the first event with something is the first one. For every input, no condition; the tables and variables that the library's texts read start as the program's text lays them (the card ties them). -/
import Derived.Test.YtmabaojkignodaaGreatDoorD40
namespace Go.Proofs.YtmabaojkignodaaGreatDoor.refereeEarlier
open Go.ChangeShapes Go.WideShapes Go.ChangeAt Go.RowKit
set_option linter.unusedVariables false
theorem proved:Rows.RefereeEarlierCardSaid:=
 Claim7.holds_tied_plain_at .later [] [.data,.data,.data,.data,.sentinel,.sentinel,.pinned] true Rows.refereeEarlierCard.stood.harness true
  over (fun _ h=>by cases h) (by kernel_rfl) (fun _ h=>by cases h) refereeEarlier_row_tie rfl ⟨rfl,rfl⟩ (by kernel_rfl) rfl
  (fun f fn hf hfn=>by
   obtain rfl:f=6:=Option.some.inj ((show Tryz.prog.funcNamed "gamehall/gamehallkeep3.RefereeEarlier" = some 6 by kernel_rfl).symm.trans hf) |>.symm
   obtain rfl:fn=Tryz.f6:=(Option.some.inj (Tryz.func6.symm.trans hfn)).symm
   exact ⟨by kernel_rfl,fun j t ht=>by
    rw [Tryz.params6] at ht
    have hm:t∈[49,50,86]:=by simpa using Array.mem_of_getElem? ht
    have hall:([49,50,86].all fun u=>!Tryz.prog.wantsStandIn u)=true:=by kernel_rfl
    exact (show Tryz.prog.wantsStandIn t=false by simpa using List.all_eq_true.1 hall t hm)⟩)
  (by kernel_rfl)
#print axioms proved
end Go.Proofs.YtmabaojkignodaaGreatDoor.refereeEarlier
