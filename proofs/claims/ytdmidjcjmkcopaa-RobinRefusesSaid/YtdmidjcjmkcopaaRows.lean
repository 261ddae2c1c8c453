/-
  No cell of these rows narrows 'for every input' (looked for: loops, veiled, ifaces, maps, wideKeys, modest, calm, conditions, laid).
  DERIVED. THE GIVEN ROWS OF THIS SEAT. 4 by the template 'for every input the law returns true; each argument reads behind the call as it read before'; 0 by the template 'total and deterministic' (their statements: YtdmidjcjmkcopaaTotals.lean).
  GIVEN WITH THE SEED: the statements are not yours to turn. If you find one false, say at which input.
  Laid BY PROGRAM, IN A SANDBOX (cutbox-rows.mjs): the forced cells as the released guide's own fill.sh prints them over the translation d3cc7a8b6aff9c16… (all of the seat's roots in one cut). By AI agents, Wed Nov 11 2026. No macro, syntax, notation, axiom, sorry.
-/
import Derived.Test.YtdmidjcjmkcopaaChecked
import GoSem.Claim
import GoSem.ClaimJoined
import GoSem.ClaimMapViews
import Derived.JoinedTies
import Derived.KernelRfl
namespace Go.Proofs.Ytdmidjcjmkcopaa
/- THE CELL 'sum', in the pinned program and in every row, IS THE sha256 OF THE DUMP (.gsa) THAT YtdmidjcjmkcopaaProg.lean LOADS. Nothing in Lean hashes anything: it is a label: what it is worth is what the hold of that sum in a sandbox is worth. -/
noncomputable def Try.pinned : Pinned := { name := "ytdmidjcjmkcopaa", sum := "d3cc7a8b6aff9c16311acc93dc529ec85e50f71a5d0e54e9cf4cc9434bd629e0", checked := Try.checked }
namespace Rows
def none {H : Type} : Left H := { results := [], args := [] }

/-- 'gamehallkeep3.RobinFair': WHATEVER THE INPUT: true; the input reads as it did. -/
def robinFairSpec : ChangeSpec := { name := "robinFair", fn := fun _ => fun
  | [d1, d2] => { results := [.lit (.bool true)], args := [d1, d2] }
  | _ => none }
def robinFairRow : OpenClaim := { program := "ytdmidjcjmkcopaa", sum := "d3cc7a8b6aff9c16311acc93dc529ec85e50f71a5d0e54e9cf4cc9434bd629e0", func := "gamehall/gamehallkeep3.RobinFair", spec := "robinFair", unfollowed := true, recurses := true, plainKeys := false, apart := false }
def RobinFairSaid : Prop := robinFairRow.holds Try.pinned (OpenSpec.ofChange robinFairSpec)

/-- ITS FALSE NEIGHBOUR: 'it returns false'. Refute it at one input. -/
def robinFairWrong : ChangeSpec := { name := "robinFair", fn := fun _ => fun
  | [d1, d2] => { results := [.lit (.bool false)], args := [d1, d2] }
  | _ => none }
def RobinFairWrongFalsely : Prop := robinFairRow.holds Try.pinned (OpenSpec.ofChange robinFairWrong)

/-- 'gamehallkeep3.RobinRest': WHATEVER THE INPUT: true; the input reads as it did. -/
def robinRestSpec : ChangeSpec := { name := "robinRest", fn := fun _ => fun
  | [d1, d2, d3] => { results := [.lit (.bool true)], args := [d1, d2, d3] }
  | _ => none }
def robinRestRow : OpenClaim := { program := "ytdmidjcjmkcopaa", sum := "d3cc7a8b6aff9c16311acc93dc529ec85e50f71a5d0e54e9cf4cc9434bd629e0", func := "gamehall/gamehallkeep3.RobinRest", spec := "robinRest", unfollowed := true, recurses := true, plainKeys := false, apart := false }
def RobinRestSaid : Prop := robinRestRow.holds Try.pinned (OpenSpec.ofChange robinRestSpec)

/-- ITS FALSE NEIGHBOUR: 'it returns false'. Refute it at one input. -/
def robinRestWrong : ChangeSpec := { name := "robinRest", fn := fun _ => fun
  | [d1, d2, d3] => { results := [.lit (.bool false)], args := [d1, d2, d3] }
  | _ => none }
def RobinRestWrongFalsely : Prop := robinRestRow.holds Try.pinned (OpenSpec.ofChange robinRestWrong)

/-- 'gamehallkeep3.RobinWhole': WHATEVER THE INPUT: true; the input reads as it did. -/
def robinWholeSpec : ChangeSpec := { name := "robinWhole", fn := fun _ => fun
  | [d1, d2] => { results := [.lit (.bool true)], args := [d1, d2] }
  | _ => none }
def robinWholeRow : OpenClaim := { program := "ytdmidjcjmkcopaa", sum := "d3cc7a8b6aff9c16311acc93dc529ec85e50f71a5d0e54e9cf4cc9434bd629e0", func := "gamehall/gamehallkeep3.RobinWhole", spec := "robinWhole", unfollowed := true, recurses := true, plainKeys := false, apart := false }
def RobinWholeSaid : Prop := robinWholeRow.holds Try.pinned (OpenSpec.ofChange robinWholeSpec)

/-- ITS FALSE NEIGHBOUR: 'it returns false'. Refute it at one input. -/
def robinWholeWrong : ChangeSpec := { name := "robinWhole", fn := fun _ => fun
  | [d1, d2] => { results := [.lit (.bool false)], args := [d1, d2] }
  | _ => none }
def RobinWholeWrongFalsely : Prop := robinWholeRow.holds Try.pinned (OpenSpec.ofChange robinWholeWrong)

/-- 'gamehallkeep3.RobinRefuses': WHATEVER THE INPUT: true; the input reads as it did. -/
def robinRefusesSpec : ChangeSpec := { name := "robinRefuses", fn := fun _ => fun
  | [d1, d2, d3] => { results := [.lit (.bool true)], args := [d1, d2, d3] }
  | _ => none }
def robinRefusesRow : OpenClaim := { program := "ytdmidjcjmkcopaa", sum := "d3cc7a8b6aff9c16311acc93dc529ec85e50f71a5d0e54e9cf4cc9434bd629e0", func := "gamehall/gamehallkeep3.RobinRefuses", spec := "robinRefuses", unfollowed := true, recurses := true, plainKeys := false, apart := false }
def RobinRefusesSaid : Prop := robinRefusesRow.holds Try.pinned (OpenSpec.ofChange robinRefusesSpec)

/-- ITS FALSE NEIGHBOUR: 'it returns false'. Refute it at one input. -/
def robinRefusesWrong : ChangeSpec := { name := "robinRefuses", fn := fun _ => fun
  | [d1, d2, d3] => { results := [.lit (.bool false)], args := [d1, d2, d3] }
  | _ => none }
def RobinRefusesWrongFalsely : Prop := robinRefusesRow.holds Try.pinned (OpenSpec.ofChange robinRefusesWrong)

/- THE SECOND FORM. 'bulk': how many values and letters a reading holds, each counted each time it is reached (what is shared counts as often as it is met; a slice's spare places count too). A statement '..UptoSaid' is the law's where the arguments, and the package variables that the reading takes, are together of bulk at most 1048576: NARROWER than '..Said'. Prove '..Said' where nothing that the law and all that it calls make is longer than what came in: it says more and counts as full. Else prove '..UptoSaid'. A law counts once. -/
mutual
def uptoBulk {H : Type} : DataW H → Nat
  | .lit (.string bytes) => bytes.length + 1
  | .lit _ => 1
  | .nil => 1
  | .ptr d => uptoBulk d + 1
  | .slice elems spare => uptoBulkAll elems + uptoBulkAll spare + 1
  | .agg parts => uptoBulkAll parts + 1
  | .iface _ d => uptoBulk d + 1
  | .map entries => uptoBulkEntries entries + 1
  | .held _ => 1
def uptoBulkAll {H : Type} : List (DataW H) → Nat
  | [] => 0
  | d :: r => uptoBulk d + uptoBulkAll r
def uptoBulkEntries {H : Type} : List (Lit × DataW H) → Nat
  | [] => 0
  | x :: r => uptoBulkEntry x + uptoBulkEntries r
def uptoBulkEntry {H : Type} : Lit × DataW H → Nat
  | (.string bytes, d) => bytes.length + uptoBulk d + 1
  | (_, d) => uptoBulk d + 1
 end
def uptoSmall : (H : Type) → List (DataW H) → Bool := fun _ ds => decide (uptoBulkAll ds ≤ 1048576)
def OpenSpec.upto (s : _root_.Go.ChangeSpec) : _root_.Go.OpenSpec := { _root_.Go.OpenSpec.ofChange s with cond := some uptoSmall }

/-- 'gamehallkeep3.RobinFair', WHERE WHAT IT READS IS OF BULK AT MOST 1048576: true; the input reads as it did. -/
def robinFairUptoRow : OpenClaim := { program := "ytdmidjcjmkcopaa", sum := "d3cc7a8b6aff9c16311acc93dc529ec85e50f71a5d0e54e9cf4cc9434bd629e0", func := "gamehall/gamehallkeep3.RobinFair", spec := "robinFair", unfollowed := true, recurses := true, plainKeys := false, apart := false, narrowed := true }
def RobinFairUptoSaid : Prop := robinFairUptoRow.holds Try.pinned (OpenSpec.upto robinFairSpec)

/-- 'gamehallkeep3.RobinRest', WHERE WHAT IT READS IS OF BULK AT MOST 1048576: true; the input reads as it did. -/
def robinRestUptoRow : OpenClaim := { program := "ytdmidjcjmkcopaa", sum := "d3cc7a8b6aff9c16311acc93dc529ec85e50f71a5d0e54e9cf4cc9434bd629e0", func := "gamehall/gamehallkeep3.RobinRest", spec := "robinRest", unfollowed := true, recurses := true, plainKeys := false, apart := false, narrowed := true }
def RobinRestUptoSaid : Prop := robinRestUptoRow.holds Try.pinned (OpenSpec.upto robinRestSpec)

/-- 'gamehallkeep3.RobinWhole', WHERE WHAT IT READS IS OF BULK AT MOST 1048576: true; the input reads as it did. -/
def robinWholeUptoRow : OpenClaim := { program := "ytdmidjcjmkcopaa", sum := "d3cc7a8b6aff9c16311acc93dc529ec85e50f71a5d0e54e9cf4cc9434bd629e0", func := "gamehall/gamehallkeep3.RobinWhole", spec := "robinWhole", unfollowed := true, recurses := true, plainKeys := false, apart := false, narrowed := true }
def RobinWholeUptoSaid : Prop := robinWholeUptoRow.holds Try.pinned (OpenSpec.upto robinWholeSpec)

/-- 'gamehallkeep3.RobinRefuses', WHERE WHAT IT READS IS OF BULK AT MOST 1048576: true; the input reads as it did. -/
def robinRefusesUptoRow : OpenClaim := { program := "ytdmidjcjmkcopaa", sum := "d3cc7a8b6aff9c16311acc93dc529ec85e50f71a5d0e54e9cf4cc9434bd629e0", func := "gamehall/gamehallkeep3.RobinRefuses", spec := "robinRefuses", unfollowed := true, recurses := true, plainKeys := false, apart := false, narrowed := true }
def RobinRefusesUptoSaid : Prop := robinRefusesUptoRow.holds Try.pinned (OpenSpec.upto robinRefusesSpec)

end Rows
end Go.Proofs.Ytdmidjcjmkcopaa
