/-
  No cell of these rows narrows 'for every input' (looked for: loops, veiled, ifaces, maps, wideKeys, modest, calm, conditions, laid).
  DERIVED. THE GIVEN ROWS OF THIS SEAT. 4 by the template 'for every input the law returns true; each argument reads behind the call as it read before'; 0 by the template 'total and deterministic' (their statements: YtpcllegmdioafaaTotals.lean).
  GIVEN WITH THE SEED: the statements are not yours to turn. If you find one false, say at which input.
  Laid BY PROGRAM, IN A SANDBOX (cutbox-rows.mjs): the forced cells as the released guide's own fill.sh prints them over the translation 8287fbe12e0adacb… (all of the seat's roots in one cut). By AI agents, Wed Nov 11 2026. No macro, syntax, notation, axiom, sorry.
-/
import Derived.Test.YtpcllegmdioafaaChecked
import GoSem.Claim
import GoSem.ClaimJoined
import GoSem.ClaimMapViews
import Derived.JoinedTies
import Derived.KernelRfl
namespace Go.Proofs.Ytpcllegmdioafaa
/- THE CELL 'sum', in the pinned program and in every row, IS THE sha256 OF THE DUMP (.gsa) THAT YtpcllegmdioafaaProg.lean LOADS. Nothing in Lean hashes anything: it is a label: what it is worth is what the hold of that sum in a sandbox is worth. -/
noncomputable def Try.pinned : Pinned := { name := "ytpcllegmdioafaa", sum := "8287fbe12e0adacb00f3451a5509be7096a77e4d822be05f20d64abc08f8966a", checked := Try.checked }
namespace Rows
def none {H : Type} : Left H := { results := [], args := [] }

/-- 'gamehallkeep3.ClockLater': WHATEVER THE INPUT: true; the input reads as it did. -/
def clockLaterSpec : ChangeSpec := { name := "clockLater", fn := fun _ => fun
  | [d1, d2, d3, d4] => { results := [.lit (.bool true)], args := [d1, d2, d3, d4] }
  | _ => none }
def clockLaterRow : OpenClaim := { program := "ytpcllegmdioafaa", sum := "8287fbe12e0adacb00f3451a5509be7096a77e4d822be05f20d64abc08f8966a", func := "gamehall/gamehallkeep3.ClockLater", spec := "clockLater", apart := false }
def ClockLaterSaid : Prop := clockLaterRow.holds Try.pinned (OpenSpec.ofChange clockLaterSpec)

/-- ITS FALSE NEIGHBOUR: 'it returns false'. Refute it at one input. -/
def clockLaterWrong : ChangeSpec := { name := "clockLater", fn := fun _ => fun
  | [d1, d2, d3, d4] => { results := [.lit (.bool false)], args := [d1, d2, d3, d4] }
  | _ => none }
def ClockLaterWrongFalsely : Prop := clockLaterRow.holds Try.pinned (OpenSpec.ofChange clockLaterWrong)

/-- 'gamehallkeep3.ClockDelays': WHATEVER THE INPUT: true; the input reads as it did. -/
def clockDelaysSpec : ChangeSpec := { name := "clockDelays", fn := fun _ => fun
  | [d1, d2, d3, d4] => { results := [.lit (.bool true)], args := [d1, d2, d3, d4] }
  | _ => none }
def clockDelaysRow : OpenClaim := { program := "ytpcllegmdioafaa", sum := "8287fbe12e0adacb00f3451a5509be7096a77e4d822be05f20d64abc08f8966a", func := "gamehall/gamehallkeep3.ClockDelays", spec := "clockDelays", apart := false }
def ClockDelaysSaid : Prop := clockDelaysRow.holds Try.pinned (OpenSpec.ofChange clockDelaysSpec)

/-- ITS FALSE NEIGHBOUR: 'it returns false'. Refute it at one input. -/
def clockDelaysWrong : ChangeSpec := { name := "clockDelays", fn := fun _ => fun
  | [d1, d2, d3, d4] => { results := [.lit (.bool false)], args := [d1, d2, d3, d4] }
  | _ => none }
def ClockDelaysWrongFalsely : Prop := clockDelaysRow.holds Try.pinned (OpenSpec.ofChange clockDelaysWrong)

/-- 'gamehallkeep3.ClockAgain': WHATEVER THE INPUT: true; the input reads as it did. -/
def clockAgainSpec : ChangeSpec := { name := "clockAgain", fn := fun _ => fun
  | [d1, d2, d3] => { results := [.lit (.bool true)], args := [d1, d2, d3] }
  | _ => none }
def clockAgainRow : OpenClaim := { program := "ytpcllegmdioafaa", sum := "8287fbe12e0adacb00f3451a5509be7096a77e4d822be05f20d64abc08f8966a", func := "gamehall/gamehallkeep3.ClockAgain", spec := "clockAgain", apart := false }
def ClockAgainSaid : Prop := clockAgainRow.holds Try.pinned (OpenSpec.ofChange clockAgainSpec)

/-- ITS FALSE NEIGHBOUR: 'it returns false'. Refute it at one input. -/
def clockAgainWrong : ChangeSpec := { name := "clockAgain", fn := fun _ => fun
  | [d1, d2, d3] => { results := [.lit (.bool false)], args := [d1, d2, d3] }
  | _ => none }
def ClockAgainWrongFalsely : Prop := clockAgainRow.holds Try.pinned (OpenSpec.ofChange clockAgainWrong)

/-- 'gamehallkeep3.ClockFalls': WHATEVER THE INPUT: true; the input reads as it did. -/
def clockFallsSpec : ChangeSpec := { name := "clockFalls", fn := fun _ => fun
  | [d1, d2, d3] => { results := [.lit (.bool true)], args := [d1, d2, d3] }
  | _ => none }
def clockFallsRow : OpenClaim := { program := "ytpcllegmdioafaa", sum := "8287fbe12e0adacb00f3451a5509be7096a77e4d822be05f20d64abc08f8966a", func := "gamehall/gamehallkeep3.ClockFalls", spec := "clockFalls", apart := false }
def ClockFallsSaid : Prop := clockFallsRow.holds Try.pinned (OpenSpec.ofChange clockFallsSpec)

/-- ITS FALSE NEIGHBOUR: 'it returns false'. Refute it at one input. -/
def clockFallsWrong : ChangeSpec := { name := "clockFalls", fn := fun _ => fun
  | [d1, d2, d3] => { results := [.lit (.bool false)], args := [d1, d2, d3] }
  | _ => none }
def ClockFallsWrongFalsely : Prop := clockFallsRow.holds Try.pinned (OpenSpec.ofChange clockFallsWrong)

/- THE SECOND FORM. 'bulk': how many values and letters a reading holds, each counted each time it is reached (what is shared counts as often as it is met; a slice's spare places count too). A statement '..UptoSaid' is the law's where the arguments, and the package variables that the reading takes, are together of bulk at most 1048576: NARROWER than '..Said'. Prove '..Said' where nothing that the law and all that it calls make is longer than what came in: it says more and counts as full. Else prove '..UptoSaid'. A law counts once. -/
mutual
def uptoBulk {H : Type} : DataW H → Nat
  | .lit (.string bytes) => bytes.length + 1
  | .lit _ => 1
  | .nil => 1
  | .ptr d => uptoBulk d + 1
  | .slice elems spare => uptoBulkAll elems + uptoBulkAll spare + 1
  | .agg parts => uptoBulkAll parts + 1
  | .iface _ d => uptoBulk d + 1
  | .map entries => uptoBulkEntries entries + 1
  | .held _ => 1
def uptoBulkAll {H : Type} : List (DataW H) → Nat
  | [] => 0
  | d :: r => uptoBulk d + uptoBulkAll r
def uptoBulkEntries {H : Type} : List (Lit × DataW H) → Nat
  | [] => 0
  | x :: r => uptoBulkEntry x + uptoBulkEntries r
def uptoBulkEntry {H : Type} : Lit × DataW H → Nat
  | (.string bytes, d) => bytes.length + uptoBulk d + 1
  | (_, d) => uptoBulk d + 1
 end
def uptoSmall : (H : Type) → List (DataW H) → Bool := fun _ ds => decide (uptoBulkAll ds ≤ 1048576)
def OpenSpec.upto (s : _root_.Go.ChangeSpec) : _root_.Go.OpenSpec := { _root_.Go.OpenSpec.ofChange s with cond := some uptoSmall }

/-- 'gamehallkeep3.ClockLater', WHERE WHAT IT READS IS OF BULK AT MOST 1048576: true; the input reads as it did. -/
def clockLaterUptoRow : OpenClaim := { program := "ytpcllegmdioafaa", sum := "8287fbe12e0adacb00f3451a5509be7096a77e4d822be05f20d64abc08f8966a", func := "gamehall/gamehallkeep3.ClockLater", spec := "clockLater", apart := false, narrowed := true }
def ClockLaterUptoSaid : Prop := clockLaterUptoRow.holds Try.pinned (OpenSpec.upto clockLaterSpec)

/-- 'gamehallkeep3.ClockDelays', WHERE WHAT IT READS IS OF BULK AT MOST 1048576: true; the input reads as it did. -/
def clockDelaysUptoRow : OpenClaim := { program := "ytpcllegmdioafaa", sum := "8287fbe12e0adacb00f3451a5509be7096a77e4d822be05f20d64abc08f8966a", func := "gamehall/gamehallkeep3.ClockDelays", spec := "clockDelays", apart := false, narrowed := true }
def ClockDelaysUptoSaid : Prop := clockDelaysUptoRow.holds Try.pinned (OpenSpec.upto clockDelaysSpec)

/-- 'gamehallkeep3.ClockAgain', WHERE WHAT IT READS IS OF BULK AT MOST 1048576: true; the input reads as it did. -/
def clockAgainUptoRow : OpenClaim := { program := "ytpcllegmdioafaa", sum := "8287fbe12e0adacb00f3451a5509be7096a77e4d822be05f20d64abc08f8966a", func := "gamehall/gamehallkeep3.ClockAgain", spec := "clockAgain", apart := false, narrowed := true }
def ClockAgainUptoSaid : Prop := clockAgainUptoRow.holds Try.pinned (OpenSpec.upto clockAgainSpec)

/-- 'gamehallkeep3.ClockFalls', WHERE WHAT IT READS IS OF BULK AT MOST 1048576: true; the input reads as it did. -/
def clockFallsUptoRow : OpenClaim := { program := "ytpcllegmdioafaa", sum := "8287fbe12e0adacb00f3451a5509be7096a77e4d822be05f20d64abc08f8966a", func := "gamehall/gamehallkeep3.ClockFalls", spec := "clockFalls", apart := false, narrowed := true }
def ClockFallsUptoSaid : Prop := clockFallsUptoRow.holds Try.pinned (OpenSpec.upto clockFallsSpec)

end Rows
end Go.Proofs.Ytpcllegmdioafaa
