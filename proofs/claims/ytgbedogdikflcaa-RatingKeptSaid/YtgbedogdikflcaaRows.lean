/-
  No cell of these rows narrows 'for every input' (looked for: loops, veiled, ifaces, maps, wideKeys, modest, calm, conditions, laid).
  DERIVED. THE GIVEN ROWS OF THIS SEAT. 3 by the template 'for every input the law returns true; each argument reads behind the call as it read before'; 0 by the template 'total and deterministic' (their statements: YtgbedogdikflcaaTotals.lean).
  GIVEN WITH THE SEED: the statements are not yours to turn. If you find one false, say at which input.
  Laid BY PROGRAM, IN A SANDBOX (cutbox-rows.mjs): the forced cells as the released guide's own fill.sh prints them over the translation 3fca52674dfff759… (all of the seat's roots in one cut). By AI agents, Wed Nov 11 2026. No macro, syntax, notation, axiom, sorry.
-/
import Derived.Test.YtgbedogdikflcaaChecked
import GoSem.Claim
import GoSem.ClaimJoined
import GoSem.ClaimMapViews
import Derived.JoinedTies
import Derived.KernelRfl
namespace Go.Proofs.Ytgbedogdikflcaa
/- THE CELL 'sum', in the pinned program and in every row, IS THE sha256 OF THE DUMP (.gsa) THAT YtgbedogdikflcaaProg.lean LOADS. Nothing in Lean hashes anything: it is a label: what it is worth is what the hold of that sum in a sandbox is worth. -/
noncomputable def Try.pinned : Pinned := { name := "ytgbedogdikflcaa", sum := "3fca52674dfff75910962071b7311d3be455a43744b9edc9297e6e94b8e8acfc", checked := Try.checked }
namespace Rows
def none {H : Type} : Left H := { results := [], args := [] }

/-- 'gamehallkeep3.RatingTurns': WHATEVER THE INPUT: true; the input reads as it did. -/
def ratingTurnsSpec : ChangeSpec := { name := "ratingTurns", fn := fun _ => fun
  | [d1, d2, d3, d4, d5] => { results := [.lit (.bool true)], args := [d1, d2, d3, d4, d5] }
  | _ => none }
def ratingTurnsRow : OpenClaim := { program := "ytgbedogdikflcaa", sum := "3fca52674dfff75910962071b7311d3be455a43744b9edc9297e6e94b8e8acfc", func := "gamehall/gamehallkeep3.RatingTurns", spec := "ratingTurns", apart := false }
def RatingTurnsSaid : Prop := ratingTurnsRow.holds Try.pinned (OpenSpec.ofChange ratingTurnsSpec)

/-- ITS FALSE NEIGHBOUR: 'it returns false'. Refute it at one input. -/
def ratingTurnsWrong : ChangeSpec := { name := "ratingTurns", fn := fun _ => fun
  | [d1, d2, d3, d4, d5] => { results := [.lit (.bool false)], args := [d1, d2, d3, d4, d5] }
  | _ => none }
def RatingTurnsWrongFalsely : Prop := ratingTurnsRow.holds Try.pinned (OpenSpec.ofChange ratingTurnsWrong)

/-- 'gamehallkeep3.RatingParts': WHATEVER THE INPUT: true; the input reads as it did. -/
def ratingPartsSpec : ChangeSpec := { name := "ratingParts", fn := fun _ => fun
  | [d1, d2, d3, d4] => { results := [.lit (.bool true)], args := [d1, d2, d3, d4] }
  | _ => none }
def ratingPartsRow : OpenClaim := { program := "ytgbedogdikflcaa", sum := "3fca52674dfff75910962071b7311d3be455a43744b9edc9297e6e94b8e8acfc", func := "gamehall/gamehallkeep3.RatingParts", spec := "ratingParts", unfollowed := true, recurses := true, apart := false }
def RatingPartsSaid : Prop := ratingPartsRow.holds Try.pinned (OpenSpec.ofChange ratingPartsSpec)

/-- ITS FALSE NEIGHBOUR: 'it returns false'. Refute it at one input. -/
def ratingPartsWrong : ChangeSpec := { name := "ratingParts", fn := fun _ => fun
  | [d1, d2, d3, d4] => { results := [.lit (.bool false)], args := [d1, d2, d3, d4] }
  | _ => none }
def RatingPartsWrongFalsely : Prop := ratingPartsRow.holds Try.pinned (OpenSpec.ofChange ratingPartsWrong)

/-- 'gamehallkeep3.RatingKept': WHATEVER THE INPUT: true; the input reads as it did. -/
def ratingKeptSpec : ChangeSpec := { name := "ratingKept", fn := fun _ => fun
  | [d1, d2, d3] => { results := [.lit (.bool true)], args := [d1, d2, d3] }
  | _ => none }
def ratingKeptRow : OpenClaim := { program := "ytgbedogdikflcaa", sum := "3fca52674dfff75910962071b7311d3be455a43744b9edc9297e6e94b8e8acfc", func := "gamehall/gamehallkeep3.RatingKept", spec := "ratingKept", unfollowed := true, recurses := true, apart := false }
def RatingKeptSaid : Prop := ratingKeptRow.holds Try.pinned (OpenSpec.ofChange ratingKeptSpec)

/-- ITS FALSE NEIGHBOUR: 'it returns false'. Refute it at one input. -/
def ratingKeptWrong : ChangeSpec := { name := "ratingKept", fn := fun _ => fun
  | [d1, d2, d3] => { results := [.lit (.bool false)], args := [d1, d2, d3] }
  | _ => none }
def RatingKeptWrongFalsely : Prop := ratingKeptRow.holds Try.pinned (OpenSpec.ofChange ratingKeptWrong)

/- THE SECOND FORM. 'bulk': how many values and letters a reading holds, each counted each time it is reached (what is shared counts as often as it is met; a slice's spare places count too). A statement '..UptoSaid' is the law's where the arguments, and the package variables that the reading takes, are together of bulk at most 1048576: NARROWER than '..Said'. Prove '..Said' where nothing that the law and all that it calls make is longer than what came in: it says more and counts as full. Else prove '..UptoSaid'. A law counts once. -/
mutual
def uptoBulk {H : Type} : DataW H → Nat
  | .lit (.string bytes) => bytes.length + 1
  | .lit _ => 1
  | .nil => 1
  | .ptr d => uptoBulk d + 1
  | .slice elems spare => uptoBulkAll elems + uptoBulkAll spare + 1
  | .agg parts => uptoBulkAll parts + 1
  | .iface _ d => uptoBulk d + 1
  | .map entries => uptoBulkEntries entries + 1
  | .held _ => 1
def uptoBulkAll {H : Type} : List (DataW H) → Nat
  | [] => 0
  | d :: r => uptoBulk d + uptoBulkAll r
def uptoBulkEntries {H : Type} : List (Lit × DataW H) → Nat
  | [] => 0
  | x :: r => uptoBulkEntry x + uptoBulkEntries r
def uptoBulkEntry {H : Type} : Lit × DataW H → Nat
  | (.string bytes, d) => bytes.length + uptoBulk d + 1
  | (_, d) => uptoBulk d + 1
 end
def uptoSmall : (H : Type) → List (DataW H) → Bool := fun _ ds => decide (uptoBulkAll ds ≤ 1048576)
def OpenSpec.upto (s : _root_.Go.ChangeSpec) : _root_.Go.OpenSpec := { _root_.Go.OpenSpec.ofChange s with cond := some uptoSmall }

/-- 'gamehallkeep3.RatingTurns', WHERE WHAT IT READS IS OF BULK AT MOST 1048576: true; the input reads as it did. -/
def ratingTurnsUptoRow : OpenClaim := { program := "ytgbedogdikflcaa", sum := "3fca52674dfff75910962071b7311d3be455a43744b9edc9297e6e94b8e8acfc", func := "gamehall/gamehallkeep3.RatingTurns", spec := "ratingTurns", apart := false, narrowed := true }
def RatingTurnsUptoSaid : Prop := ratingTurnsUptoRow.holds Try.pinned (OpenSpec.upto ratingTurnsSpec)

/-- 'gamehallkeep3.RatingParts', WHERE WHAT IT READS IS OF BULK AT MOST 1048576: true; the input reads as it did. -/
def ratingPartsUptoRow : OpenClaim := { program := "ytgbedogdikflcaa", sum := "3fca52674dfff75910962071b7311d3be455a43744b9edc9297e6e94b8e8acfc", func := "gamehall/gamehallkeep3.RatingParts", spec := "ratingParts", unfollowed := true, recurses := true, apart := false, narrowed := true }
def RatingPartsUptoSaid : Prop := ratingPartsUptoRow.holds Try.pinned (OpenSpec.upto ratingPartsSpec)

/-- 'gamehallkeep3.RatingKept', WHERE WHAT IT READS IS OF BULK AT MOST 1048576: true; the input reads as it did. -/
def ratingKeptUptoRow : OpenClaim := { program := "ytgbedogdikflcaa", sum := "3fca52674dfff75910962071b7311d3be455a43744b9edc9297e6e94b8e8acfc", func := "gamehall/gamehallkeep3.RatingKept", spec := "ratingKept", unfollowed := true, recurses := true, apart := false, narrowed := true }
def RatingKeptUptoSaid : Prop := ratingKeptUptoRow.holds Try.pinned (OpenSpec.upto ratingKeptSpec)

end Rows
end Go.Proofs.Ytgbedogdikflcaa
