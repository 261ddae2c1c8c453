/-
  No cell of these rows narrows 'for every input' (looked for: loops, veiled, ifaces, maps, wideKeys, modest, calm, conditions, laid).
  DERIVED. THE GIVEN ROWS OF THIS SEAT. 12 by the template 'for every input the law returns true; each argument reads behind the call as it read before'; 0 by the template 'total and deterministic' (their statements: YtkfaibdflbdpgaaTotals.lean).
  GIVEN WITH THE SEED: the statements are not yours to turn. If you find one false, say at which input.
  Laid BY PROGRAM, IN A SANDBOX (cutbox-rows.mjs): the forced cells as the released guide's own fill.sh prints them over the translation 3d7009c88f3ad78f… (all of the seat's roots in one cut). By AI agents, Wed Nov 11 2026. No macro, syntax, notation, axiom, sorry.
-/
import Derived.Test.YtkfaibdflbdpgaaChecked
import GoSem.Claim
import GoSem.ClaimJoined
import GoSem.ClaimMapViews
import Derived.JoinedTies
import Derived.KernelRfl
namespace Go.Proofs.Ytkfaibdflbdpgaa
/- THE CELL 'sum', in the pinned program and in every row, IS THE sha256 OF THE DUMP (.gsa) THAT YtkfaibdflbdpgaaProg.lean LOADS. Nothing in Lean hashes anything: it is a label: what it is worth is what the hold of that sum in a sandbox is worth. -/
noncomputable def Try.pinned : Pinned := { name := "ytkfaibdflbdpgaa", sum := "3d7009c88f3ad78f49d53b53858feb01a68568a4660f9afbb4c78a5902fd7d5e", checked := Try.checked }
namespace Rows
def none {H : Type} : Left H := { results := [], args := [] }

/-- 'gamehalltop.TopUndo': WHATEVER THE INPUT: true; the input reads as it did. -/
def topUndoSpec : ChangeSpec := { name := "topUndo", fn := fun _ => fun
  | [d1, d2, d3] => { results := [.lit (.bool true)], args := [d1, d2, d3] }
  | _ => none }
def topUndoRow : OpenClaim := { program := "ytkfaibdflbdpgaa", sum := "3d7009c88f3ad78f49d53b53858feb01a68568a4660f9afbb4c78a5902fd7d5e", func := "gamehall/gamehalltop.TopUndo", spec := "topUndo", unfollowed := true, recurses := true, apart := false }
def TopUndoSaid : Prop := topUndoRow.holds Try.pinned (OpenSpec.ofChange topUndoSpec)

/-- ITS FALSE NEIGHBOUR: 'it returns false'. Refute it at one input. -/
def topUndoWrong : ChangeSpec := { name := "topUndo", fn := fun _ => fun
  | [d1, d2, d3] => { results := [.lit (.bool false)], args := [d1, d2, d3] }
  | _ => none }
def TopUndoWrongFalsely : Prop := topUndoRow.holds Try.pinned (OpenSpec.ofChange topUndoWrong)

/-- 'gamehallkeep3.MovetextAlone': WHATEVER THE INPUT: true; the input reads as it did. -/
def movetextAloneSpec : ChangeSpec := { name := "movetextAlone", fn := fun _ => fun
  | [d1, d2] => { results := [.lit (.bool true)], args := [d1, d2] }
  | _ => none }
def movetextAloneRow : OpenClaim := { program := "ytkfaibdflbdpgaa", sum := "3d7009c88f3ad78f49d53b53858feb01a68568a4660f9afbb4c78a5902fd7d5e", func := "gamehall/gamehallkeep3.MovetextAlone", spec := "movetextAlone", unfollowed := true, recurses := true, apart := false }
def MovetextAloneSaid : Prop := movetextAloneRow.holds Try.pinned (OpenSpec.ofChange movetextAloneSpec)

/-- ITS FALSE NEIGHBOUR: 'it returns false'. Refute it at one input. -/
def movetextAloneWrong : ChangeSpec := { name := "movetextAlone", fn := fun _ => fun
  | [d1, d2] => { results := [.lit (.bool false)], args := [d1, d2] }
  | _ => none }
def MovetextAloneWrongFalsely : Prop := movetextAloneRow.holds Try.pinned (OpenSpec.ofChange movetextAloneWrong)

/-- 'gamehallkeep3.ClaimSteps': WHATEVER THE INPUT: true; the input reads as it did. -/
def claimStepsSpec : ChangeSpec := { name := "claimSteps", fn := fun _ => fun
  | [d1, d2] => { results := [.lit (.bool true)], args := [d1, d2] }
  | _ => none }
def claimStepsRow : OpenClaim := { program := "ytkfaibdflbdpgaa", sum := "3d7009c88f3ad78f49d53b53858feb01a68568a4660f9afbb4c78a5902fd7d5e", func := "gamehall/gamehallkeep3.ClaimSteps", spec := "claimSteps", unfollowed := true, recurses := true, apart := false }
def ClaimStepsSaid : Prop := claimStepsRow.holds Try.pinned (OpenSpec.ofChange claimStepsSpec)

/-- ITS FALSE NEIGHBOUR: 'it returns false'. Refute it at one input. -/
def claimStepsWrong : ChangeSpec := { name := "claimSteps", fn := fun _ => fun
  | [d1, d2] => { results := [.lit (.bool false)], args := [d1, d2] }
  | _ => none }
def ClaimStepsWrongFalsely : Prop := claimStepsRow.holds Try.pinned (OpenSpec.ofChange claimStepsWrong)

/-- 'gamehallkeep3.PremoveClears': WHATEVER THE INPUT: true; the input reads as it did. -/
def premoveClearsSpec : ChangeSpec := { name := "premoveClears", fn := fun _ => fun
  | [d1, d2, d3] => { results := [.lit (.bool true)], args := [d1, d2, d3] }
  | _ => none }
def premoveClearsRow : OpenClaim := { program := "ytkfaibdflbdpgaa", sum := "3d7009c88f3ad78f49d53b53858feb01a68568a4660f9afbb4c78a5902fd7d5e", func := "gamehall/gamehallkeep3.PremoveClears", spec := "premoveClears", unfollowed := true, recurses := true, apart := false }
def PremoveClearsSaid : Prop := premoveClearsRow.holds Try.pinned (OpenSpec.ofChange premoveClearsSpec)

/-- ITS FALSE NEIGHBOUR: 'it returns false'. Refute it at one input. -/
def premoveClearsWrong : ChangeSpec := { name := "premoveClears", fn := fun _ => fun
  | [d1, d2, d3] => { results := [.lit (.bool false)], args := [d1, d2, d3] }
  | _ => none }
def PremoveClearsWrongFalsely : Prop := premoveClearsRow.holds Try.pinned (OpenSpec.ofChange premoveClearsWrong)

/-- 'gamehallkeep3.PremovePlays': WHATEVER THE INPUT: true; the input reads as it did. -/
def premovePlaysSpec : ChangeSpec := { name := "premovePlays", fn := fun _ => fun
  | [d1, d2, d3] => { results := [.lit (.bool true)], args := [d1, d2, d3] }
  | _ => none }
def premovePlaysRow : OpenClaim := { program := "ytkfaibdflbdpgaa", sum := "3d7009c88f3ad78f49d53b53858feb01a68568a4660f9afbb4c78a5902fd7d5e", func := "gamehall/gamehallkeep3.PremovePlays", spec := "premovePlays", unfollowed := true, recurses := true, apart := false }
def PremovePlaysSaid : Prop := premovePlaysRow.holds Try.pinned (OpenSpec.ofChange premovePlaysSpec)

/-- ITS FALSE NEIGHBOUR: 'it returns false'. Refute it at one input. -/
def premovePlaysWrong : ChangeSpec := { name := "premovePlays", fn := fun _ => fun
  | [d1, d2, d3] => { results := [.lit (.bool false)], args := [d1, d2, d3] }
  | _ => none }
def PremovePlaysWrongFalsely : Prop := premovePlaysRow.holds Try.pinned (OpenSpec.ofChange premovePlaysWrong)

/-- 'gamehallkeep3.ClaimWins': WHATEVER THE INPUT: true; the input reads as it did. -/
def claimWinsSpec : ChangeSpec := { name := "claimWins", fn := fun _ => fun
  | [d1, d2] => { results := [.lit (.bool true)], args := [d1, d2] }
  | _ => none }
def claimWinsRow : OpenClaim := { program := "ytkfaibdflbdpgaa", sum := "3d7009c88f3ad78f49d53b53858feb01a68568a4660f9afbb4c78a5902fd7d5e", func := "gamehall/gamehallkeep3.ClaimWins", spec := "claimWins", unfollowed := true, recurses := true, apart := false }
def ClaimWinsSaid : Prop := claimWinsRow.holds Try.pinned (OpenSpec.ofChange claimWinsSpec)

/-- ITS FALSE NEIGHBOUR: 'it returns false'. Refute it at one input. -/
def claimWinsWrong : ChangeSpec := { name := "claimWins", fn := fun _ => fun
  | [d1, d2] => { results := [.lit (.bool false)], args := [d1, d2] }
  | _ => none }
def ClaimWinsWrongFalsely : Prop := claimWinsRow.holds Try.pinned (OpenSpec.ofChange claimWinsWrong)

/-- 'gamehallkeep3.PatternMore': WHATEVER THE INPUT: true; the input reads as it did. -/
def patternMoreSpec : ChangeSpec := { name := "patternMore", fn := fun _ => fun
  | [d1, d2, d3, d4] => { results := [.lit (.bool true)], args := [d1, d2, d3, d4] }
  | _ => none }
def patternMoreRow : OpenClaim := { program := "ytkfaibdflbdpgaa", sum := "3d7009c88f3ad78f49d53b53858feb01a68568a4660f9afbb4c78a5902fd7d5e", func := "gamehall/gamehallkeep3.PatternMore", spec := "patternMore", unfollowed := true, recurses := true, apart := false }
def PatternMoreSaid : Prop := patternMoreRow.holds Try.pinned (OpenSpec.ofChange patternMoreSpec)

/-- ITS FALSE NEIGHBOUR: 'it returns false'. Refute it at one input. -/
def patternMoreWrong : ChangeSpec := { name := "patternMore", fn := fun _ => fun
  | [d1, d2, d3, d4] => { results := [.lit (.bool false)], args := [d1, d2, d3, d4] }
  | _ => none }
def PatternMoreWrongFalsely : Prop := patternMoreRow.holds Try.pinned (OpenSpec.ofChange patternMoreWrong)

/-- 'gamehallkeep3.MovetextParts': WHATEVER THE INPUT: true; the input reads as it did. -/
def movetextPartsSpec : ChangeSpec := { name := "movetextParts", fn := fun _ => fun
  | [d1, d2, d3] => { results := [.lit (.bool true)], args := [d1, d2, d3] }
  | _ => none }
def movetextPartsRow : OpenClaim := { program := "ytkfaibdflbdpgaa", sum := "3d7009c88f3ad78f49d53b53858feb01a68568a4660f9afbb4c78a5902fd7d5e", func := "gamehall/gamehallkeep3.MovetextParts", spec := "movetextParts", inPlace := ["internal/abi.NoEscape", "internal/bytealg.MakeNoZero"], unfollowed := true, recurses := true, apart := false }
def MovetextPartsSaid : Prop := movetextPartsRow.holds Try.pinned (OpenSpec.ofChange movetextPartsSpec)

/-- ITS FALSE NEIGHBOUR: 'it returns false'. Refute it at one input. -/
def movetextPartsWrong : ChangeSpec := { name := "movetextParts", fn := fun _ => fun
  | [d1, d2, d3] => { results := [.lit (.bool false)], args := [d1, d2, d3] }
  | _ => none }
def MovetextPartsWrongFalsely : Prop := movetextPartsRow.holds Try.pinned (OpenSpec.ofChange movetextPartsWrong)

/-- 'gamehallkeep3.BookTwice': WHATEVER THE INPUT: true; the input reads as it did. -/
def bookTwiceSpec : ChangeSpec := { name := "bookTwice", fn := fun _ => fun
  | [d1, d2, d3, d4] => { results := [.lit (.bool true)], args := [d1, d2, d3, d4] }
  | _ => none }
def bookTwiceRow : OpenClaim := { program := "ytkfaibdflbdpgaa", sum := "3d7009c88f3ad78f49d53b53858feb01a68568a4660f9afbb4c78a5902fd7d5e", func := "gamehall/gamehallkeep3.BookTwice", spec := "bookTwice", inPlace := ["slices.overlaps[gamehall/api.BookEntry]"], unfollowed := true, recurses := true, apart := false }
def BookTwiceSaid : Prop := bookTwiceRow.holds Try.pinned (OpenSpec.ofChange bookTwiceSpec)

/-- ITS FALSE NEIGHBOUR: 'it returns false'. Refute it at one input. -/
def bookTwiceWrong : ChangeSpec := { name := "bookTwice", fn := fun _ => fun
  | [d1, d2, d3, d4] => { results := [.lit (.bool false)], args := [d1, d2, d3, d4] }
  | _ => none }
def BookTwiceWrongFalsely : Prop := bookTwiceRow.holds Try.pinned (OpenSpec.ofChange bookTwiceWrong)

/-- 'gamehallkeep3.BookOrder': WHATEVER THE INPUT: true; the input reads as it did. -/
def bookOrderSpec : ChangeSpec := { name := "bookOrder", fn := fun _ => fun
  | [d1, d2] => { results := [.lit (.bool true)], args := [d1, d2] }
  | _ => none }
def bookOrderRow : OpenClaim := { program := "ytkfaibdflbdpgaa", sum := "3d7009c88f3ad78f49d53b53858feb01a68568a4660f9afbb4c78a5902fd7d5e", func := "gamehall/gamehallkeep3.BookOrder", spec := "bookOrder", inPlace := ["slices.overlaps[gamehall/api.BookEntry]"], unfollowed := true, recurses := true, apart := false }
def BookOrderSaid : Prop := bookOrderRow.holds Try.pinned (OpenSpec.ofChange bookOrderSpec)

/-- ITS FALSE NEIGHBOUR: 'it returns false'. Refute it at one input. -/
def bookOrderWrong : ChangeSpec := { name := "bookOrder", fn := fun _ => fun
  | [d1, d2] => { results := [.lit (.bool false)], args := [d1, d2] }
  | _ => none }
def BookOrderWrongFalsely : Prop := bookOrderRow.holds Try.pinned (OpenSpec.ofChange bookOrderWrong)

/-- 'gamehallkeep3.BookFollows': WHATEVER THE INPUT: true; the input reads as it did. -/
def bookFollowsSpec : ChangeSpec := { name := "bookFollows", fn := fun _ => fun
  | [d1, d2, d3] => { results := [.lit (.bool true)], args := [d1, d2, d3] }
  | _ => none }
def bookFollowsRow : OpenClaim := { program := "ytkfaibdflbdpgaa", sum := "3d7009c88f3ad78f49d53b53858feb01a68568a4660f9afbb4c78a5902fd7d5e", func := "gamehall/gamehallkeep3.BookFollows", spec := "bookFollows", inPlace := ["slices.overlaps[gamehall/api.BookEntry]"], unfollowed := true, recurses := true, apart := false }
def BookFollowsSaid : Prop := bookFollowsRow.holds Try.pinned (OpenSpec.ofChange bookFollowsSpec)

/-- ITS FALSE NEIGHBOUR: 'it returns false'. Refute it at one input. -/
def bookFollowsWrong : ChangeSpec := { name := "bookFollows", fn := fun _ => fun
  | [d1, d2, d3] => { results := [.lit (.bool false)], args := [d1, d2, d3] }
  | _ => none }
def BookFollowsWrongFalsely : Prop := bookFollowsRow.holds Try.pinned (OpenSpec.ofChange bookFollowsWrong)

/-- 'gamehallkeep3.BookDraws': WHATEVER THE INPUT: true; the input reads as it did. -/
def bookDrawsSpec : ChangeSpec := { name := "bookDraws", fn := fun _ => fun
  | [d1, d2, d3] => { results := [.lit (.bool true)], args := [d1, d2, d3] }
  | _ => none }
def bookDrawsRow : OpenClaim := { program := "ytkfaibdflbdpgaa", sum := "3d7009c88f3ad78f49d53b53858feb01a68568a4660f9afbb4c78a5902fd7d5e", func := "gamehall/gamehallkeep3.BookDraws", spec := "bookDraws", inPlace := ["slices.overlaps[gamehall/api.BookEntry]"], unfollowed := true, recurses := true, apart := false }
def BookDrawsSaid : Prop := bookDrawsRow.holds Try.pinned (OpenSpec.ofChange bookDrawsSpec)

/-- ITS FALSE NEIGHBOUR: 'it returns false'. Refute it at one input. -/
def bookDrawsWrong : ChangeSpec := { name := "bookDraws", fn := fun _ => fun
  | [d1, d2, d3] => { results := [.lit (.bool false)], args := [d1, d2, d3] }
  | _ => none }
def BookDrawsWrongFalsely : Prop := bookDrawsRow.holds Try.pinned (OpenSpec.ofChange bookDrawsWrong)

/- THE SECOND FORM. 'bulk': how many values and letters a reading holds, each counted each time it is reached (what is shared counts as often as it is met; a slice's spare places count too). A statement '..UptoSaid' is the law's where the arguments, and the package variables that the reading takes, are together of bulk at most 1048576: NARROWER than '..Said'. Prove '..Said' where nothing that the law and all that it calls make is longer than what came in: it says more and counts as full. Else prove '..UptoSaid'. A law counts once. -/
mutual
def uptoBulk {H : Type} : DataW H → Nat
  | .lit (.string bytes) => bytes.length + 1
  | .lit _ => 1
  | .nil => 1
  | .ptr d => uptoBulk d + 1
  | .slice elems spare => uptoBulkAll elems + uptoBulkAll spare + 1
  | .agg parts => uptoBulkAll parts + 1
  | .iface _ d => uptoBulk d + 1
  | .map entries => uptoBulkEntries entries + 1
  | .held _ => 1
def uptoBulkAll {H : Type} : List (DataW H) → Nat
  | [] => 0
  | d :: r => uptoBulk d + uptoBulkAll r
def uptoBulkEntries {H : Type} : List (Lit × DataW H) → Nat
  | [] => 0
  | x :: r => uptoBulkEntry x + uptoBulkEntries r
def uptoBulkEntry {H : Type} : Lit × DataW H → Nat
  | (.string bytes, d) => bytes.length + uptoBulk d + 1
  | (_, d) => uptoBulk d + 1
 end
def uptoSmall : (H : Type) → List (DataW H) → Bool := fun _ ds => decide (uptoBulkAll ds ≤ 1048576)
def OpenSpec.upto (s : _root_.Go.ChangeSpec) : _root_.Go.OpenSpec := { _root_.Go.OpenSpec.ofChange s with cond := some uptoSmall }

/-- 'gamehalltop.TopUndo', WHERE WHAT IT READS IS OF BULK AT MOST 1048576: true; the input reads as it did. -/
def topUndoUptoRow : OpenClaim := { program := "ytkfaibdflbdpgaa", sum := "3d7009c88f3ad78f49d53b53858feb01a68568a4660f9afbb4c78a5902fd7d5e", func := "gamehall/gamehalltop.TopUndo", spec := "topUndo", unfollowed := true, recurses := true, apart := false, narrowed := true }
def TopUndoUptoSaid : Prop := topUndoUptoRow.holds Try.pinned (OpenSpec.upto topUndoSpec)

/-- 'gamehallkeep3.MovetextAlone', WHERE WHAT IT READS IS OF BULK AT MOST 1048576: true; the input reads as it did. -/
def movetextAloneUptoRow : OpenClaim := { program := "ytkfaibdflbdpgaa", sum := "3d7009c88f3ad78f49d53b53858feb01a68568a4660f9afbb4c78a5902fd7d5e", func := "gamehall/gamehallkeep3.MovetextAlone", spec := "movetextAlone", unfollowed := true, recurses := true, apart := false, narrowed := true }
def MovetextAloneUptoSaid : Prop := movetextAloneUptoRow.holds Try.pinned (OpenSpec.upto movetextAloneSpec)

/-- 'gamehallkeep3.ClaimSteps', WHERE WHAT IT READS IS OF BULK AT MOST 1048576: true; the input reads as it did. -/
def claimStepsUptoRow : OpenClaim := { program := "ytkfaibdflbdpgaa", sum := "3d7009c88f3ad78f49d53b53858feb01a68568a4660f9afbb4c78a5902fd7d5e", func := "gamehall/gamehallkeep3.ClaimSteps", spec := "claimSteps", unfollowed := true, recurses := true, apart := false, narrowed := true }
def ClaimStepsUptoSaid : Prop := claimStepsUptoRow.holds Try.pinned (OpenSpec.upto claimStepsSpec)

/-- 'gamehallkeep3.PremoveClears', WHERE WHAT IT READS IS OF BULK AT MOST 1048576: true; the input reads as it did. -/
def premoveClearsUptoRow : OpenClaim := { program := "ytkfaibdflbdpgaa", sum := "3d7009c88f3ad78f49d53b53858feb01a68568a4660f9afbb4c78a5902fd7d5e", func := "gamehall/gamehallkeep3.PremoveClears", spec := "premoveClears", unfollowed := true, recurses := true, apart := false, narrowed := true }
def PremoveClearsUptoSaid : Prop := premoveClearsUptoRow.holds Try.pinned (OpenSpec.upto premoveClearsSpec)

/-- 'gamehallkeep3.PremovePlays', WHERE WHAT IT READS IS OF BULK AT MOST 1048576: true; the input reads as it did. -/
def premovePlaysUptoRow : OpenClaim := { program := "ytkfaibdflbdpgaa", sum := "3d7009c88f3ad78f49d53b53858feb01a68568a4660f9afbb4c78a5902fd7d5e", func := "gamehall/gamehallkeep3.PremovePlays", spec := "premovePlays", unfollowed := true, recurses := true, apart := false, narrowed := true }
def PremovePlaysUptoSaid : Prop := premovePlaysUptoRow.holds Try.pinned (OpenSpec.upto premovePlaysSpec)

/-- 'gamehallkeep3.ClaimWins', WHERE WHAT IT READS IS OF BULK AT MOST 1048576: true; the input reads as it did. -/
def claimWinsUptoRow : OpenClaim := { program := "ytkfaibdflbdpgaa", sum := "3d7009c88f3ad78f49d53b53858feb01a68568a4660f9afbb4c78a5902fd7d5e", func := "gamehall/gamehallkeep3.ClaimWins", spec := "claimWins", unfollowed := true, recurses := true, apart := false, narrowed := true }
def ClaimWinsUptoSaid : Prop := claimWinsUptoRow.holds Try.pinned (OpenSpec.upto claimWinsSpec)

/-- 'gamehallkeep3.PatternMore', WHERE WHAT IT READS IS OF BULK AT MOST 1048576: true; the input reads as it did. -/
def patternMoreUptoRow : OpenClaim := { program := "ytkfaibdflbdpgaa", sum := "3d7009c88f3ad78f49d53b53858feb01a68568a4660f9afbb4c78a5902fd7d5e", func := "gamehall/gamehallkeep3.PatternMore", spec := "patternMore", unfollowed := true, recurses := true, apart := false, narrowed := true }
def PatternMoreUptoSaid : Prop := patternMoreUptoRow.holds Try.pinned (OpenSpec.upto patternMoreSpec)

/-- 'gamehallkeep3.MovetextParts', WHERE WHAT IT READS IS OF BULK AT MOST 1048576: true; the input reads as it did. -/
def movetextPartsUptoRow : OpenClaim := { program := "ytkfaibdflbdpgaa", sum := "3d7009c88f3ad78f49d53b53858feb01a68568a4660f9afbb4c78a5902fd7d5e", func := "gamehall/gamehallkeep3.MovetextParts", spec := "movetextParts", inPlace := ["internal/abi.NoEscape", "internal/bytealg.MakeNoZero"], unfollowed := true, recurses := true, apart := false, narrowed := true }
def MovetextPartsUptoSaid : Prop := movetextPartsUptoRow.holds Try.pinned (OpenSpec.upto movetextPartsSpec)

/-- 'gamehallkeep3.BookTwice', WHERE WHAT IT READS IS OF BULK AT MOST 1048576: true; the input reads as it did. -/
def bookTwiceUptoRow : OpenClaim := { program := "ytkfaibdflbdpgaa", sum := "3d7009c88f3ad78f49d53b53858feb01a68568a4660f9afbb4c78a5902fd7d5e", func := "gamehall/gamehallkeep3.BookTwice", spec := "bookTwice", inPlace := ["slices.overlaps[gamehall/api.BookEntry]"], unfollowed := true, recurses := true, apart := false, narrowed := true }
def BookTwiceUptoSaid : Prop := bookTwiceUptoRow.holds Try.pinned (OpenSpec.upto bookTwiceSpec)

/-- 'gamehallkeep3.BookOrder', WHERE WHAT IT READS IS OF BULK AT MOST 1048576: true; the input reads as it did. -/
def bookOrderUptoRow : OpenClaim := { program := "ytkfaibdflbdpgaa", sum := "3d7009c88f3ad78f49d53b53858feb01a68568a4660f9afbb4c78a5902fd7d5e", func := "gamehall/gamehallkeep3.BookOrder", spec := "bookOrder", inPlace := ["slices.overlaps[gamehall/api.BookEntry]"], unfollowed := true, recurses := true, apart := false, narrowed := true }
def BookOrderUptoSaid : Prop := bookOrderUptoRow.holds Try.pinned (OpenSpec.upto bookOrderSpec)

/-- 'gamehallkeep3.BookFollows', WHERE WHAT IT READS IS OF BULK AT MOST 1048576: true; the input reads as it did. -/
def bookFollowsUptoRow : OpenClaim := { program := "ytkfaibdflbdpgaa", sum := "3d7009c88f3ad78f49d53b53858feb01a68568a4660f9afbb4c78a5902fd7d5e", func := "gamehall/gamehallkeep3.BookFollows", spec := "bookFollows", inPlace := ["slices.overlaps[gamehall/api.BookEntry]"], unfollowed := true, recurses := true, apart := false, narrowed := true }
def BookFollowsUptoSaid : Prop := bookFollowsUptoRow.holds Try.pinned (OpenSpec.upto bookFollowsSpec)

/-- 'gamehallkeep3.BookDraws', WHERE WHAT IT READS IS OF BULK AT MOST 1048576: true; the input reads as it did. -/
def bookDrawsUptoRow : OpenClaim := { program := "ytkfaibdflbdpgaa", sum := "3d7009c88f3ad78f49d53b53858feb01a68568a4660f9afbb4c78a5902fd7d5e", func := "gamehall/gamehallkeep3.BookDraws", spec := "bookDraws", inPlace := ["slices.overlaps[gamehall/api.BookEntry]"], unfollowed := true, recurses := true, apart := false, narrowed := true }
def BookDrawsUptoSaid : Prop := bookDrawsUptoRow.holds Try.pinned (OpenSpec.upto bookDrawsSpec)

end Rows
end Go.Proofs.Ytkfaibdflbdpgaa
