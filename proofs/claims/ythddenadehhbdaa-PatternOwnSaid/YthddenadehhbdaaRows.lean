/-
  No cell of these rows narrows 'for every input' (looked for: loops, veiled, ifaces, maps, wideKeys, modest, calm, conditions, laid).
  DERIVED. THE GIVEN ROWS OF THIS SEAT. 8 by the template 'for every input the law returns true; each argument reads behind the call as it read before'; 0 by the template 'total and deterministic' (their statements: YthddenadehhbdaaTotals.lean).
  GIVEN WITH THE SEED: the statements are not yours to turn. If you find one false, say at which input.
  Laid BY PROGRAM, IN A SANDBOX (cutbox-rows.mjs): the forced cells as the released guide's own fill.sh prints them over the translation 0b2275d7dad9761e… (all of the seat's roots in one cut). By AI agents, Wed Nov 11 2026. No macro, syntax, notation, axiom, sorry.
-/
import Derived.Test.YthddenadehhbdaaChecked
import GoSem.Claim
import GoSem.ClaimJoined
import GoSem.ClaimMapViews
import Derived.JoinedTies
import Derived.KernelRfl
namespace Go.Proofs.Ythddenadehhbdaa
/- THE CELL 'sum', in the pinned program and in every row, IS THE sha256 OF THE DUMP (.gsa) THAT YthddenadehhbdaaProg.lean LOADS. Nothing in Lean hashes anything: it is a label: what it is worth is what the hold of that sum in a sandbox is worth. -/
noncomputable def Try.pinned : Pinned := { name := "ythddenadehhbdaa", sum := "0b2275d7dad9761e9ef1a2572c1404ba9a2bde230abc854147f8351e67bfd497", checked := Try.checked }
namespace Rows
def none {H : Type} : Left H := { results := [], args := [] }

/-- 'gamehallkeep3.SwissNew': WHATEVER THE INPUT: true; the input reads as it did. -/
def swissNewSpec : ChangeSpec := { name := "swissNew", fn := fun _ => fun
  | [d] => { results := [.lit (.bool true)], args := [d] }
  | _ => none }
def swissNewRow : OpenClaim := { program := "ythddenadehhbdaa", sum := "0b2275d7dad9761e9ef1a2572c1404ba9a2bde230abc854147f8351e67bfd497", func := "gamehall/gamehallkeep3.SwissNew", spec := "swissNew", unfollowed := true, recurses := true, apart := false }
def SwissNewSaid : Prop := swissNewRow.holds Try.pinned (OpenSpec.ofChange swissNewSpec)

/-- ITS FALSE NEIGHBOUR: 'it returns false'. Refute it at one input. -/
def swissNewWrong : ChangeSpec := { name := "swissNew", fn := fun _ => fun
  | [d] => { results := [.lit (.bool false)], args := [d] }
  | _ => none }
def SwissNewWrongFalsely : Prop := swissNewRow.holds Try.pinned (OpenSpec.ofChange swissNewWrong)

/-- 'gamehallkeep3.SwissCosts': WHATEVER THE INPUT: true; the input reads as it did. -/
def swissCostsSpec : ChangeSpec := { name := "swissCosts", fn := fun _ => fun
  | [d1, d2, d3] => { results := [.lit (.bool true)], args := [d1, d2, d3] }
  | _ => none }
def swissCostsRow : OpenClaim := { program := "ythddenadehhbdaa", sum := "0b2275d7dad9761e9ef1a2572c1404ba9a2bde230abc854147f8351e67bfd497", func := "gamehall/gamehallkeep3.SwissCosts", spec := "swissCosts", unfollowed := true, recurses := true, apart := false }
def SwissCostsSaid : Prop := swissCostsRow.holds Try.pinned (OpenSpec.ofChange swissCostsSpec)

/-- ITS FALSE NEIGHBOUR: 'it returns false'. Refute it at one input. -/
def swissCostsWrong : ChangeSpec := { name := "swissCosts", fn := fun _ => fun
  | [d1, d2, d3] => { results := [.lit (.bool false)], args := [d1, d2, d3] }
  | _ => none }
def SwissCostsWrongFalsely : Prop := swissCostsRow.holds Try.pinned (OpenSpec.ofChange swissCostsWrong)

/-- 'gamehallkeep3.SwissAdds': WHATEVER THE INPUT: true; the input reads as it did. -/
def swissAddsSpec : ChangeSpec := { name := "swissAdds", fn := fun _ => fun
  | [d1, d2] => { results := [.lit (.bool true)], args := [d1, d2] }
  | _ => none }
def swissAddsRow : OpenClaim := { program := "ythddenadehhbdaa", sum := "0b2275d7dad9761e9ef1a2572c1404ba9a2bde230abc854147f8351e67bfd497", func := "gamehall/gamehallkeep3.SwissAdds", spec := "swissAdds", unfollowed := true, recurses := true, apart := false }
def SwissAddsSaid : Prop := swissAddsRow.holds Try.pinned (OpenSpec.ofChange swissAddsSpec)

/-- ITS FALSE NEIGHBOUR: 'it returns false'. Refute it at one input. -/
def swissAddsWrong : ChangeSpec := { name := "swissAdds", fn := fun _ => fun
  | [d1, d2] => { results := [.lit (.bool false)], args := [d1, d2] }
  | _ => none }
def SwissAddsWrongFalsely : Prop := swissAddsRow.holds Try.pinned (OpenSpec.ofChange swissAddsWrong)

/-- 'gamehallkeep3.PatternTwice': WHATEVER THE INPUT: true; the input reads as it did. -/
def patternTwiceSpec : ChangeSpec := { name := "patternTwice", fn := fun _ => fun
  | [d1, d2] => { results := [.lit (.bool true)], args := [d1, d2] }
  | _ => none }
def patternTwiceRow : OpenClaim := { program := "ythddenadehhbdaa", sum := "0b2275d7dad9761e9ef1a2572c1404ba9a2bde230abc854147f8351e67bfd497", func := "gamehall/gamehallkeep3.PatternTwice", spec := "patternTwice", unfollowed := true, recurses := true, apart := false }
def PatternTwiceSaid : Prop := patternTwiceRow.holds Try.pinned (OpenSpec.ofChange patternTwiceSpec)

/-- ITS FALSE NEIGHBOUR: 'it returns false'. Refute it at one input. -/
def patternTwiceWrong : ChangeSpec := { name := "patternTwice", fn := fun _ => fun
  | [d1, d2] => { results := [.lit (.bool false)], args := [d1, d2] }
  | _ => none }
def PatternTwiceWrongFalsely : Prop := patternTwiceRow.holds Try.pinned (OpenSpec.ofChange patternTwiceWrong)

/-- 'gamehallkeep3.PatternOwn': WHATEVER THE INPUT: true; the input reads as it did. -/
def patternOwnSpec : ChangeSpec := { name := "patternOwn", fn := fun _ => fun
  | [d1, d2, d3, d4, d5] => { results := [.lit (.bool true)], args := [d1, d2, d3, d4, d5] }
  | _ => none }
def patternOwnRow : OpenClaim := { program := "ythddenadehhbdaa", sum := "0b2275d7dad9761e9ef1a2572c1404ba9a2bde230abc854147f8351e67bfd497", func := "gamehall/gamehallkeep3.PatternOwn", spec := "patternOwn", unfollowed := true, recurses := true, apart := false }
def PatternOwnSaid : Prop := patternOwnRow.holds Try.pinned (OpenSpec.ofChange patternOwnSpec)

/-- ITS FALSE NEIGHBOUR: 'it returns false'. Refute it at one input. -/
def patternOwnWrong : ChangeSpec := { name := "patternOwn", fn := fun _ => fun
  | [d1, d2, d3, d4, d5] => { results := [.lit (.bool false)], args := [d1, d2, d3, d4, d5] }
  | _ => none }
def PatternOwnWrongFalsely : Prop := patternOwnRow.holds Try.pinned (OpenSpec.ofChange patternOwnWrong)

/-- 'gamehallkeep3.StandingSums': WHATEVER THE INPUT: true; the input reads as it did. -/
def standingSumsSpec : ChangeSpec := { name := "standingSums", fn := fun _ => fun
  | [d1, d2] => { results := [.lit (.bool true)], args := [d1, d2] }
  | _ => none }
def standingSumsRow : OpenClaim := { program := "ythddenadehhbdaa", sum := "0b2275d7dad9761e9ef1a2572c1404ba9a2bde230abc854147f8351e67bfd497", func := "gamehall/gamehallkeep3.StandingSums", spec := "standingSums", unfollowed := true, recurses := true, apart := false }
def StandingSumsSaid : Prop := standingSumsRow.holds Try.pinned (OpenSpec.ofChange standingSumsSpec)

/-- ITS FALSE NEIGHBOUR: 'it returns false'. Refute it at one input. -/
def standingSumsWrong : ChangeSpec := { name := "standingSums", fn := fun _ => fun
  | [d1, d2] => { results := [.lit (.bool false)], args := [d1, d2] }
  | _ => none }
def StandingSumsWrongFalsely : Prop := standingSumsRow.holds Try.pinned (OpenSpec.ofChange standingSumsWrong)

/-- 'gamehallkeep3.StandingShares': WHATEVER THE INPUT: true; the input reads as it did. -/
def standingSharesSpec : ChangeSpec := { name := "standingShares", fn := fun _ => fun
  | [d1, d2, d3] => { results := [.lit (.bool true)], args := [d1, d2, d3] }
  | _ => none }
def standingSharesRow : OpenClaim := { program := "ythddenadehhbdaa", sum := "0b2275d7dad9761e9ef1a2572c1404ba9a2bde230abc854147f8351e67bfd497", func := "gamehall/gamehallkeep3.StandingShares", spec := "standingShares", unfollowed := true, recurses := true, apart := false }
def StandingSharesSaid : Prop := standingSharesRow.holds Try.pinned (OpenSpec.ofChange standingSharesSpec)

/-- ITS FALSE NEIGHBOUR: 'it returns false'. Refute it at one input. -/
def standingSharesWrong : ChangeSpec := { name := "standingShares", fn := fun _ => fun
  | [d1, d2, d3] => { results := [.lit (.bool false)], args := [d1, d2, d3] }
  | _ => none }
def StandingSharesWrongFalsely : Prop := standingSharesRow.holds Try.pinned (OpenSpec.ofChange standingSharesWrong)

/-- 'gamehallkeep3.KnockoutByes': WHATEVER THE INPUT: true; the input reads as it did. -/
def knockoutByesSpec : ChangeSpec := { name := "knockoutByes", fn := fun _ => fun
  | [d] => { results := [.lit (.bool true)], args := [d] }
  | _ => none }
def knockoutByesRow : OpenClaim := { program := "ythddenadehhbdaa", sum := "0b2275d7dad9761e9ef1a2572c1404ba9a2bde230abc854147f8351e67bfd497", func := "gamehall/gamehallkeep3.KnockoutByes", spec := "knockoutByes", recurses := true, apart := false }
def KnockoutByesSaid : Prop := knockoutByesRow.holds Try.pinned (OpenSpec.ofChange knockoutByesSpec)

/-- ITS FALSE NEIGHBOUR: 'it returns false'. Refute it at one input. -/
def knockoutByesWrong : ChangeSpec := { name := "knockoutByes", fn := fun _ => fun
  | [d] => { results := [.lit (.bool false)], args := [d] }
  | _ => none }
def KnockoutByesWrongFalsely : Prop := knockoutByesRow.holds Try.pinned (OpenSpec.ofChange knockoutByesWrong)

/- THE SECOND FORM. 'bulk': how many values and letters a reading holds, each counted each time it is reached (what is shared counts as often as it is met; a slice's spare places count too). A statement '..UptoSaid' is the law's where the arguments, and the package variables that the reading takes, are together of bulk at most 1048576: NARROWER than '..Said'. Prove '..Said' where nothing that the law and all that it calls make is longer than what came in: it says more and counts as full. Else prove '..UptoSaid'. A law counts once. -/
mutual
def uptoBulk {H : Type} : DataW H → Nat
  | .lit (.string bytes) => bytes.length + 1
  | .lit _ => 1
  | .nil => 1
  | .ptr d => uptoBulk d + 1
  | .slice elems spare => uptoBulkAll elems + uptoBulkAll spare + 1
  | .agg parts => uptoBulkAll parts + 1
  | .iface _ d => uptoBulk d + 1
  | .map entries => uptoBulkEntries entries + 1
  | .held _ => 1
def uptoBulkAll {H : Type} : List (DataW H) → Nat
  | [] => 0
  | d :: r => uptoBulk d + uptoBulkAll r
def uptoBulkEntries {H : Type} : List (Lit × DataW H) → Nat
  | [] => 0
  | x :: r => uptoBulkEntry x + uptoBulkEntries r
def uptoBulkEntry {H : Type} : Lit × DataW H → Nat
  | (.string bytes, d) => bytes.length + uptoBulk d + 1
  | (_, d) => uptoBulk d + 1
 end
def uptoSmall : (H : Type) → List (DataW H) → Bool := fun _ ds => decide (uptoBulkAll ds ≤ 1048576)
def OpenSpec.upto (s : _root_.Go.ChangeSpec) : _root_.Go.OpenSpec := { _root_.Go.OpenSpec.ofChange s with cond := some uptoSmall }

/-- 'gamehallkeep3.SwissNew', WHERE WHAT IT READS IS OF BULK AT MOST 1048576: true; the input reads as it did. -/
def swissNewUptoRow : OpenClaim := { program := "ythddenadehhbdaa", sum := "0b2275d7dad9761e9ef1a2572c1404ba9a2bde230abc854147f8351e67bfd497", func := "gamehall/gamehallkeep3.SwissNew", spec := "swissNew", unfollowed := true, recurses := true, apart := false, narrowed := true }
def SwissNewUptoSaid : Prop := swissNewUptoRow.holds Try.pinned (OpenSpec.upto swissNewSpec)

/-- 'gamehallkeep3.SwissCosts', WHERE WHAT IT READS IS OF BULK AT MOST 1048576: true; the input reads as it did. -/
def swissCostsUptoRow : OpenClaim := { program := "ythddenadehhbdaa", sum := "0b2275d7dad9761e9ef1a2572c1404ba9a2bde230abc854147f8351e67bfd497", func := "gamehall/gamehallkeep3.SwissCosts", spec := "swissCosts", unfollowed := true, recurses := true, apart := false, narrowed := true }
def SwissCostsUptoSaid : Prop := swissCostsUptoRow.holds Try.pinned (OpenSpec.upto swissCostsSpec)

/-- 'gamehallkeep3.SwissAdds', WHERE WHAT IT READS IS OF BULK AT MOST 1048576: true; the input reads as it did. -/
def swissAddsUptoRow : OpenClaim := { program := "ythddenadehhbdaa", sum := "0b2275d7dad9761e9ef1a2572c1404ba9a2bde230abc854147f8351e67bfd497", func := "gamehall/gamehallkeep3.SwissAdds", spec := "swissAdds", unfollowed := true, recurses := true, apart := false, narrowed := true }
def SwissAddsUptoSaid : Prop := swissAddsUptoRow.holds Try.pinned (OpenSpec.upto swissAddsSpec)

/-- 'gamehallkeep3.PatternTwice', WHERE WHAT IT READS IS OF BULK AT MOST 1048576: true; the input reads as it did. -/
def patternTwiceUptoRow : OpenClaim := { program := "ythddenadehhbdaa", sum := "0b2275d7dad9761e9ef1a2572c1404ba9a2bde230abc854147f8351e67bfd497", func := "gamehall/gamehallkeep3.PatternTwice", spec := "patternTwice", unfollowed := true, recurses := true, apart := false, narrowed := true }
def PatternTwiceUptoSaid : Prop := patternTwiceUptoRow.holds Try.pinned (OpenSpec.upto patternTwiceSpec)

/-- 'gamehallkeep3.PatternOwn', WHERE WHAT IT READS IS OF BULK AT MOST 1048576: true; the input reads as it did. -/
def patternOwnUptoRow : OpenClaim := { program := "ythddenadehhbdaa", sum := "0b2275d7dad9761e9ef1a2572c1404ba9a2bde230abc854147f8351e67bfd497", func := "gamehall/gamehallkeep3.PatternOwn", spec := "patternOwn", unfollowed := true, recurses := true, apart := false, narrowed := true }
def PatternOwnUptoSaid : Prop := patternOwnUptoRow.holds Try.pinned (OpenSpec.upto patternOwnSpec)

/-- 'gamehallkeep3.StandingSums', WHERE WHAT IT READS IS OF BULK AT MOST 1048576: true; the input reads as it did. -/
def standingSumsUptoRow : OpenClaim := { program := "ythddenadehhbdaa", sum := "0b2275d7dad9761e9ef1a2572c1404ba9a2bde230abc854147f8351e67bfd497", func := "gamehall/gamehallkeep3.StandingSums", spec := "standingSums", unfollowed := true, recurses := true, apart := false, narrowed := true }
def StandingSumsUptoSaid : Prop := standingSumsUptoRow.holds Try.pinned (OpenSpec.upto standingSumsSpec)

/-- 'gamehallkeep3.StandingShares', WHERE WHAT IT READS IS OF BULK AT MOST 1048576: true; the input reads as it did. -/
def standingSharesUptoRow : OpenClaim := { program := "ythddenadehhbdaa", sum := "0b2275d7dad9761e9ef1a2572c1404ba9a2bde230abc854147f8351e67bfd497", func := "gamehall/gamehallkeep3.StandingShares", spec := "standingShares", unfollowed := true, recurses := true, apart := false, narrowed := true }
def StandingSharesUptoSaid : Prop := standingSharesUptoRow.holds Try.pinned (OpenSpec.upto standingSharesSpec)

/-- 'gamehallkeep3.KnockoutByes', WHERE WHAT IT READS IS OF BULK AT MOST 1048576: true; the input reads as it did. -/
def knockoutByesUptoRow : OpenClaim := { program := "ythddenadehhbdaa", sum := "0b2275d7dad9761e9ef1a2572c1404ba9a2bde230abc854147f8351e67bfd497", func := "gamehall/gamehallkeep3.KnockoutByes", spec := "knockoutByes", recurses := true, apart := false, narrowed := true }
def KnockoutByesUptoSaid : Prop := knockoutByesUptoRow.holds Try.pinned (OpenSpec.upto knockoutByesSpec)

end Rows
end Go.Proofs.Ythddenadehhbdaa
