/-
  No cell of these rows narrows 'for every input' (looked for: loops, veiled, ifaces, maps, wideKeys, modest, calm, conditions, laid).
  DERIVED. THE GIVEN ROWS OF THIS SEAT. 3 by the template 'for every input the law returns true; each argument reads behind the call as it read before'; 0 by the template 'total and deterministic' (their statements: YtkngpbnildhdpaaTotals.lean).
  GIVEN WITH THE SEED: the statements are not yours to turn. If you find one false, say at which input.
  Laid BY PROGRAM, IN A SANDBOX (cutbox-rows.mjs): the forced cells as the released guide's own fill.sh prints them over the translation c1a516d5548c7f05… (all of the seat's roots in one cut). By AI agents, Wed Nov 11 2026. No macro, syntax, notation, axiom, sorry.
-/
import Derived.Test.YtkngpbnildhdpaaChecked
import GoSem.Claim
import GoSem.ClaimJoined
import GoSem.ClaimMapViews
import Derived.JoinedTies
import Derived.KernelRfl
namespace Go.Proofs.Ytkngpbnildhdpaa
/- THE CELL 'sum', in the pinned program and in every row, IS THE sha256 OF THE DUMP (.gsa) THAT YtkngpbnildhdpaaProg.lean LOADS. Nothing in Lean hashes anything: it is a label: what it is worth is what the hold of that sum in a sandbox is worth. -/
noncomputable def Try.pinned : Pinned := { name := "ytkngpbnildhdpaa", sum := "c1a516d5548c7f05ab9f055bd44cec1136fadd30d9f0ac7ce232e617fd7643f6", checked := Try.checked }
namespace Rows
def none {H : Type} : Left H := { results := [], args := [] }

/-- 'gamehallkeep3.SwissNew': WHATEVER THE INPUT: true; the input reads as it did. -/
def swissNewSpec : ChangeSpec := { name := "swissNew", fn := fun _ => fun
  | [d] => { results := [.lit (.bool true)], args := [d] }
  | _ => none }
def swissNewRow : OpenClaim := { program := "ytkngpbnildhdpaa", sum := "c1a516d5548c7f05ab9f055bd44cec1136fadd30d9f0ac7ce232e617fd7643f6", func := "gamehall/gamehallkeep3.SwissNew", spec := "swissNew", unfollowed := true, recurses := true, apart := false }
def SwissNewSaid : Prop := swissNewRow.holds Try.pinned (OpenSpec.ofChange swissNewSpec)

/-- ITS FALSE NEIGHBOUR: 'it returns false'. Refute it at one input. -/
def swissNewWrong : ChangeSpec := { name := "swissNew", fn := fun _ => fun
  | [d] => { results := [.lit (.bool false)], args := [d] }
  | _ => none }
def SwissNewWrongFalsely : Prop := swissNewRow.holds Try.pinned (OpenSpec.ofChange swissNewWrong)

/-- 'gamehallkeep3.SwissCosts': WHATEVER THE INPUT: true; the input reads as it did. -/
def swissCostsSpec : ChangeSpec := { name := "swissCosts", fn := fun _ => fun
  | [d1, d2, d3] => { results := [.lit (.bool true)], args := [d1, d2, d3] }
  | _ => none }
def swissCostsRow : OpenClaim := { program := "ytkngpbnildhdpaa", sum := "c1a516d5548c7f05ab9f055bd44cec1136fadd30d9f0ac7ce232e617fd7643f6", func := "gamehall/gamehallkeep3.SwissCosts", spec := "swissCosts", unfollowed := true, recurses := true, apart := false }
def SwissCostsSaid : Prop := swissCostsRow.holds Try.pinned (OpenSpec.ofChange swissCostsSpec)

/-- ITS FALSE NEIGHBOUR: 'it returns false'. Refute it at one input. -/
def swissCostsWrong : ChangeSpec := { name := "swissCosts", fn := fun _ => fun
  | [d1, d2, d3] => { results := [.lit (.bool false)], args := [d1, d2, d3] }
  | _ => none }
def SwissCostsWrongFalsely : Prop := swissCostsRow.holds Try.pinned (OpenSpec.ofChange swissCostsWrong)

/-- 'gamehallkeep3.SwissAdds': WHATEVER THE INPUT: true; the input reads as it did. -/
def swissAddsSpec : ChangeSpec := { name := "swissAdds", fn := fun _ => fun
  | [d1, d2] => { results := [.lit (.bool true)], args := [d1, d2] }
  | _ => none }
def swissAddsRow : OpenClaim := { program := "ytkngpbnildhdpaa", sum := "c1a516d5548c7f05ab9f055bd44cec1136fadd30d9f0ac7ce232e617fd7643f6", func := "gamehall/gamehallkeep3.SwissAdds", spec := "swissAdds", unfollowed := true, recurses := true, apart := false }
def SwissAddsSaid : Prop := swissAddsRow.holds Try.pinned (OpenSpec.ofChange swissAddsSpec)

/-- ITS FALSE NEIGHBOUR: 'it returns false'. Refute it at one input. -/
def swissAddsWrong : ChangeSpec := { name := "swissAdds", fn := fun _ => fun
  | [d1, d2] => { results := [.lit (.bool false)], args := [d1, d2] }
  | _ => none }
def SwissAddsWrongFalsely : Prop := swissAddsRow.holds Try.pinned (OpenSpec.ofChange swissAddsWrong)

/- THE SECOND FORM. 'bulk': how many values and letters a reading holds, each counted each time it is reached (what is shared counts as often as it is met; a slice's spare places count too). A statement '..UptoSaid' is the law's where the arguments, and the package variables that the reading takes, are together of bulk at most 1048576: NARROWER than '..Said'. Prove '..Said' where nothing that the law and all that it calls make is longer than what came in: it says more and counts as full. Else prove '..UptoSaid'. A law counts once. -/
mutual
def uptoBulk {H : Type} : DataW H → Nat
  | .lit (.string bytes) => bytes.length + 1
  | .lit _ => 1
  | .nil => 1
  | .ptr d => uptoBulk d + 1
  | .slice elems spare => uptoBulkAll elems + uptoBulkAll spare + 1
  | .agg parts => uptoBulkAll parts + 1
  | .iface _ d => uptoBulk d + 1
  | .map entries => uptoBulkEntries entries + 1
  | .held _ => 1
def uptoBulkAll {H : Type} : List (DataW H) → Nat
  | [] => 0
  | d :: r => uptoBulk d + uptoBulkAll r
def uptoBulkEntries {H : Type} : List (Lit × DataW H) → Nat
  | [] => 0
  | x :: r => uptoBulkEntry x + uptoBulkEntries r
def uptoBulkEntry {H : Type} : Lit × DataW H → Nat
  | (.string bytes, d) => bytes.length + uptoBulk d + 1
  | (_, d) => uptoBulk d + 1
 end
def uptoSmall : (H : Type) → List (DataW H) → Bool := fun _ ds => decide (uptoBulkAll ds ≤ 1048576)
def OpenSpec.upto (s : _root_.Go.ChangeSpec) : _root_.Go.OpenSpec := { _root_.Go.OpenSpec.ofChange s with cond := some uptoSmall }

/-- 'gamehallkeep3.SwissNew', WHERE WHAT IT READS IS OF BULK AT MOST 1048576: true; the input reads as it did. -/
def swissNewUptoRow : OpenClaim := { program := "ytkngpbnildhdpaa", sum := "c1a516d5548c7f05ab9f055bd44cec1136fadd30d9f0ac7ce232e617fd7643f6", func := "gamehall/gamehallkeep3.SwissNew", spec := "swissNew", unfollowed := true, recurses := true, apart := false, narrowed := true }
def SwissNewUptoSaid : Prop := swissNewUptoRow.holds Try.pinned (OpenSpec.upto swissNewSpec)

/-- 'gamehallkeep3.SwissCosts', WHERE WHAT IT READS IS OF BULK AT MOST 1048576: true; the input reads as it did. -/
def swissCostsUptoRow : OpenClaim := { program := "ytkngpbnildhdpaa", sum := "c1a516d5548c7f05ab9f055bd44cec1136fadd30d9f0ac7ce232e617fd7643f6", func := "gamehall/gamehallkeep3.SwissCosts", spec := "swissCosts", unfollowed := true, recurses := true, apart := false, narrowed := true }
def SwissCostsUptoSaid : Prop := swissCostsUptoRow.holds Try.pinned (OpenSpec.upto swissCostsSpec)

/-- 'gamehallkeep3.SwissAdds', WHERE WHAT IT READS IS OF BULK AT MOST 1048576: true; the input reads as it did. -/
def swissAddsUptoRow : OpenClaim := { program := "ytkngpbnildhdpaa", sum := "c1a516d5548c7f05ab9f055bd44cec1136fadd30d9f0ac7ce232e617fd7643f6", func := "gamehall/gamehallkeep3.SwissAdds", spec := "swissAdds", unfollowed := true, recurses := true, apart := false, narrowed := true }
def SwissAddsUptoSaid : Prop := swissAddsUptoRow.holds Try.pinned (OpenSpec.upto swissAddsSpec)

end Rows
end Go.Proofs.Ytkngpbnildhdpaa
