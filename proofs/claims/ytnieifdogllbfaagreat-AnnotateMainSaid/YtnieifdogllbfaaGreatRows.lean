/-
  No cell of these rows narrows 'for every input' (looked for: loops, veiled, ifaces, maps, wideKeys, modest, calm, conditions, laid).
  DERIVED. THE GIVEN ROWS OF THIS SEAT. 4 by the template 'for every input the law returns true; each argument reads behind the call as it read before'; 0 by the template 'total and deterministic' (their statements: YtnieifdogllbfaaGreatTotals.lean).
  GIVEN WITH THE SEED: the statements are not yours to turn. If you find one false, say at which input.
  Laid BY PROGRAM, IN A SANDBOX (cutbox-rows.mjs): the forced cells as the released guide's own fill.sh prints them over the translation 4f1c373c39dbdc4b… (all of the seat's roots in one cut). By AI agents, Wed Nov 11 2026. No macro, syntax, notation, axiom, sorry.
-/
import Derived.Test.YtnieifdogllbfaaGreatChecked
import GoSem.Claim
import GoSem.ClaimJoined
import GoSem.ClaimMapViews
import Derived.JoinedTies
import Derived.KernelRfl
namespace Go.Proofs.YtnieifdogllbfaaGreat
/- THE CELL 'sum', in the pinned program and in every row, IS THE sha256 OF THE DUMP (.gsa) THAT YtnieifdogllbfaaGreatProg.lean LOADS. Nothing in Lean hashes anything: it is a label: what it is worth is what the hold of that sum in a sandbox is worth. -/
noncomputable def Tryz.pinned : Pinned := { name := "ytnieifdogllbfaagreat", sum := "4f1c373c39dbdc4b7d22015a5985ce94c03264f40e218d6599a4c7aa1b32d9b2", checked := Tryz.checked }
namespace Rows
def none {H : Type} : Left H := { results := [], args := [] }

/-- 'gamehallkeep3.AnnotateSelf': WHATEVER THE INPUT: true; the input reads as it did. -/
def annotateSelfSpec : ChangeSpec := { name := "annotateSelf", fn := fun _ => fun
  | [d1, d2] => { results := [.lit (.bool true)], args := [d1, d2] }
  | _ => none }
def annotateSelfRow : OpenClaim := { program := "ytnieifdogllbfaagreat", sum := "4f1c373c39dbdc4b7d22015a5985ce94c03264f40e218d6599a4c7aa1b32d9b2", func := "gamehall/gamehallkeep3.AnnotateSelf", spec := "annotateSelf", inPlace := ["internal/bytealg.IndexByteString"], unfollowed := true, recurses := true, apart := false }
def AnnotateSelfSaid : Prop := annotateSelfRow.holds Tryz.pinned (OpenSpec.ofChange annotateSelfSpec)

/-- ITS FALSE NEIGHBOUR: 'it returns false'. Refute it at one input. -/
def annotateSelfWrong : ChangeSpec := { name := "annotateSelf", fn := fun _ => fun
  | [d1, d2] => { results := [.lit (.bool false)], args := [d1, d2] }
  | _ => none }
def AnnotateSelfWrongFalsely : Prop := annotateSelfRow.holds Tryz.pinned (OpenSpec.ofChange annotateSelfWrong)

/-- 'gamehallkeep3.AnnotateOrder': WHATEVER THE INPUT: true; the input reads as it did. -/
def annotateOrderSpec : ChangeSpec := { name := "annotateOrder", fn := fun _ => fun
  | [d1, d2, d3] => { results := [.lit (.bool true)], args := [d1, d2, d3] }
  | _ => none }
def annotateOrderRow : OpenClaim := { program := "ytnieifdogllbfaagreat", sum := "4f1c373c39dbdc4b7d22015a5985ce94c03264f40e218d6599a4c7aa1b32d9b2", func := "gamehall/gamehallkeep3.AnnotateOrder", spec := "annotateOrder", inPlace := ["internal/bytealg.IndexByteString"], unfollowed := true, recurses := true, apart := false }
def AnnotateOrderSaid : Prop := annotateOrderRow.holds Tryz.pinned (OpenSpec.ofChange annotateOrderSpec)

/-- ITS FALSE NEIGHBOUR: 'it returns false'. Refute it at one input. -/
def annotateOrderWrong : ChangeSpec := { name := "annotateOrder", fn := fun _ => fun
  | [d1, d2, d3] => { results := [.lit (.bool false)], args := [d1, d2, d3] }
  | _ => none }
def AnnotateOrderWrongFalsely : Prop := annotateOrderRow.holds Tryz.pinned (OpenSpec.ofChange annotateOrderWrong)

/-- 'gamehallkeep3.AnnotateCutBack': WHATEVER THE INPUT: true; the input reads as it did. -/
def annotateCutBackSpec : ChangeSpec := { name := "annotateCutBack", fn := fun _ => fun
  | [d1, d2, d3] => { results := [.lit (.bool true)], args := [d1, d2, d3] }
  | _ => none }
def annotateCutBackRow : OpenClaim := { program := "ytnieifdogllbfaagreat", sum := "4f1c373c39dbdc4b7d22015a5985ce94c03264f40e218d6599a4c7aa1b32d9b2", func := "gamehall/gamehallkeep3.AnnotateCutBack", spec := "annotateCutBack", inPlace := ["internal/bytealg.IndexByteString"], unfollowed := true, recurses := true, apart := false }
def AnnotateCutBackSaid : Prop := annotateCutBackRow.holds Tryz.pinned (OpenSpec.ofChange annotateCutBackSpec)

/-- ITS FALSE NEIGHBOUR: 'it returns false'. Refute it at one input. -/
def annotateCutBackWrong : ChangeSpec := { name := "annotateCutBack", fn := fun _ => fun
  | [d1, d2, d3] => { results := [.lit (.bool false)], args := [d1, d2, d3] }
  | _ => none }
def AnnotateCutBackWrongFalsely : Prop := annotateCutBackRow.holds Tryz.pinned (OpenSpec.ofChange annotateCutBackWrong)

/-- 'gamehallkeep3.AnnotateMain': WHATEVER THE INPUT: true; the input reads as it did. -/
def annotateMainSpec : ChangeSpec := { name := "annotateMain", fn := fun _ => fun
  | [d1, d2, d3] => { results := [.lit (.bool true)], args := [d1, d2, d3] }
  | _ => none }
def annotateMainRow : OpenClaim := { program := "ytnieifdogllbfaagreat", sum := "4f1c373c39dbdc4b7d22015a5985ce94c03264f40e218d6599a4c7aa1b32d9b2", func := "gamehall/gamehallkeep3.AnnotateMain", spec := "annotateMain", inPlace := ["internal/bytealg.IndexByteString", "slices.overlaps[*gamehall/annotate.branch]"], unfollowed := true, recurses := true, apart := false }
def AnnotateMainSaid : Prop := annotateMainRow.holds Tryz.pinned (OpenSpec.ofChange annotateMainSpec)

/-- ITS FALSE NEIGHBOUR: 'it returns false'. Refute it at one input. -/
def annotateMainWrong : ChangeSpec := { name := "annotateMain", fn := fun _ => fun
  | [d1, d2, d3] => { results := [.lit (.bool false)], args := [d1, d2, d3] }
  | _ => none }
def AnnotateMainWrongFalsely : Prop := annotateMainRow.holds Tryz.pinned (OpenSpec.ofChange annotateMainWrong)

/- THE SECOND FORM. 'bulk': how many values and letters a reading holds, each counted each time it is reached (what is shared counts as often as it is met; a slice's spare places count too). A statement '..UptoSaid' is the law's where the arguments, and the package variables that the reading takes, are together of bulk at most 1048576: NARROWER than '..Said'. Prove '..Said' where nothing that the law and all that it calls make is longer than what came in: it says more and counts as full. Else prove '..UptoSaid'. A law counts once. -/
mutual
def uptoBulk {H : Type} : DataW H → Nat
  | .lit (.string bytes) => bytes.length + 1
  | .lit _ => 1
  | .nil => 1
  | .ptr d => uptoBulk d + 1
  | .slice elems spare => uptoBulkAll elems + uptoBulkAll spare + 1
  | .agg parts => uptoBulkAll parts + 1
  | .iface _ d => uptoBulk d + 1
  | .map entries => uptoBulkEntries entries + 1
  | .held _ => 1
def uptoBulkAll {H : Type} : List (DataW H) → Nat
  | [] => 0
  | d :: r => uptoBulk d + uptoBulkAll r
def uptoBulkEntries {H : Type} : List (Lit × DataW H) → Nat
  | [] => 0
  | x :: r => uptoBulkEntry x + uptoBulkEntries r
def uptoBulkEntry {H : Type} : Lit × DataW H → Nat
  | (.string bytes, d) => bytes.length + uptoBulk d + 1
  | (_, d) => uptoBulk d + 1
 end
def uptoSmall : (H : Type) → List (DataW H) → Bool := fun _ ds => decide (uptoBulkAll ds ≤ 1048576)
def OpenSpec.upto (s : _root_.Go.ChangeSpec) : _root_.Go.OpenSpec := { _root_.Go.OpenSpec.ofChange s with cond := some uptoSmall }

/-- 'gamehallkeep3.AnnotateSelf', WHERE WHAT IT READS IS OF BULK AT MOST 1048576: true; the input reads as it did. -/
def annotateSelfUptoRow : OpenClaim := { program := "ytnieifdogllbfaagreat", sum := "4f1c373c39dbdc4b7d22015a5985ce94c03264f40e218d6599a4c7aa1b32d9b2", func := "gamehall/gamehallkeep3.AnnotateSelf", spec := "annotateSelf", inPlace := ["internal/bytealg.IndexByteString"], unfollowed := true, recurses := true, apart := false, narrowed := true }
def AnnotateSelfUptoSaid : Prop := annotateSelfUptoRow.holds Tryz.pinned (OpenSpec.upto annotateSelfSpec)

/-- 'gamehallkeep3.AnnotateOrder', WHERE WHAT IT READS IS OF BULK AT MOST 1048576: true; the input reads as it did. -/
def annotateOrderUptoRow : OpenClaim := { program := "ytnieifdogllbfaagreat", sum := "4f1c373c39dbdc4b7d22015a5985ce94c03264f40e218d6599a4c7aa1b32d9b2", func := "gamehall/gamehallkeep3.AnnotateOrder", spec := "annotateOrder", inPlace := ["internal/bytealg.IndexByteString"], unfollowed := true, recurses := true, apart := false, narrowed := true }
def AnnotateOrderUptoSaid : Prop := annotateOrderUptoRow.holds Tryz.pinned (OpenSpec.upto annotateOrderSpec)

/-- 'gamehallkeep3.AnnotateCutBack', WHERE WHAT IT READS IS OF BULK AT MOST 1048576: true; the input reads as it did. -/
def annotateCutBackUptoRow : OpenClaim := { program := "ytnieifdogllbfaagreat", sum := "4f1c373c39dbdc4b7d22015a5985ce94c03264f40e218d6599a4c7aa1b32d9b2", func := "gamehall/gamehallkeep3.AnnotateCutBack", spec := "annotateCutBack", inPlace := ["internal/bytealg.IndexByteString"], unfollowed := true, recurses := true, apart := false, narrowed := true }
def AnnotateCutBackUptoSaid : Prop := annotateCutBackUptoRow.holds Tryz.pinned (OpenSpec.upto annotateCutBackSpec)

/-- 'gamehallkeep3.AnnotateMain', WHERE WHAT IT READS IS OF BULK AT MOST 1048576: true; the input reads as it did. -/
def annotateMainUptoRow : OpenClaim := { program := "ytnieifdogllbfaagreat", sum := "4f1c373c39dbdc4b7d22015a5985ce94c03264f40e218d6599a4c7aa1b32d9b2", func := "gamehall/gamehallkeep3.AnnotateMain", spec := "annotateMain", inPlace := ["internal/bytealg.IndexByteString", "slices.overlaps[*gamehall/annotate.branch]"], unfollowed := true, recurses := true, apart := false, narrowed := true }
def AnnotateMainUptoSaid : Prop := annotateMainUptoRow.holds Tryz.pinned (OpenSpec.upto annotateMainSpec)

end Rows
end Go.Proofs.YtnieifdogllbfaaGreat
