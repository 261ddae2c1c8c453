/-
  DERIVED. GIVEN WITH THE SEED: THE CARDS: each row of YteablcielclaeaaGreatDoorRows.lean that lists a variable, with what it lists TIED to the program's text (the seventh form; the later family's looks); each row that meets fmt, with fmt's text TOLD by the authors' own Lean function (tested against real Go, not proved from fmt's source: count such statements apart). THE CARD IS WHAT COUNTS. Prove the row's statement (the work); the ties are given (YteablcielclaeaaGreatDoorTie.lean); close each card by the builder's one call (the guide's Derived/Test/ToyasCard.lean, 'card_holds'). Laid BY PROGRAM, IN A SANDBOX (cutbox-door.mjs). By AI agents, Wed Nov 11 2026. No macro, syntax, notation, axiom, sorry.
-/
import Derived.Test.YteablcielclaeaaGreatDoorRows
import GoSem.ClaimSeven
namespace Go.Proofs.YteablcielclaeaaGreatDoor
namespace Rows

/-- THE TIED CARD OF 'gamehalltop.TopRatings'. -/
def topRatingsCard : Claim7 := { stood := { row := topRatingsRow, standIns := [], harness := (true, "264f4af2bbb3f996c173a4e6952f772b34631f208a0252790d497dc49dc784c4"), looks := false }, kinds := [], alts := [], laidByText := true, laidKinds := [.data, .data, .data], laidTests := true, laidLooks := .later }
def TopRatingsCardSaid : Prop := Claim7.holds Tryz.pinned (.plain (OpenSpec.ofChange topRatingsSpec)) topRatingsCard

/-- THE TIED CARD OF 'gamehalltop.TopPairings'. -/
def topPairingsCard : Claim7 := { stood := { row := topPairingsRow, standIns := [], harness := (true, "264f4af2bbb3f996c173a4e6952f772b34631f208a0252790d497dc49dc784c4"), looks := false }, kinds := [], alts := [], laidByText := true, laidKinds := [.data, .data, .data], laidTests := true, laidLooks := .later }
def TopPairingsCardSaid : Prop := Claim7.holds Tryz.pinned (.plain (OpenSpec.ofChange topPairingsSpec)) topPairingsCard

/-- THE SECOND FORM's CARD OF 'gamehalltop.TopRatings'. -/
def topRatingsUptoCard : Claim7 := { stood := { row := topRatingsUptoRow, standIns := [], harness := (true, "264f4af2bbb3f996c173a4e6952f772b34631f208a0252790d497dc49dc784c4"), looks := false }, kinds := [], alts := [], laidByText := true, laidKinds := [.data, .data, .data], laidTests := true, laidLooks := .later }
def TopRatingsUptoCardSaid : Prop := Claim7.holds Tryz.pinned (.plain (OpenSpec.upto topRatingsSpec)) topRatingsUptoCard

/-- THE SECOND FORM's CARD OF 'gamehalltop.TopPairings'. -/
def topPairingsUptoCard : Claim7 := { stood := { row := topPairingsUptoRow, standIns := [], harness := (true, "264f4af2bbb3f996c173a4e6952f772b34631f208a0252790d497dc49dc784c4"), looks := false }, kinds := [], alts := [], laidByText := true, laidKinds := [.data, .data, .data], laidTests := true, laidLooks := .later }
def TopPairingsUptoCardSaid : Prop := Claim7.holds Tryz.pinned (.plain (OpenSpec.upto topPairingsSpec)) topPairingsUptoCard
end Rows
end Go.Proofs.YteablcielclaeaaGreatDoor
