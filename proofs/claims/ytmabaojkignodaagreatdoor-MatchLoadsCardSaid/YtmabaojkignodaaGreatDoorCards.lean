/-
  DERIVED. GIVEN WITH THE SEED: THE CARDS: each row of YtmabaojkignodaaGreatDoorRows.lean that lists a variable, with what it lists TIED to the program's text (the seventh form; the later family's looks); each row that meets fmt, with fmt's text TOLD by the authors' own Lean function (tested against real Go, not proved from fmt's source: count such statements apart). THE CARD IS WHAT COUNTS. Prove the row's statement (the work); the ties are given (YtmabaojkignodaaGreatDoorTie.lean); close each card by the builder's one call (the guide's Derived/Test/ToyasCard.lean, 'card_holds'). Laid BY PROGRAM, IN A SANDBOX (cutbox-door.mjs). By AI agents, Wed Nov 11 2026. No macro, syntax, notation, axiom, sorry.
-/
import Derived.Test.YtmabaojkignodaaGreatDoorRows
import GoSem.ClaimSeven
namespace Go.Proofs.YtmabaojkignodaaGreatDoor
namespace Rows

/-- THE TIED CARD OF 'gamehalltop.TopRatings'. -/
def topRatingsCard : Claim7 := { stood := { row := topRatingsRow, standIns := [], harness := (true, "95d226eac4c2fae5ac9c3c7f6bc5f9c48793fb7eb23d7077d0c2226e3549231e"), looks := true }, kinds := [], alts := [], laidByText := true, laidKinds := [.data, .data, .data], laidTests := true, laidLooks := .later }
def TopRatingsCardSaid : Prop := Claim7.holds Tryz.pinned (.plain (OpenSpec.ofChange topRatingsSpec)) topRatingsCard

/-- THE TIED CARD OF 'gamehallkeep3.MatchLoads'. -/
def matchLoadsCard : Claim7 := { stood := { row := matchLoadsRow, standIns := [], harness := (true, "95d226eac4c2fae5ac9c3c7f6bc5f9c48793fb7eb23d7077d0c2226e3549231e"), looks := true }, kinds := [], alts := [], laidByText := true, laidKinds := [.data, .data, .data, .data, .sentinel, .sentinel, .pinned], laidTests := true, laidLooks := .later }
def MatchLoadsCardSaid : Prop := Claim7.holds Tryz.pinned (.plain (OpenSpec.ofChange matchLoadsSpec)) matchLoadsCard

/-- THE TIED CARD OF 'gamehallkeep3.RefereeLegal'. -/
def refereeLegalCard : Claim7 := { stood := { row := refereeLegalRow, standIns := [], harness := (true, "95d226eac4c2fae5ac9c3c7f6bc5f9c48793fb7eb23d7077d0c2226e3549231e"), looks := true }, kinds := [], alts := [], laidByText := true, laidKinds := [.data, .data, .data, .data, .sentinel, .sentinel, .pinned], laidTests := true, laidLooks := .later }
def RefereeLegalCardSaid : Prop := Claim7.holds Tryz.pinned (.plain (OpenSpec.ofChange refereeLegalSpec)) refereeLegalCard

/-- THE TIED CARD OF 'gamehallkeep3.RefereeEarlier'. -/
def refereeEarlierCard : Claim7 := { stood := { row := refereeEarlierRow, standIns := [], harness := (true, "95d226eac4c2fae5ac9c3c7f6bc5f9c48793fb7eb23d7077d0c2226e3549231e"), looks := true }, kinds := [], alts := [], laidByText := true, laidKinds := [.data, .data, .data, .data, .sentinel, .sentinel, .pinned], laidTests := true, laidLooks := .later }
def RefereeEarlierCardSaid : Prop := Claim7.holds Tryz.pinned (.plain (OpenSpec.ofChange refereeEarlierSpec)) refereeEarlierCard

/-- THE SECOND FORM's CARD OF 'gamehalltop.TopRatings'. -/
def topRatingsUptoCard : Claim7 := { stood := { row := topRatingsUptoRow, standIns := [], harness := (true, "95d226eac4c2fae5ac9c3c7f6bc5f9c48793fb7eb23d7077d0c2226e3549231e"), looks := true }, kinds := [], alts := [], laidByText := true, laidKinds := [.data, .data, .data], laidTests := true, laidLooks := .later }
def TopRatingsUptoCardSaid : Prop := Claim7.holds Tryz.pinned (.plain (OpenSpec.upto topRatingsSpec)) topRatingsUptoCard

/-- THE SECOND FORM's CARD OF 'gamehallkeep3.MatchLoads'. -/
def matchLoadsUptoCard : Claim7 := { stood := { row := matchLoadsUptoRow, standIns := [], harness := (true, "95d226eac4c2fae5ac9c3c7f6bc5f9c48793fb7eb23d7077d0c2226e3549231e"), looks := true }, kinds := [], alts := [], laidByText := true, laidKinds := [.data, .data, .data, .data, .sentinel, .sentinel, .pinned], laidTests := true, laidLooks := .later }
def MatchLoadsUptoCardSaid : Prop := Claim7.holds Tryz.pinned (.plain (OpenSpec.upto matchLoadsSpec)) matchLoadsUptoCard

/-- THE SECOND FORM's CARD OF 'gamehallkeep3.RefereeLegal'. -/
def refereeLegalUptoCard : Claim7 := { stood := { row := refereeLegalUptoRow, standIns := [], harness := (true, "95d226eac4c2fae5ac9c3c7f6bc5f9c48793fb7eb23d7077d0c2226e3549231e"), looks := true }, kinds := [], alts := [], laidByText := true, laidKinds := [.data, .data, .data, .data, .sentinel, .sentinel, .pinned], laidTests := true, laidLooks := .later }
def RefereeLegalUptoCardSaid : Prop := Claim7.holds Tryz.pinned (.plain (OpenSpec.upto refereeLegalSpec)) refereeLegalUptoCard

/-- THE SECOND FORM's CARD OF 'gamehallkeep3.RefereeEarlier'. -/
def refereeEarlierUptoCard : Claim7 := { stood := { row := refereeEarlierUptoRow, standIns := [], harness := (true, "95d226eac4c2fae5ac9c3c7f6bc5f9c48793fb7eb23d7077d0c2226e3549231e"), looks := true }, kinds := [], alts := [], laidByText := true, laidKinds := [.data, .data, .data, .data, .sentinel, .sentinel, .pinned], laidTests := true, laidLooks := .later }
def RefereeEarlierUptoCardSaid : Prop := Claim7.holds Tryz.pinned (.plain (OpenSpec.upto refereeEarlierSpec)) refereeEarlierUptoCard
end Rows
end Go.Proofs.YtmabaojkignodaaGreatDoor
