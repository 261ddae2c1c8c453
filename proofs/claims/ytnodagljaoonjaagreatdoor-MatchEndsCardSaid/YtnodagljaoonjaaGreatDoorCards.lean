/-
  DERIVED. GIVEN WITH THE SEED: THE CARDS: each row of YtnodagljaoonjaaGreatDoorRows.lean that lists a variable, with what it lists TIED to the program's text (the seventh form; the later family's looks); each row that meets fmt, with fmt's text TOLD by the authors' own Lean function (tested against real Go, not proved from fmt's source: count such statements apart). THE CARD IS WHAT COUNTS. Prove the row's statement (the work); the ties are given (YtnodagljaoonjaaGreatDoorTie.lean); close each card by the builder's one call (the guide's Derived/Test/ToyasCard.lean, 'card_holds'). Laid BY PROGRAM, IN A SANDBOX (cutbox-door.mjs). By AI agents, Wed Nov 11 2026. No macro, syntax, notation, axiom, sorry.
-/
import Derived.Test.YtnodagljaoonjaaGreatDoorRows
import GoSem.ClaimSeven
namespace Go.Proofs.YtnodagljaoonjaaGreatDoor
namespace Rows

/-- THE TIED CARD OF 'gamehallkeep3.MatchRefuses'. -/
def matchRefusesCard : Claim7 := { stood := { row := matchRefusesRow, standIns := [], harness := (true, "3cc1b770f57a60096861623d4743e2d758d5545550eba55ccec9c455ae6f24a2"), looks := true }, kinds := [], alts := [], laidByText := true, laidKinds := [.data, .data, .data], laidTests := true, laidLooks := .later }
def MatchRefusesCardSaid : Prop := Claim7.holds Tryz.pinned (.plain (OpenSpec.ofChange matchRefusesSpec)) matchRefusesCard

/-- THE TIED CARD OF 'gamehallkeep3.MatchEnds'. -/
def matchEndsCard : Claim7 := { stood := { row := matchEndsRow, standIns := [], harness := (true, "3cc1b770f57a60096861623d4743e2d758d5545550eba55ccec9c455ae6f24a2"), looks := true }, kinds := [], alts := [], laidByText := true, laidKinds := [.data, .data, .data], laidTests := true, laidLooks := .later }
def MatchEndsCardSaid : Prop := Claim7.holds Tryz.pinned (.plain (OpenSpec.ofChange matchEndsSpec)) matchEndsCard

/-- THE TIED CARD OF 'gamehallkeep3.MatchLoads'. -/
def matchLoadsCard : Claim7 := { stood := { row := matchLoadsRow, standIns := [], harness := (true, "3cc1b770f57a60096861623d4743e2d758d5545550eba55ccec9c455ae6f24a2"), looks := true }, kinds := [], alts := [], laidByText := true, laidKinds := [.data, .data, .data, .data, .sentinel, .sentinel, .pinned], laidTests := true, laidLooks := .later }
def MatchLoadsCardSaid : Prop := Claim7.holds Tryz.pinned (.plain (OpenSpec.ofChange matchLoadsSpec)) matchLoadsCard

/-- THE SECOND FORM's CARD OF 'gamehallkeep3.MatchRefuses'. -/
def matchRefusesUptoCard : Claim7 := { stood := { row := matchRefusesUptoRow, standIns := [], harness := (true, "3cc1b770f57a60096861623d4743e2d758d5545550eba55ccec9c455ae6f24a2"), looks := true }, kinds := [], alts := [], laidByText := true, laidKinds := [.data, .data, .data], laidTests := true, laidLooks := .later }
def MatchRefusesUptoCardSaid : Prop := Claim7.holds Tryz.pinned (.plain (OpenSpec.upto matchRefusesSpec)) matchRefusesUptoCard

/-- THE SECOND FORM's CARD OF 'gamehallkeep3.MatchEnds'. -/
def matchEndsUptoCard : Claim7 := { stood := { row := matchEndsUptoRow, standIns := [], harness := (true, "3cc1b770f57a60096861623d4743e2d758d5545550eba55ccec9c455ae6f24a2"), looks := true }, kinds := [], alts := [], laidByText := true, laidKinds := [.data, .data, .data], laidTests := true, laidLooks := .later }
def MatchEndsUptoCardSaid : Prop := Claim7.holds Tryz.pinned (.plain (OpenSpec.upto matchEndsSpec)) matchEndsUptoCard

/-- THE SECOND FORM's CARD OF 'gamehallkeep3.MatchLoads'. -/
def matchLoadsUptoCard : Claim7 := { stood := { row := matchLoadsUptoRow, standIns := [], harness := (true, "3cc1b770f57a60096861623d4743e2d758d5545550eba55ccec9c455ae6f24a2"), looks := true }, kinds := [], alts := [], laidByText := true, laidKinds := [.data, .data, .data, .data, .sentinel, .sentinel, .pinned], laidTests := true, laidLooks := .later }
def MatchLoadsUptoCardSaid : Prop := Claim7.holds Tryz.pinned (.plain (OpenSpec.upto matchLoadsSpec)) matchLoadsUptoCard
end Rows
end Go.Proofs.YtnodagljaoonjaaGreatDoor
