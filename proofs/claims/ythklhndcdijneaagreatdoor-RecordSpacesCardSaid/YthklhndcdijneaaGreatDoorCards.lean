/-
  DERIVED. GIVEN WITH THE SEED: THE CARDS: each row of YthklhndcdijneaaGreatDoorRows.lean that lists a variable, with what it lists TIED to the program's text (the seventh form; the later family's looks); each row that meets fmt, with fmt's text TOLD by the authors' own Lean function (tested against real Go, not proved from fmt's source: count such statements apart). THE CARD IS WHAT COUNTS. Prove the row's statement (the work); the ties are given (YthklhndcdijneaaGreatDoorTie.lean); close each card by the builder's one call (the guide's Derived/Test/ToyasCard.lean, 'card_holds'). Laid BY PROGRAM, IN A SANDBOX (cutbox-door.mjs). By AI agents, Wed Nov 11 2026. No macro, syntax, notation, axiom, sorry.
-/
import Derived.Test.YthklhndcdijneaaGreatDoorRows
import GoSem.ClaimSeven
namespace Go.Proofs.YthklhndcdijneaaGreatDoor
namespace Rows

/-- THE TIED CARD OF 'gamehallkeep3.RecordBack'. -/
def recordBackCard : Claim7 := { stood := { row := recordBackRow, standIns := [], harness := (true, "d0bf98431bd57ebdcd35c136713ba91f6336cccdec9ba96c8b94636a51e9e837"), looks := true }, kinds := [], alts := [], laidByText := true, laidKinds := [.data, .pinned], laidTests := true, laidLooks := .later }
def RecordBackCardSaid : Prop := Claim7.holds Tryz.pinned (.plain (OpenSpec.ofChange recordBackSpec)) recordBackCard

/-- THE TIED CARD OF 'gamehallkeep3.RecordReads'. -/
def recordReadsCard : Claim7 := { stood := { row := recordReadsRow, standIns := [], harness := (true, "d0bf98431bd57ebdcd35c136713ba91f6336cccdec9ba96c8b94636a51e9e837"), looks := true }, kinds := [], alts := [], laidByText := true, laidKinds := [.data, .pinned], laidTests := true, laidLooks := .later }
def RecordReadsCardSaid : Prop := Claim7.holds Tryz.pinned (.plain (OpenSpec.ofChange recordReadsSpec)) recordReadsCard

/-- THE TIED CARD OF 'gamehallkeep3.RecordSpaces'. -/
def recordSpacesCard : Claim7 := { stood := { row := recordSpacesRow, standIns := [], harness := (true, "d0bf98431bd57ebdcd35c136713ba91f6336cccdec9ba96c8b94636a51e9e837"), looks := true }, kinds := [], alts := [], laidByText := true, laidKinds := [.data, .pinned], laidTests := true, laidLooks := .later }
def RecordSpacesCardSaid : Prop := Claim7.holds Tryz.pinned (.plain (OpenSpec.ofChange recordSpacesSpec)) recordSpacesCard

/-- THE SECOND FORM's CARD OF 'gamehallkeep3.RecordBack'. -/
def recordBackUptoCard : Claim7 := { stood := { row := recordBackUptoRow, standIns := [], harness := (true, "d0bf98431bd57ebdcd35c136713ba91f6336cccdec9ba96c8b94636a51e9e837"), looks := true }, kinds := [], alts := [], laidByText := true, laidKinds := [.data, .pinned], laidTests := true, laidLooks := .later }
def RecordBackUptoCardSaid : Prop := Claim7.holds Tryz.pinned (.plain (OpenSpec.upto recordBackSpec)) recordBackUptoCard

/-- THE SECOND FORM's CARD OF 'gamehallkeep3.RecordReads'. -/
def recordReadsUptoCard : Claim7 := { stood := { row := recordReadsUptoRow, standIns := [], harness := (true, "d0bf98431bd57ebdcd35c136713ba91f6336cccdec9ba96c8b94636a51e9e837"), looks := true }, kinds := [], alts := [], laidByText := true, laidKinds := [.data, .pinned], laidTests := true, laidLooks := .later }
def RecordReadsUptoCardSaid : Prop := Claim7.holds Tryz.pinned (.plain (OpenSpec.upto recordReadsSpec)) recordReadsUptoCard

/-- THE SECOND FORM's CARD OF 'gamehallkeep3.RecordSpaces'. -/
def recordSpacesUptoCard : Claim7 := { stood := { row := recordSpacesUptoRow, standIns := [], harness := (true, "d0bf98431bd57ebdcd35c136713ba91f6336cccdec9ba96c8b94636a51e9e837"), looks := true }, kinds := [], alts := [], laidByText := true, laidKinds := [.data, .pinned], laidTests := true, laidLooks := .later }
def RecordSpacesUptoCardSaid : Prop := Claim7.holds Tryz.pinned (.plain (OpenSpec.upto recordSpacesSpec)) recordSpacesUptoCard
end Rows
end Go.Proofs.YthklhndcdijneaaGreatDoor
