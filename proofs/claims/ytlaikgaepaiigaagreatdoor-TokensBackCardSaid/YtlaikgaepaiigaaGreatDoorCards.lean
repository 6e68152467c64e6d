/-
  DERIVED. GIVEN WITH THE SEED: THE CARDS: each row of YtlaikgaepaiigaaGreatDoorRows.lean that lists a variable, with what it lists TIED to the program's text (the seventh form; the later family's looks); each row that meets fmt, with fmt's text TOLD by the authors' own Lean function (tested against real Go, not proved from fmt's source: count such statements apart). THE CARD IS WHAT COUNTS. Prove the row's statement (the work); the ties are given (YtlaikgaepaiigaaGreatDoorTie.lean); close each card by the builder's one call (the guide's Derived/Test/ToyasCard.lean, 'card_holds'). Laid BY PROGRAM, IN A SANDBOX (cutbox-door.mjs). By AI agents, Wed Nov 11 2026. No macro, syntax, notation, axiom, sorry.
-/
import Derived.Test.YtlaikgaepaiigaaGreatDoorRows
import GoSem.ClaimSeven
namespace Go.Proofs.YtlaikgaepaiigaaGreatDoor
namespace Rows

/-- THE TIED CARD OF 'tableaulaw08.TokensTexts'. -/
def tokensTextsCard : Claim7 := { stood := { row := tokensTextsRow, standIns := [], harness := (true, "b34f7ed0ecf4c1046a41ddb2da1d8595b1ad5b196f3b3ae7ced8a109b0f53075"), looks := true }, kinds := [], alts := [], laidByText := true, laidKinds := [.data, .data, .data, .sentinel, .sentinel], laidTests := true, laidLooks := .later }
def TokensTextsCardSaid : Prop := Claim7.holds Tryz.pinned (.plain (OpenSpec.ofChange tokensTextsSpec)) tokensTextsCard

/-- THE TIED CARD OF 'tableaulaw08.TokensBack'. -/
def tokensBackCard : Claim7 := { stood := { row := tokensBackRow, standIns := [], harness := (true, "b34f7ed0ecf4c1046a41ddb2da1d8595b1ad5b196f3b3ae7ced8a109b0f53075"), looks := true }, kinds := [], alts := [], laidByText := true, laidKinds := [.data, .data, .data, .sentinel, .sentinel], laidTests := true, laidLooks := .later }
def TokensBackCardSaid : Prop := Claim7.holds Tryz.pinned (.plain (OpenSpec.ofChange tokensBackSpec)) tokensBackCard

/-- THE TIED CARD OF 'tableaulaw08.TokensStand'. -/
def tokensStandCard : Claim7 := { stood := { row := tokensStandRow, standIns := [], harness := (true, "b34f7ed0ecf4c1046a41ddb2da1d8595b1ad5b196f3b3ae7ced8a109b0f53075"), looks := true }, kinds := [], alts := [], laidByText := true, laidKinds := [.data, .data, .data, .sentinel, .sentinel], laidTests := true, laidLooks := .later }
def TokensStandCardSaid : Prop := Claim7.holds Tryz.pinned (.plain (OpenSpec.ofChange tokensStandSpec)) tokensStandCard

/-- THE SECOND FORM's CARD OF 'tableaulaw08.TokensTexts'. -/
def tokensTextsUptoCard : Claim7 := { stood := { row := tokensTextsUptoRow, standIns := [], harness := (true, "b34f7ed0ecf4c1046a41ddb2da1d8595b1ad5b196f3b3ae7ced8a109b0f53075"), looks := true }, kinds := [], alts := [], laidByText := true, laidKinds := [.data, .data, .data, .sentinel, .sentinel], laidTests := true, laidLooks := .later }
def TokensTextsUptoCardSaid : Prop := Claim7.holds Tryz.pinned (.plain (OpenSpec.upto tokensTextsSpec)) tokensTextsUptoCard

/-- THE SECOND FORM's CARD OF 'tableaulaw08.TokensBack'. -/
def tokensBackUptoCard : Claim7 := { stood := { row := tokensBackUptoRow, standIns := [], harness := (true, "b34f7ed0ecf4c1046a41ddb2da1d8595b1ad5b196f3b3ae7ced8a109b0f53075"), looks := true }, kinds := [], alts := [], laidByText := true, laidKinds := [.data, .data, .data, .sentinel, .sentinel], laidTests := true, laidLooks := .later }
def TokensBackUptoCardSaid : Prop := Claim7.holds Tryz.pinned (.plain (OpenSpec.upto tokensBackSpec)) tokensBackUptoCard

/-- THE SECOND FORM's CARD OF 'tableaulaw08.TokensStand'. -/
def tokensStandUptoCard : Claim7 := { stood := { row := tokensStandUptoRow, standIns := [], harness := (true, "b34f7ed0ecf4c1046a41ddb2da1d8595b1ad5b196f3b3ae7ced8a109b0f53075"), looks := true }, kinds := [], alts := [], laidByText := true, laidKinds := [.data, .data, .data, .sentinel, .sentinel], laidTests := true, laidLooks := .later }
def TokensStandUptoCardSaid : Prop := Claim7.holds Tryz.pinned (.plain (OpenSpec.upto tokensStandSpec)) tokensStandUptoCard
end Rows
end Go.Proofs.YtlaikgaepaiigaaGreatDoor
