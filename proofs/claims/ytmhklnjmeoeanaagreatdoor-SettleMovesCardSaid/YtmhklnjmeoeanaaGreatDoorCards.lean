/-
  DERIVED. GIVEN WITH THE SEED: THE CARDS: each row of YtmhklnjmeoeanaaGreatDoorRows.lean that lists a variable, with what it lists TIED to the program's text (the seventh form; the later family's looks); each row that meets fmt, with fmt's text TOLD by the authors' own Lean function (tested against real Go, not proved from fmt's source: count such statements apart). THE CARD IS WHAT COUNTS. Prove the row's statement (the work); the ties are given (YtmhklnjmeoeanaaGreatDoorTie.lean); close each card by the builder's one call (the guide's Derived/Test/ToyasCard.lean, 'card_holds'). Laid BY PROGRAM, IN A SANDBOX (cutbox-door.mjs). By AI agents, Wed Nov 11 2026. No macro, syntax, notation, axiom, sorry.
-/
import Derived.Test.YtmhklnjmeoeanaaGreatDoorRows
import GoSem.ClaimSeven
namespace Go.Proofs.YtmhklnjmeoeanaaGreatDoor
namespace Rows

/-- THE TIED CARD OF 'tableaulaw25.SettleMoves'. -/
def settleMovesCard : Claim7 := { stood := { row := settleMovesRow, standIns := [], harness := (true, "68c36857d706ab89aacfdf138c7234cfaac0a4555ba9c163e92739641335deaa"), looks := true }, kinds := [], alts := [], laidByText := true, laidKinds := [.data, .data, .data], laidTests := true, laidLooks := .later }
def SettleMovesCardSaid : Prop := Claim7.holds Tryz.pinned (.plain (OpenSpec.ofChange settleMovesSpec)) settleMovesCard

/-- THE TIED CARD OF 'tableaulaw25.SettleRounds'. -/
def settleRoundsCard : Claim7 := { stood := { row := settleRoundsRow, standIns := [], harness := (true, "68c36857d706ab89aacfdf138c7234cfaac0a4555ba9c163e92739641335deaa"), looks := true }, kinds := [], alts := [], laidByText := true, laidKinds := [.data, .data, .data], laidTests := true, laidLooks := .later }
def SettleRoundsCardSaid : Prop := Claim7.holds Tryz.pinned (.plain (OpenSpec.ofChange settleRoundsSpec)) settleRoundsCard

/-- THE TIED CARD OF 'tableaulaw25.SettleStays'. -/
def settleStaysCard : Claim7 := { stood := { row := settleStaysRow, standIns := [], harness := (true, "68c36857d706ab89aacfdf138c7234cfaac0a4555ba9c163e92739641335deaa"), looks := true }, kinds := [], alts := [], laidByText := true, laidKinds := [.data, .data, .data], laidTests := true, laidLooks := .later }
def SettleStaysCardSaid : Prop := Claim7.holds Tryz.pinned (.plain (OpenSpec.ofChange settleStaysSpec)) settleStaysCard

/-- THE SECOND FORM's CARD OF 'tableaulaw25.SettleMoves'. -/
def settleMovesUptoCard : Claim7 := { stood := { row := settleMovesUptoRow, standIns := [], harness := (true, "68c36857d706ab89aacfdf138c7234cfaac0a4555ba9c163e92739641335deaa"), looks := true }, kinds := [], alts := [], laidByText := true, laidKinds := [.data, .data, .data], laidTests := true, laidLooks := .later }
def SettleMovesUptoCardSaid : Prop := Claim7.holds Tryz.pinned (.plain (OpenSpec.upto settleMovesSpec)) settleMovesUptoCard

/-- THE SECOND FORM's CARD OF 'tableaulaw25.SettleRounds'. -/
def settleRoundsUptoCard : Claim7 := { stood := { row := settleRoundsUptoRow, standIns := [], harness := (true, "68c36857d706ab89aacfdf138c7234cfaac0a4555ba9c163e92739641335deaa"), looks := true }, kinds := [], alts := [], laidByText := true, laidKinds := [.data, .data, .data], laidTests := true, laidLooks := .later }
def SettleRoundsUptoCardSaid : Prop := Claim7.holds Tryz.pinned (.plain (OpenSpec.upto settleRoundsSpec)) settleRoundsUptoCard

/-- THE SECOND FORM's CARD OF 'tableaulaw25.SettleStays'. -/
def settleStaysUptoCard : Claim7 := { stood := { row := settleStaysUptoRow, standIns := [], harness := (true, "68c36857d706ab89aacfdf138c7234cfaac0a4555ba9c163e92739641335deaa"), looks := true }, kinds := [], alts := [], laidByText := true, laidKinds := [.data, .data, .data], laidTests := true, laidLooks := .later }
def SettleStaysUptoCardSaid : Prop := Claim7.holds Tryz.pinned (.plain (OpenSpec.upto settleStaysSpec)) settleStaysUptoCard
end Rows
end Go.Proofs.YtmhklnjmeoeanaaGreatDoor
