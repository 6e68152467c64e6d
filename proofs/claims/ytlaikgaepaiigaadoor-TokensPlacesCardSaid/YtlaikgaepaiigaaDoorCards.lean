/-
  DERIVED. GIVEN WITH THE SEED: THE CARDS: each row of YtlaikgaepaiigaaDoorRows.lean that lists a variable, with what it lists TIED to the program's text (the seventh form; the later family's looks); each row that meets fmt, with fmt's text TOLD by the authors' own Lean function (tested against real Go, not proved from fmt's source: count such statements apart). THE CARD IS WHAT COUNTS. Prove the row's statement (the work); the ties are given (YtlaikgaepaiigaaDoorTie.lean); close each card by the builder's one call (the guide's Derived/Test/ToyasCard.lean, 'card_holds'). Laid BY PROGRAM, IN A SANDBOX (cutbox-door.mjs). By AI agents, Wed Nov 11 2026. No macro, syntax, notation, axiom, sorry.
-/
import Derived.Test.YtlaikgaepaiigaaDoorRows
import GoSem.ClaimSeven
namespace Go.Proofs.YtlaikgaepaiigaaDoor
namespace Rows

/-- THE TIED CARD OF 'tableaulaw08.TokensCuts'. -/
def tokensCutsCard : Claim7 := { stood := { row := tokensCutsRow, standIns := [], harness := (true, "ae7ccef7e0875972640b8d2a3441624868796e7341438a232a424289183ee3d9"), looks := true }, kinds := [], alts := [], laidByText := true, laidKinds := [.data, .data, .data, .sentinel, .sentinel], laidTests := true, laidLooks := .later }
def TokensCutsCardSaid : Prop := Claim7.holds Tryd.pinned (.plain (OpenSpec.ofChange tokensCutsSpec)) tokensCutsCard

/-- THE TIED CARD OF 'tableaulaw08.TokensLines'. -/
def tokensLinesCard : Claim7 := { stood := { row := tokensLinesRow, standIns := [], harness := (true, "ae7ccef7e0875972640b8d2a3441624868796e7341438a232a424289183ee3d9"), looks := true }, kinds := [], alts := [], laidByText := true, laidKinds := [.data, .data, .data, .sentinel, .sentinel], laidTests := true, laidLooks := .later }
def TokensLinesCardSaid : Prop := Claim7.holds Tryd.pinned (.plain (OpenSpec.ofChange tokensLinesSpec)) tokensLinesCard

/-- THE TIED CARD OF 'tableaulaw08.TokensPlaces'. -/
def tokensPlacesCard : Claim7 := { stood := { row := tokensPlacesRow, standIns := [], harness := (true, "ae7ccef7e0875972640b8d2a3441624868796e7341438a232a424289183ee3d9"), looks := true }, kinds := [], alts := [], laidByText := true, laidKinds := [.data, .data, .data, .sentinel, .sentinel], laidTests := true, laidLooks := .later }
def TokensPlacesCardSaid : Prop := Claim7.holds Tryd.pinned (.plain (OpenSpec.ofChange tokensPlacesSpec)) tokensPlacesCard

/-- THE SECOND FORM's CARD OF 'tableaulaw08.TokensCuts'. -/
def tokensCutsUptoCard : Claim7 := { stood := { row := tokensCutsUptoRow, standIns := [], harness := (true, "ae7ccef7e0875972640b8d2a3441624868796e7341438a232a424289183ee3d9"), looks := true }, kinds := [], alts := [], laidByText := true, laidKinds := [.data, .data, .data, .sentinel, .sentinel], laidTests := true, laidLooks := .later }
def TokensCutsUptoCardSaid : Prop := Claim7.holds Tryd.pinned (.plain (OpenSpec.upto tokensCutsSpec)) tokensCutsUptoCard

/-- THE SECOND FORM's CARD OF 'tableaulaw08.TokensLines'. -/
def tokensLinesUptoCard : Claim7 := { stood := { row := tokensLinesUptoRow, standIns := [], harness := (true, "ae7ccef7e0875972640b8d2a3441624868796e7341438a232a424289183ee3d9"), looks := true }, kinds := [], alts := [], laidByText := true, laidKinds := [.data, .data, .data, .sentinel, .sentinel], laidTests := true, laidLooks := .later }
def TokensLinesUptoCardSaid : Prop := Claim7.holds Tryd.pinned (.plain (OpenSpec.upto tokensLinesSpec)) tokensLinesUptoCard

/-- THE SECOND FORM's CARD OF 'tableaulaw08.TokensPlaces'. -/
def tokensPlacesUptoCard : Claim7 := { stood := { row := tokensPlacesUptoRow, standIns := [], harness := (true, "ae7ccef7e0875972640b8d2a3441624868796e7341438a232a424289183ee3d9"), looks := true }, kinds := [], alts := [], laidByText := true, laidKinds := [.data, .data, .data, .sentinel, .sentinel], laidTests := true, laidLooks := .later }
def TokensPlacesUptoCardSaid : Prop := Claim7.holds Tryd.pinned (.plain (OpenSpec.upto tokensPlacesSpec)) tokensPlacesUptoCard
end Rows
end Go.Proofs.YtlaikgaepaiigaaDoor
