/-
  DERIVED. GIVEN WITH THE SEED: THE CARDS: each row of YtamienmbpdbnnaaDoorRows.lean that lists a variable, with what it lists TIED to the program's text (the seventh form; the later family's looks); each row that meets fmt, with fmt's text TOLD by the authors' own Lean function (tested against real Go, not proved from fmt's source: count such statements apart). THE CARD IS WHAT COUNTS. Prove the row's statement (the work); the ties are given (YtamienmbpdbnnaaDoorTie.lean); close each card by the builder's one call (the guide's Derived/Test/ToyasCard.lean, 'card_holds'). Laid BY PROGRAM, IN A SANDBOX (cutbox-door.mjs). By AI agents, Wed Nov 11 2026. No macro, syntax, notation, axiom, sorry.
-/
import Derived.Test.YtamienmbpdbnnaaDoorRows
import GoSem.ClaimSeven
namespace Go.Proofs.YtamienmbpdbnnaaDoor
namespace Rows

/-- THE TIED CARD OF 'tableaulaw09.TreeBehinds'. -/
def treeBehindsCard : Claim7 := { stood := { row := treeBehindsRow, standIns := [], harness := (true, "e64d7fc2b6801bfb2321f1f48965b81472010383a85b15d28df38ea4287476a1"), looks := false }, kinds := [], alts := [], laidByText := true, laidKinds := [.data, .data, .data], laidTests := true, laidLooks := .later }
def TreeBehindsCardSaid : Prop := Claim7.holds Tryd.pinned (.plain (OpenSpec.ofChange treeBehindsSpec)) treeBehindsCard

/-- THE SECOND FORM's CARD OF 'tableaulaw09.TreeBehinds'. -/
def treeBehindsUptoCard : Claim7 := { stood := { row := treeBehindsUptoRow, standIns := [], harness := (true, "e64d7fc2b6801bfb2321f1f48965b81472010383a85b15d28df38ea4287476a1"), looks := false }, kinds := [], alts := [], laidByText := true, laidKinds := [.data, .data, .data], laidTests := true, laidLooks := .later }
def TreeBehindsUptoCardSaid : Prop := Claim7.holds Tryd.pinned (.plain (OpenSpec.upto treeBehindsSpec)) treeBehindsUptoCard
end Rows
end Go.Proofs.YtamienmbpdbnnaaDoor
