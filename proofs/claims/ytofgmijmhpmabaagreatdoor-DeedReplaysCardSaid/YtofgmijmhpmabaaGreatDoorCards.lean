/-
  DERIVED. GIVEN WITH THE SEED: THE CARDS: each row of YtofgmijmhpmabaaGreatDoorRows.lean that lists a variable, with what it lists TIED to the program's text (the seventh form; the later family's looks); each row that meets fmt, with fmt's text TOLD by the authors' own Lean function (tested against real Go, not proved from fmt's source: count such statements apart). THE CARD IS WHAT COUNTS. Prove the row's statement (the work); the ties are given (YtofgmijmhpmabaaGreatDoorTie.lean); close each card by the builder's one call (the guide's Derived/Test/ToyasCard.lean, 'card_holds'). Laid BY PROGRAM, IN A SANDBOX (cutbox-door.mjs). By AI agents, Wed Nov 11 2026. No macro, syntax, notation, axiom, sorry.
-/
import Derived.Test.YtofgmijmhpmabaaGreatDoorRows
import GoSem.ClaimSeven
namespace Go.Proofs.YtofgmijmhpmabaaGreatDoor
namespace Rows

/-- THE TIED CARD OF 'tableaulaw06.DeedApplies'. -/
def deedAppliesCard : Claim7 := { stood := { row := deedAppliesRow, standIns := [], harness := (true, "80f7cd3689410ccd7dd12a5c576e480ea786aed426f35a36fc4e034d3bb9b1bb"), looks := true }, kinds := [], alts := [], laidByText := true, laidKinds := [.data, .data, .data], laidTests := true, laidLooks := .later }
def DeedAppliesCardSaid : Prop := Claim7.holds Tryz.pinned (.plain (OpenSpec.ofChange deedAppliesSpec)) deedAppliesCard

/-- THE TIED CARD OF 'tableaulaw06.DeedUndoes'. -/
def deedUndoesCard : Claim7 := { stood := { row := deedUndoesRow, standIns := [], harness := (true, "80f7cd3689410ccd7dd12a5c576e480ea786aed426f35a36fc4e034d3bb9b1bb"), looks := true }, kinds := [], alts := [], laidByText := true, laidKinds := [.data, .data, .data], laidTests := true, laidLooks := .later }
def DeedUndoesCardSaid : Prop := Claim7.holds Tryz.pinned (.plain (OpenSpec.ofChange deedUndoesSpec)) deedUndoesCard

/-- THE TIED CARD OF 'tableaulaw06.DeedThere'. -/
def deedThereCard : Claim7 := { stood := { row := deedThereRow, standIns := [], harness := (true, "80f7cd3689410ccd7dd12a5c576e480ea786aed426f35a36fc4e034d3bb9b1bb"), looks := true }, kinds := [], alts := [], laidByText := true, laidKinds := [.data, .data, .data], laidTests := true, laidLooks := .later }
def DeedThereCardSaid : Prop := Claim7.holds Tryz.pinned (.plain (OpenSpec.ofChange deedThereSpec)) deedThereCard

/-- THE TIED CARD OF 'tableaulaw06.DeedTexts'. -/
def deedTextsCard : Claim7 := { stood := { row := deedTextsRow, standIns := [], harness := (true, "80f7cd3689410ccd7dd12a5c576e480ea786aed426f35a36fc4e034d3bb9b1bb"), looks := true }, kinds := [], alts := [], laidByText := true, laidKinds := [.data, .data, .data], laidTests := true, laidLooks := .later }
def DeedTextsCardSaid : Prop := Claim7.holds Tryz.pinned (.plain (OpenSpec.ofChange deedTextsSpec)) deedTextsCard

/-- THE TIED CARD OF 'tableaulaw06.DeedReplays'. -/
def deedReplaysCard : Claim7 := { stood := { row := deedReplaysRow, standIns := [], harness := (true, "80f7cd3689410ccd7dd12a5c576e480ea786aed426f35a36fc4e034d3bb9b1bb"), looks := true }, kinds := [], alts := [], laidByText := true, laidKinds := [.data, .data, .data], laidTests := true, laidLooks := .later }
def DeedReplaysCardSaid : Prop := Claim7.holds Tryz.pinned (.plain (OpenSpec.ofChange deedReplaysSpec)) deedReplaysCard

/-- THE TIED CARD OF 'tableaulaw06.DeedAdds'. -/
def deedAddsCard : Claim7 := { stood := { row := deedAddsRow, standIns := [], harness := (true, "80f7cd3689410ccd7dd12a5c576e480ea786aed426f35a36fc4e034d3bb9b1bb"), looks := true }, kinds := [], alts := [], laidByText := true, laidKinds := [.data, .data, .data], laidTests := true, laidLooks := .later }
def DeedAddsCardSaid : Prop := Claim7.holds Tryz.pinned (.plain (OpenSpec.ofChange deedAddsSpec)) deedAddsCard

/-- THE TIED CARD OF 'tableaulaw06.DeedMakes'. -/
def deedMakesCard : Claim7 := { stood := { row := deedMakesRow, standIns := [], harness := (true, "80f7cd3689410ccd7dd12a5c576e480ea786aed426f35a36fc4e034d3bb9b1bb"), looks := true }, kinds := [], alts := [], laidByText := true, laidKinds := [.data, .data, .data], laidTests := true, laidLooks := .later }
def DeedMakesCardSaid : Prop := Claim7.holds Tryz.pinned (.plain (OpenSpec.ofChange deedMakesSpec)) deedMakesCard

/-- THE TIED CARD OF 'tableaulaw06.DeedFits'. -/
def deedFitsCard : Claim7 := { stood := { row := deedFitsRow, standIns := [], harness := (true, "80f7cd3689410ccd7dd12a5c576e480ea786aed426f35a36fc4e034d3bb9b1bb"), looks := true }, kinds := [], alts := [], laidByText := true, laidKinds := [.data, .data, .data], laidTests := true, laidLooks := .later }
def DeedFitsCardSaid : Prop := Claim7.holds Tryz.pinned (.plain (OpenSpec.ofChange deedFitsSpec)) deedFitsCard

/-- THE TIED CARD OF 'tableaulaw06.DeedBack'. -/
def deedBackCard : Claim7 := { stood := { row := deedBackRow, standIns := [], harness := (true, "80f7cd3689410ccd7dd12a5c576e480ea786aed426f35a36fc4e034d3bb9b1bb"), looks := true }, kinds := [], alts := [], laidByText := true, laidKinds := [.data, .data, .data], laidTests := true, laidLooks := .later }
def DeedBackCardSaid : Prop := Claim7.holds Tryz.pinned (.plain (OpenSpec.ofChange deedBackSpec)) deedBackCard

/-- THE SECOND FORM's CARD OF 'tableaulaw06.DeedApplies'. -/
def deedAppliesUptoCard : Claim7 := { stood := { row := deedAppliesUptoRow, standIns := [], harness := (true, "80f7cd3689410ccd7dd12a5c576e480ea786aed426f35a36fc4e034d3bb9b1bb"), looks := true }, kinds := [], alts := [], laidByText := true, laidKinds := [.data, .data, .data], laidTests := true, laidLooks := .later }
def DeedAppliesUptoCardSaid : Prop := Claim7.holds Tryz.pinned (.plain (OpenSpec.upto deedAppliesSpec)) deedAppliesUptoCard

/-- THE SECOND FORM's CARD OF 'tableaulaw06.DeedUndoes'. -/
def deedUndoesUptoCard : Claim7 := { stood := { row := deedUndoesUptoRow, standIns := [], harness := (true, "80f7cd3689410ccd7dd12a5c576e480ea786aed426f35a36fc4e034d3bb9b1bb"), looks := true }, kinds := [], alts := [], laidByText := true, laidKinds := [.data, .data, .data], laidTests := true, laidLooks := .later }
def DeedUndoesUptoCardSaid : Prop := Claim7.holds Tryz.pinned (.plain (OpenSpec.upto deedUndoesSpec)) deedUndoesUptoCard

/-- THE SECOND FORM's CARD OF 'tableaulaw06.DeedThere'. -/
def deedThereUptoCard : Claim7 := { stood := { row := deedThereUptoRow, standIns := [], harness := (true, "80f7cd3689410ccd7dd12a5c576e480ea786aed426f35a36fc4e034d3bb9b1bb"), looks := true }, kinds := [], alts := [], laidByText := true, laidKinds := [.data, .data, .data], laidTests := true, laidLooks := .later }
def DeedThereUptoCardSaid : Prop := Claim7.holds Tryz.pinned (.plain (OpenSpec.upto deedThereSpec)) deedThereUptoCard

/-- THE SECOND FORM's CARD OF 'tableaulaw06.DeedTexts'. -/
def deedTextsUptoCard : Claim7 := { stood := { row := deedTextsUptoRow, standIns := [], harness := (true, "80f7cd3689410ccd7dd12a5c576e480ea786aed426f35a36fc4e034d3bb9b1bb"), looks := true }, kinds := [], alts := [], laidByText := true, laidKinds := [.data, .data, .data], laidTests := true, laidLooks := .later }
def DeedTextsUptoCardSaid : Prop := Claim7.holds Tryz.pinned (.plain (OpenSpec.upto deedTextsSpec)) deedTextsUptoCard

/-- THE SECOND FORM's CARD OF 'tableaulaw06.DeedReplays'. -/
def deedReplaysUptoCard : Claim7 := { stood := { row := deedReplaysUptoRow, standIns := [], harness := (true, "80f7cd3689410ccd7dd12a5c576e480ea786aed426f35a36fc4e034d3bb9b1bb"), looks := true }, kinds := [], alts := [], laidByText := true, laidKinds := [.data, .data, .data], laidTests := true, laidLooks := .later }
def DeedReplaysUptoCardSaid : Prop := Claim7.holds Tryz.pinned (.plain (OpenSpec.upto deedReplaysSpec)) deedReplaysUptoCard

/-- THE SECOND FORM's CARD OF 'tableaulaw06.DeedAdds'. -/
def deedAddsUptoCard : Claim7 := { stood := { row := deedAddsUptoRow, standIns := [], harness := (true, "80f7cd3689410ccd7dd12a5c576e480ea786aed426f35a36fc4e034d3bb9b1bb"), looks := true }, kinds := [], alts := [], laidByText := true, laidKinds := [.data, .data, .data], laidTests := true, laidLooks := .later }
def DeedAddsUptoCardSaid : Prop := Claim7.holds Tryz.pinned (.plain (OpenSpec.upto deedAddsSpec)) deedAddsUptoCard

/-- THE SECOND FORM's CARD OF 'tableaulaw06.DeedMakes'. -/
def deedMakesUptoCard : Claim7 := { stood := { row := deedMakesUptoRow, standIns := [], harness := (true, "80f7cd3689410ccd7dd12a5c576e480ea786aed426f35a36fc4e034d3bb9b1bb"), looks := true }, kinds := [], alts := [], laidByText := true, laidKinds := [.data, .data, .data], laidTests := true, laidLooks := .later }
def DeedMakesUptoCardSaid : Prop := Claim7.holds Tryz.pinned (.plain (OpenSpec.upto deedMakesSpec)) deedMakesUptoCard

/-- THE SECOND FORM's CARD OF 'tableaulaw06.DeedFits'. -/
def deedFitsUptoCard : Claim7 := { stood := { row := deedFitsUptoRow, standIns := [], harness := (true, "80f7cd3689410ccd7dd12a5c576e480ea786aed426f35a36fc4e034d3bb9b1bb"), looks := true }, kinds := [], alts := [], laidByText := true, laidKinds := [.data, .data, .data], laidTests := true, laidLooks := .later }
def DeedFitsUptoCardSaid : Prop := Claim7.holds Tryz.pinned (.plain (OpenSpec.upto deedFitsSpec)) deedFitsUptoCard

/-- THE SECOND FORM's CARD OF 'tableaulaw06.DeedBack'. -/
def deedBackUptoCard : Claim7 := { stood := { row := deedBackUptoRow, standIns := [], harness := (true, "80f7cd3689410ccd7dd12a5c576e480ea786aed426f35a36fc4e034d3bb9b1bb"), looks := true }, kinds := [], alts := [], laidByText := true, laidKinds := [.data, .data, .data], laidTests := true, laidLooks := .later }
def DeedBackUptoCardSaid : Prop := Claim7.holds Tryz.pinned (.plain (OpenSpec.upto deedBackSpec)) deedBackUptoCard
end Rows
end Go.Proofs.YtofgmijmhpmabaaGreatDoor
