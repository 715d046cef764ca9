/-
  DERIVED. GIVEN WITH THE SEED: THE CARDS: each row of YtiaobgapfoogiaaGreatDoorRows.lean that lists a variable, with what it lists TIED to the program's text (the seventh form; the later family's looks); each row that meets fmt, with fmt's text TOLD by the authors' own Lean function (tested against real Go, not proved from fmt's source: count such statements apart). THE CARD IS WHAT COUNTS. Prove the row's statement (the work); the ties are given (YtiaobgapfoogiaaGreatDoorTie.lean); close each card by the builder's one call (the guide's Derived/Test/ToyasCard.lean, 'card_holds'). Laid BY PROGRAM, IN A SANDBOX (cutbox-door.mjs). By AI agents, Wed Nov 11 2026. No macro, syntax, notation, axiom, sorry.
-/
import Derived.Test.YtiaobgapfoogiaaGreatDoorRows
import GoSem.ClaimSeven
namespace Go.Proofs.YtiaobgapfoogiaaGreatDoor
namespace Rows

/-- THE TIED CARD OF 'linguisterlaw4.DiffThere'. -/
def diffThereCard : Claim7 := { stood := { row := diffThereRow, standIns := [], harness := (true, "7c0f451c0fbcc9892583ff97ab0a342c128e87a16df8086aa3591cc57f56b5d1"), looks := true }, kinds := [], alts := [], laidByText := true, laidKinds := [.data, .pinned], laidTests := true, laidLooks := .later }
def DiffThereCardSaid : Prop := Claim7.holds Tryz.pinned (.plain (OpenSpec.ofChange diffThereSpec)) diffThereCard

/-- THE TIED CARD OF 'linguisterlaw4.DiffApplies'. -/
def diffAppliesCard : Claim7 := { stood := { row := diffAppliesRow, standIns := [], harness := (true, "7c0f451c0fbcc9892583ff97ab0a342c128e87a16df8086aa3591cc57f56b5d1"), looks := true }, kinds := [], alts := [], laidByText := true, laidKinds := [.data, .pinned], laidTests := true, laidLooks := .later }
def DiffAppliesCardSaid : Prop := Claim7.holds Tryz.pinned (.plain (OpenSpec.ofChange diffAppliesSpec)) diffAppliesCard

/-- THE TIED CARD OF 'linguisterlaw4.DiffTells'. -/
def diffTellsCard : Claim7 := { stood := { row := diffTellsRow, standIns := [], harness := (true, "7c0f451c0fbcc9892583ff97ab0a342c128e87a16df8086aa3591cc57f56b5d1"), looks := true }, kinds := [], alts := [], laidByText := true, laidKinds := [.data, .handle, .pinned], laidTests := true, laidLooks := .later }
def DiffTellsCardSaid : Prop := Claim7.holds Tryz.pinned (.plain (OpenSpec.ofChange diffTellsSpec)) diffTellsCard

/-- THE TIED CARD OF 'linguisterlaw5.DiffOwn'. -/
def diffOwnCard : Claim7 := { stood := { row := diffOwnRow, standIns := [], harness := (true, "7c0f451c0fbcc9892583ff97ab0a342c128e87a16df8086aa3591cc57f56b5d1"), looks := true }, kinds := [], alts := [], laidByText := true, laidKinds := [.data, .handle, .pinned], laidTests := true, laidLooks := .later }
def DiffOwnCardSaid : Prop := Claim7.holds Tryz.pinned (.plain (OpenSpec.ofChange diffOwnSpec)) diffOwnCard

/-- THE SECOND FORM's CARD OF 'linguisterlaw4.DiffThere'. -/
def diffThereUptoCard : Claim7 := { stood := { row := diffThereUptoRow, standIns := [], harness := (true, "7c0f451c0fbcc9892583ff97ab0a342c128e87a16df8086aa3591cc57f56b5d1"), looks := true }, kinds := [], alts := [], laidByText := true, laidKinds := [.data, .pinned], laidTests := true, laidLooks := .later }
def DiffThereUptoCardSaid : Prop := Claim7.holds Tryz.pinned (.plain (OpenSpec.upto diffThereSpec)) diffThereUptoCard

/-- THE SECOND FORM's CARD OF 'linguisterlaw4.DiffApplies'. -/
def diffAppliesUptoCard : Claim7 := { stood := { row := diffAppliesUptoRow, standIns := [], harness := (true, "7c0f451c0fbcc9892583ff97ab0a342c128e87a16df8086aa3591cc57f56b5d1"), looks := true }, kinds := [], alts := [], laidByText := true, laidKinds := [.data, .pinned], laidTests := true, laidLooks := .later }
def DiffAppliesUptoCardSaid : Prop := Claim7.holds Tryz.pinned (.plain (OpenSpec.upto diffAppliesSpec)) diffAppliesUptoCard

/-- THE SECOND FORM's CARD OF 'linguisterlaw4.DiffTells'. -/
def diffTellsUptoCard : Claim7 := { stood := { row := diffTellsUptoRow, standIns := [], harness := (true, "7c0f451c0fbcc9892583ff97ab0a342c128e87a16df8086aa3591cc57f56b5d1"), looks := true }, kinds := [], alts := [], laidByText := true, laidKinds := [.data, .handle, .pinned], laidTests := true, laidLooks := .later }
def DiffTellsUptoCardSaid : Prop := Claim7.holds Tryz.pinned (.plain (OpenSpec.upto diffTellsSpec)) diffTellsUptoCard

/-- THE SECOND FORM's CARD OF 'linguisterlaw5.DiffOwn'. -/
def diffOwnUptoCard : Claim7 := { stood := { row := diffOwnUptoRow, standIns := [], harness := (true, "7c0f451c0fbcc9892583ff97ab0a342c128e87a16df8086aa3591cc57f56b5d1"), looks := true }, kinds := [], alts := [], laidByText := true, laidKinds := [.data, .handle, .pinned], laidTests := true, laidLooks := .later }
def DiffOwnUptoCardSaid : Prop := Claim7.holds Tryz.pinned (.plain (OpenSpec.upto diffOwnSpec)) diffOwnUptoCard
end Rows
end Go.Proofs.YtiaobgapfoogiaaGreatDoor
