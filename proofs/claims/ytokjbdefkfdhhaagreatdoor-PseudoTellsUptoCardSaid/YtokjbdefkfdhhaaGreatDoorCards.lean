/-
  DERIVED. GIVEN WITH THE SEED: THE CARDS: each row of YtokjbdefkfdhhaaGreatDoorRows.lean that lists a variable, with what it lists TIED to the program's text (the seventh form; the later family's looks); each row that meets fmt, with fmt's text TOLD by the authors' own Lean function (tested against real Go, not proved from fmt's source: count such statements apart). THE CARD IS WHAT COUNTS. Prove the row's statement (the work); the ties are given (YtokjbdefkfdhhaaGreatDoorTie.lean); close each card by the builder's one call (the guide's Derived/Test/ToyasCard.lean, 'card_holds'). Laid BY PROGRAM, IN A SANDBOX (cutbox-door.mjs). By AI agents, Wed Nov 11 2026. No macro, syntax, notation, axiom, sorry.
-/
import Derived.Test.YtokjbdefkfdhhaaGreatDoorRows
import GoSem.ClaimSeven
namespace Go.Proofs.YtokjbdefkfdhhaaGreatDoor
namespace Rows

/-- THE TIED CARD OF 'linguisterlaw5.NamesOwn'. -/
def namesOwnCard : Claim7 := { stood := { row := namesOwnRow, standIns := [], harness := (true, "4a8fadc7be76d2d7293e8841df2fcfec63cb576c14ad77e8efdcdf31845ef845"), looks := true }, kinds := [], alts := [], laidByText := true, laidKinds := [.data, .data, .data, .data, .handle, .sentinel, .sentinel, .widerDeep, .pinned], laidTests := true, laidLooks := .later }
def NamesOwnCardSaid : Prop := Claim7.holds Tryz.pinned (.plain (OpenSpec.ofChange namesOwnSpec)) namesOwnCard

/-- THE TIED CARD OF 'linguisterlaw4.PseudoTells'. -/
def pseudoTellsCard : Claim7 := { stood := { row := pseudoTellsRow, standIns := [], harness := (true, "4a8fadc7be76d2d7293e8841df2fcfec63cb576c14ad77e8efdcdf31845ef845"), looks := true }, kinds := [], alts := [], laidByText := true, laidKinds := [.data, .data, .data, .data, .handle, .sentinel, .sentinel, .widerDeep, .pinned], laidTests := true, laidLooks := .later }
def PseudoTellsCardSaid : Prop := Claim7.holds Tryz.pinned (.plain (OpenSpec.ofChange pseudoTellsSpec)) pseudoTellsCard

/-- THE SECOND FORM's CARD OF 'linguisterlaw5.NamesOwn'. -/
def namesOwnUptoCard : Claim7 := { stood := { row := namesOwnUptoRow, standIns := [], harness := (true, "4a8fadc7be76d2d7293e8841df2fcfec63cb576c14ad77e8efdcdf31845ef845"), looks := true }, kinds := [], alts := [], laidByText := true, laidKinds := [.data, .data, .data, .data, .handle, .sentinel, .sentinel, .widerDeep, .pinned], laidTests := true, laidLooks := .later }
def NamesOwnUptoCardSaid : Prop := Claim7.holds Tryz.pinned (.plain (OpenSpec.upto namesOwnSpec)) namesOwnUptoCard

/-- THE SECOND FORM's CARD OF 'linguisterlaw4.PseudoTells'. -/
def pseudoTellsUptoCard : Claim7 := { stood := { row := pseudoTellsUptoRow, standIns := [], harness := (true, "4a8fadc7be76d2d7293e8841df2fcfec63cb576c14ad77e8efdcdf31845ef845"), looks := true }, kinds := [], alts := [], laidByText := true, laidKinds := [.data, .data, .data, .data, .handle, .sentinel, .sentinel, .widerDeep, .pinned], laidTests := true, laidLooks := .later }
def PseudoTellsUptoCardSaid : Prop := Claim7.holds Tryz.pinned (.plain (OpenSpec.upto pseudoTellsSpec)) pseudoTellsUptoCard
end Rows
end Go.Proofs.YtokjbdefkfdhhaaGreatDoor
