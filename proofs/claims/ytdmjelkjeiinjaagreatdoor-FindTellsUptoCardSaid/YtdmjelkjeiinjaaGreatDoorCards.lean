/-
  DERIVED. GIVEN WITH THE SEED: THE CARDS: each row of YtdmjelkjeiinjaaGreatDoorRows.lean that lists a variable, with what it lists TIED to the program's text (the seventh form; the later family's looks); each row that meets fmt, with fmt's text TOLD by the authors' own Lean function (tested against real Go, not proved from fmt's source: count such statements apart). THE CARD IS WHAT COUNTS. Prove the row's statement (the work); the ties are given (YtdmjelkjeiinjaaGreatDoorTie.lean); close each card by the builder's one call (the guide's Derived/Test/ToyasCard.lean, 'card_holds'). Laid BY PROGRAM, IN A SANDBOX (cutbox-door.mjs). By AI agents, Wed Nov 11 2026. No macro, syntax, notation, axiom, sorry.
-/
import Derived.Test.YtdmjelkjeiinjaaGreatDoorRows
import GoSem.ClaimSeven
namespace Go.Proofs.YtdmjelkjeiinjaaGreatDoor
namespace Rows

/-- THE TIED CARD OF 'linguisterlaw4.FindTells'. -/
def findTellsCard : Claim7 := { stood := { row := findTellsRow, standIns := [], harness := (true, "83d9f569a06893c7df155bff8f3b52b3862d9f3c61288a5f2fdaa949eaf5ace2"), looks := true }, kinds := [], alts := [], laidByText := true, laidKinds := [.data, .handle, .pinned], laidTests := true, laidLooks := .later }
def FindTellsCardSaid : Prop := Claim7.holds Tryz.pinned (.plain (OpenSpec.ofChange findTellsSpec)) findTellsCard

/-- THE SECOND FORM's CARD OF 'linguisterlaw4.FindTells'. -/
def findTellsUptoCard : Claim7 := { stood := { row := findTellsUptoRow, standIns := [], harness := (true, "83d9f569a06893c7df155bff8f3b52b3862d9f3c61288a5f2fdaa949eaf5ace2"), looks := true }, kinds := [], alts := [], laidByText := true, laidKinds := [.data, .handle, .pinned], laidTests := true, laidLooks := .later }
def FindTellsUptoCardSaid : Prop := Claim7.holds Tryz.pinned (.plain (OpenSpec.upto findTellsSpec)) findTellsUptoCard
end Rows
end Go.Proofs.YtdmjelkjeiinjaaGreatDoor
