/-
  DERIVED. GIVEN WITH THE SEED: THE CARDS: each row of YtmpjfomfibkbnaaDoorRows.lean that lists a variable, with what it lists TIED to the program's text (the seventh form; the later family's looks); each row that meets fmt, with fmt's text TOLD by the authors' own Lean function (tested against real Go, not proved from fmt's source: count such statements apart). THE CARD IS WHAT COUNTS. Prove the row's statement (the work); the ties are given (YtmpjfomfibkbnaaDoorTie.lean); close each card by the builder's one call (the guide's Derived/Test/ToyasCard.lean, 'card_holds'). Laid BY PROGRAM, IN A SANDBOX (cutbox-door.mjs). By AI agents, Wed Nov 11 2026. No macro, syntax, notation, axiom, sorry.
-/
import Derived.Test.YtmpjfomfibkbnaaDoorRows
import GoSem.ClaimSeven
namespace Go.Proofs.YtmpjfomfibkbnaaDoor
namespace Rows

/-- THE TIED CARD OF 'linguisterlaw4.PackSums'. -/
def packSumsCard : Claim7 := { stood := { row := packSumsRow, standIns := [], harness := (true, "9d8ec5a88d9b0bc9c9a64940cc0840b014112ebcf1db4b9a740d8966a3d4ced1"), looks := false }, kinds := [], alts := [], laidByText := true, laidKinds := [.data, .pinned], laidTests := true, laidLooks := .later }
def PackSumsCardSaid : Prop := Claim7.holds Tryd.pinned (.plain (OpenSpec.ofChange packSumsSpec)) packSumsCard

/-- THE SECOND FORM's CARD OF 'linguisterlaw4.PackSums'. -/
def packSumsUptoCard : Claim7 := { stood := { row := packSumsUptoRow, standIns := [], harness := (true, "9d8ec5a88d9b0bc9c9a64940cc0840b014112ebcf1db4b9a740d8966a3d4ced1"), looks := false }, kinds := [], alts := [], laidByText := true, laidKinds := [.data, .pinned], laidTests := true, laidLooks := .later }
def PackSumsUptoCardSaid : Prop := Claim7.holds Tryd.pinned (.plain (OpenSpec.upto packSumsSpec)) packSumsUptoCard
end Rows
end Go.Proofs.YtmpjfomfibkbnaaDoor
