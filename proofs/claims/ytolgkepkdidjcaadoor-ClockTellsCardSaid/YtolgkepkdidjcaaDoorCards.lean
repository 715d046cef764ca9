/-
  DERIVED. GIVEN WITH THE SEED: THE CARDS: each row of YtolgkepkdidjcaaDoorRows.lean that lists a variable, with what it lists TIED to the program's text (the seventh form; the later family's looks); each row that meets fmt, with fmt's text TOLD by the authors' own Lean function (tested against real Go, not proved from fmt's source: count such statements apart). THE CARD IS WHAT COUNTS. Prove the row's statement (the work); the ties are given (YtolgkepkdidjcaaDoorTie.lean); close each card by the builder's one call (the guide's Derived/Test/ToyasCard.lean, 'card_holds'). Laid BY PROGRAM, IN A SANDBOX (cutbox-door.mjs). By AI agents, Wed Nov 11 2026. No macro, syntax, notation, axiom, sorry.
-/
import Derived.Test.YtolgkepkdidjcaaDoorRows
import GoSem.ClaimSeven
namespace Go.Proofs.YtolgkepkdidjcaaDoor
namespace Rows

/-- THE TIED CARD OF 'linguisterlaw4.ClockTells'. -/
def clockTellsCard : Claim7 := { stood := { row := clockTellsRow, standIns := [], harness := (true, "a9eb35c3cc5231d9b402cfd6f1fc95c6b471b56a6c39544cec3474698674a8c3"), looks := true }, kinds := [], alts := [], laidByText := true, laidKinds := [.handle], laidTests := true, laidLooks := .later }
def ClockTellsCardSaid : Prop := Claim7.holds Tryd.pinned (.plain (OpenSpec.ofChange clockTellsSpec)) clockTellsCard

/-- THE SECOND FORM's CARD OF 'linguisterlaw4.ClockTells'. -/
def clockTellsUptoCard : Claim7 := { stood := { row := clockTellsUptoRow, standIns := [], harness := (true, "a9eb35c3cc5231d9b402cfd6f1fc95c6b471b56a6c39544cec3474698674a8c3"), looks := true }, kinds := [], alts := [], laidByText := true, laidKinds := [.handle], laidTests := true, laidLooks := .later }
def ClockTellsUptoCardSaid : Prop := Claim7.holds Tryd.pinned (.plain (OpenSpec.upto clockTellsSpec)) clockTellsUptoCard
end Rows
end Go.Proofs.YtolgkepkdidjcaaDoor
