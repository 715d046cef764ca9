/-
  DERIVED. GIVEN WITH THE SEED: THE CARDS: each row of YtboilcfeegigcaaGreatDoorRows.lean that lists a variable, with what it lists TIED to the program's text (the seventh form; the later family's looks); each row that meets fmt, with fmt's text TOLD by the authors' own Lean function (tested against real Go, not proved from fmt's source: count such statements apart). THE CARD IS WHAT COUNTS. Prove the row's statement (the work); the ties are given (YtboilcfeegigcaaGreatDoorTie.lean); close each card by the builder's one call (the guide's Derived/Test/ToyasCard.lean, 'card_holds'). Laid BY PROGRAM, IN A SANDBOX (cutbox-door.mjs). By AI agents, Wed Nov 11 2026. No macro, syntax, notation, axiom, sorry.
-/
import Derived.Test.YtboilcfeegigcaaGreatDoorRows
import GoSem.ClaimSeven
namespace Go.Proofs.YtboilcfeegigcaaGreatDoor
namespace Rows

/-- THE TIED CARD OF 'linguisterlaw5.StoreOwn'. -/
def storeOwnCard : Claim7 := { stood := { row := storeOwnRow, standIns := [], harness := (true, "af24e5167ee377b242dbe5fa28f9fa7dc902c588eb0fe81e671b0c9e63b6f2a9"), looks := true }, kinds := [], alts := [], laidByText := true, laidKinds := [.data, .pinned], laidTests := true, laidLooks := .later }
def StoreOwnCardSaid : Prop := Claim7.holds Tryz.pinned (.plain (OpenSpec.ofChange storeOwnSpec)) storeOwnCard

/-- THE TIED CARD OF 'linguisterlaw4.StoreTells'. -/
def storeTellsCard : Claim7 := { stood := { row := storeTellsRow, standIns := [], harness := (true, "af24e5167ee377b242dbe5fa28f9fa7dc902c588eb0fe81e671b0c9e63b6f2a9"), looks := true }, kinds := [], alts := [], laidByText := true, laidKinds := [.data, .handle, .pinned], laidTests := true, laidLooks := .later }
def StoreTellsCardSaid : Prop := Claim7.holds Tryz.pinned (.plain (OpenSpec.ofChange storeTellsSpec)) storeTellsCard

/-- THE TIED CARD OF 'linguisterlaw4.StoreHeld'. -/
def storeHeldCard : Claim7 := { stood := { row := storeHeldRow, standIns := [], harness := (true, "af24e5167ee377b242dbe5fa28f9fa7dc902c588eb0fe81e671b0c9e63b6f2a9"), looks := true }, kinds := [], alts := [], laidByText := true, laidKinds := [.data, .handle, .pinned], laidTests := true, laidLooks := .later }
def StoreHeldCardSaid : Prop := Claim7.holds Tryz.pinned (.plain (OpenSpec.ofChange storeHeldSpec)) storeHeldCard

/-- THE SECOND FORM's CARD OF 'linguisterlaw5.StoreOwn'. -/
def storeOwnUptoCard : Claim7 := { stood := { row := storeOwnUptoRow, standIns := [], harness := (true, "af24e5167ee377b242dbe5fa28f9fa7dc902c588eb0fe81e671b0c9e63b6f2a9"), looks := true }, kinds := [], alts := [], laidByText := true, laidKinds := [.data, .pinned], laidTests := true, laidLooks := .later }
def StoreOwnUptoCardSaid : Prop := Claim7.holds Tryz.pinned (.plain (OpenSpec.upto storeOwnSpec)) storeOwnUptoCard

/-- THE SECOND FORM's CARD OF 'linguisterlaw4.StoreTells'. -/
def storeTellsUptoCard : Claim7 := { stood := { row := storeTellsUptoRow, standIns := [], harness := (true, "af24e5167ee377b242dbe5fa28f9fa7dc902c588eb0fe81e671b0c9e63b6f2a9"), looks := true }, kinds := [], alts := [], laidByText := true, laidKinds := [.data, .handle, .pinned], laidTests := true, laidLooks := .later }
def StoreTellsUptoCardSaid : Prop := Claim7.holds Tryz.pinned (.plain (OpenSpec.upto storeTellsSpec)) storeTellsUptoCard

/-- THE SECOND FORM's CARD OF 'linguisterlaw4.StoreHeld'. -/
def storeHeldUptoCard : Claim7 := { stood := { row := storeHeldUptoRow, standIns := [], harness := (true, "af24e5167ee377b242dbe5fa28f9fa7dc902c588eb0fe81e671b0c9e63b6f2a9"), looks := true }, kinds := [], alts := [], laidByText := true, laidKinds := [.data, .handle, .pinned], laidTests := true, laidLooks := .later }
def StoreHeldUptoCardSaid : Prop := Claim7.holds Tryz.pinned (.plain (OpenSpec.upto storeHeldSpec)) storeHeldUptoCard
end Rows
end Go.Proofs.YtboilcfeegigcaaGreatDoor
