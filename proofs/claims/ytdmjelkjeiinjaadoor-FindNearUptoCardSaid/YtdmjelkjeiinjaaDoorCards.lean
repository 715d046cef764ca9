/-
  DERIVED. GIVEN WITH THE SEED: THE CARDS: each row of YtdmjelkjeiinjaaDoorRows.lean that lists a variable, with what it lists TIED to the program's text (the seventh form; the later family's looks); each row that meets fmt, with fmt's text TOLD by the authors' own Lean function (tested against real Go, not proved from fmt's source: count such statements apart). THE CARD IS WHAT COUNTS. Prove the row's statement (the work); the ties are given (YtdmjelkjeiinjaaDoorTie.lean); close each card by the builder's one call (the guide's Derived/Test/ToyasCard.lean, 'card_holds'). Laid BY PROGRAM, IN A SANDBOX (cutbox-door.mjs). By AI agents, Wed Nov 11 2026. No macro, syntax, notation, axiom, sorry.
-/
import Derived.Test.YtdmjelkjeiinjaaDoorRows
import GoSem.ClaimSeven
namespace Go.Proofs.YtdmjelkjeiinjaaDoor
namespace Rows

/-- THE TIED CARD OF 'linguisterlaw5.ChainOwn'. -/
def chainOwnCard : Claim7 := { stood := { row := chainOwnRow, standIns := [], harness := (true, "a8b3a35d3103b7de2644c3273e43c4c802fc2ef001071bafff506bfc2be82c0c"), looks := true }, kinds := [], alts := [], laidByText := true, laidKinds := [.data, .pinned], laidTests := true, laidLooks := .later }
def ChainOwnCardSaid : Prop := Claim7.holds Tryd.pinned (.plain (OpenSpec.ofChange chainOwnSpec)) chainOwnCard

/-- THE TIED CARD OF 'linguisterlaw5.PickOwn'. -/
def pickOwnCard : Claim7 := { stood := { row := pickOwnRow, standIns := [], harness := (true, "a8b3a35d3103b7de2644c3273e43c4c802fc2ef001071bafff506bfc2be82c0c"), looks := true }, kinds := [], alts := [], laidByText := true, laidKinds := [.data, .handle, .pinned], laidTests := true, laidLooks := .later }
def PickOwnCardSaid : Prop := Claim7.holds Tryd.pinned (.plain (OpenSpec.ofChange pickOwnSpec)) pickOwnCard

/-- THE TIED CARD OF 'linguisterlaw4.FindNear'. -/
def findNearCard : Claim7 := { stood := { row := findNearRow, standIns := [], harness := (true, "a8b3a35d3103b7de2644c3273e43c4c802fc2ef001071bafff506bfc2be82c0c"), looks := true }, kinds := [], alts := [], laidByText := true, laidKinds := [.data, .pinned], laidTests := true, laidLooks := .later }
def FindNearCardSaid : Prop := Claim7.holds Tryd.pinned (.plain (OpenSpec.ofChange findNearSpec)) findNearCard

/-- THE TIED CARD OF 'linguisterlaw5.FindOwn'. -/
def findOwnCard : Claim7 := { stood := { row := findOwnRow, standIns := [], harness := (true, "a8b3a35d3103b7de2644c3273e43c4c802fc2ef001071bafff506bfc2be82c0c"), looks := true }, kinds := [], alts := [], laidByText := true, laidKinds := [.data, .handle, .pinned], laidTests := true, laidLooks := .later }
def FindOwnCardSaid : Prop := Claim7.holds Tryd.pinned (.plain (OpenSpec.ofChange findOwnSpec)) findOwnCard

/-- THE SECOND FORM's CARD OF 'linguisterlaw5.ChainOwn'. -/
def chainOwnUptoCard : Claim7 := { stood := { row := chainOwnUptoRow, standIns := [], harness := (true, "a8b3a35d3103b7de2644c3273e43c4c802fc2ef001071bafff506bfc2be82c0c"), looks := true }, kinds := [], alts := [], laidByText := true, laidKinds := [.data, .pinned], laidTests := true, laidLooks := .later }
def ChainOwnUptoCardSaid : Prop := Claim7.holds Tryd.pinned (.plain (OpenSpec.upto chainOwnSpec)) chainOwnUptoCard

/-- THE SECOND FORM's CARD OF 'linguisterlaw5.PickOwn'. -/
def pickOwnUptoCard : Claim7 := { stood := { row := pickOwnUptoRow, standIns := [], harness := (true, "a8b3a35d3103b7de2644c3273e43c4c802fc2ef001071bafff506bfc2be82c0c"), looks := true }, kinds := [], alts := [], laidByText := true, laidKinds := [.data, .handle, .pinned], laidTests := true, laidLooks := .later }
def PickOwnUptoCardSaid : Prop := Claim7.holds Tryd.pinned (.plain (OpenSpec.upto pickOwnSpec)) pickOwnUptoCard

/-- THE SECOND FORM's CARD OF 'linguisterlaw4.FindNear'. -/
def findNearUptoCard : Claim7 := { stood := { row := findNearUptoRow, standIns := [], harness := (true, "a8b3a35d3103b7de2644c3273e43c4c802fc2ef001071bafff506bfc2be82c0c"), looks := true }, kinds := [], alts := [], laidByText := true, laidKinds := [.data, .pinned], laidTests := true, laidLooks := .later }
def FindNearUptoCardSaid : Prop := Claim7.holds Tryd.pinned (.plain (OpenSpec.upto findNearSpec)) findNearUptoCard

/-- THE SECOND FORM's CARD OF 'linguisterlaw5.FindOwn'. -/
def findOwnUptoCard : Claim7 := { stood := { row := findOwnUptoRow, standIns := [], harness := (true, "a8b3a35d3103b7de2644c3273e43c4c802fc2ef001071bafff506bfc2be82c0c"), looks := true }, kinds := [], alts := [], laidByText := true, laidKinds := [.data, .handle, .pinned], laidTests := true, laidLooks := .later }
def FindOwnUptoCardSaid : Prop := Claim7.holds Tryd.pinned (.plain (OpenSpec.upto findOwnSpec)) findOwnUptoCard
end Rows
end Go.Proofs.YtdmjelkjeiinjaaDoor
