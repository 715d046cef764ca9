/-
  DERIVED. GIVEN WITH THE SEED: THE CARDS: each row of YtmpjfomfibkbnaaGreatDoorRows.lean that lists a variable, with what it lists TIED to the program's text (the seventh form; the later family's looks); each row that meets fmt, with fmt's text TOLD by the authors' own Lean function (tested against real Go, not proved from fmt's source: count such statements apart). THE CARD IS WHAT COUNTS. Prove the row's statement (the work); the ties are given (YtmpjfomfibkbnaaGreatDoorTie.lean); close each card by the builder's one call (the guide's Derived/Test/ToyasCard.lean, 'card_holds'). Laid BY PROGRAM, IN A SANDBOX (cutbox-door.mjs). By AI agents, Wed Nov 11 2026. No macro, syntax, notation, axiom, sorry.
-/
import Derived.Test.YtmpjfomfibkbnaaGreatDoorRows
import GoSem.ClaimSeven
namespace Go.Proofs.YtmpjfomfibkbnaaGreatDoor
namespace Rows

/-- THE TIED CARD OF 'linguisterlaw4.PackOrder'. -/
def packOrderCard : Claim7 := { stood := { row := packOrderRow, standIns := [], harness := (true, "6c02e90f41595f854a8c964b2a4acf775a59b108304985155e04a9ad5b82117c"), looks := true }, kinds := [], alts := [], laidByText := true, laidKinds := [.data, .pinned], laidTests := true, laidLooks := .later }
def PackOrderCardSaid : Prop := Claim7.holds Tryz.pinned (.plain (OpenSpec.ofChange packOrderSpec)) packOrderCard

/-- THE TIED CARD OF 'linguisterlaw4.PackBack'. -/
def packBackCard : Claim7 := { stood := { row := packBackRow, standIns := [], harness := (true, "6c02e90f41595f854a8c964b2a4acf775a59b108304985155e04a9ad5b82117c"), looks := true }, kinds := [], alts := [], laidByText := true, laidKinds := [.data, .pinned], laidTests := true, laidLooks := .later }
def PackBackCardSaid : Prop := Claim7.holds Tryz.pinned (.plain (OpenSpec.ofChange packBackSpec)) packBackCard

/-- THE TIED CARD OF 'linguisterlaw5.PackOwn'. -/
def packOwnCard : Claim7 := { stood := { row := packOwnRow, standIns := [], harness := (true, "6c02e90f41595f854a8c964b2a4acf775a59b108304985155e04a9ad5b82117c"), looks := true }, kinds := [], alts := [], laidByText := true, laidKinds := [.data, .pinned], laidTests := true, laidLooks := .later }
def PackOwnCardSaid : Prop := Claim7.holds Tryz.pinned (.plain (OpenSpec.ofChange packOwnSpec)) packOwnCard

/-- THE TIED CARD OF 'linguisterlaw4.PackTells'. -/
def packTellsCard : Claim7 := { stood := { row := packTellsRow, standIns := [], harness := (true, "6c02e90f41595f854a8c964b2a4acf775a59b108304985155e04a9ad5b82117c"), looks := true }, kinds := [], alts := [], laidByText := true, laidKinds := [.data, .handle, .pinned], laidTests := true, laidLooks := .later }
def PackTellsCardSaid : Prop := Claim7.holds Tryz.pinned (.plain (OpenSpec.ofChange packTellsSpec)) packTellsCard

/-- THE TIED CARD OF 'linguisterlaw4.PackSpoilt'. -/
def packSpoiltCard : Claim7 := { stood := { row := packSpoiltRow, standIns := [], harness := (true, "6c02e90f41595f854a8c964b2a4acf775a59b108304985155e04a9ad5b82117c"), looks := true }, kinds := [], alts := [], laidByText := true, laidKinds := [.data, .handle, .pinned], laidTests := true, laidLooks := .later }
def PackSpoiltCardSaid : Prop := Claim7.holds Tryz.pinned (.plain (OpenSpec.ofChange packSpoiltSpec)) packSpoiltCard

/-- THE TIED CARD OF 'linguisterlaw4.PackTorn'. -/
def packTornCard : Claim7 := { stood := { row := packTornRow, standIns := [], harness := (true, "6c02e90f41595f854a8c964b2a4acf775a59b108304985155e04a9ad5b82117c"), looks := true }, kinds := [], alts := [], laidByText := true, laidKinds := [.data, .handle, .pinned], laidTests := true, laidLooks := .later }
def PackTornCardSaid : Prop := Claim7.holds Tryz.pinned (.plain (OpenSpec.ofChange packTornSpec)) packTornCard

/-- THE SECOND FORM's CARD OF 'linguisterlaw4.PackOrder'. -/
def packOrderUptoCard : Claim7 := { stood := { row := packOrderUptoRow, standIns := [], harness := (true, "6c02e90f41595f854a8c964b2a4acf775a59b108304985155e04a9ad5b82117c"), looks := true }, kinds := [], alts := [], laidByText := true, laidKinds := [.data, .pinned], laidTests := true, laidLooks := .later }
def PackOrderUptoCardSaid : Prop := Claim7.holds Tryz.pinned (.plain (OpenSpec.upto packOrderSpec)) packOrderUptoCard

/-- THE SECOND FORM's CARD OF 'linguisterlaw4.PackBack'. -/
def packBackUptoCard : Claim7 := { stood := { row := packBackUptoRow, standIns := [], harness := (true, "6c02e90f41595f854a8c964b2a4acf775a59b108304985155e04a9ad5b82117c"), looks := true }, kinds := [], alts := [], laidByText := true, laidKinds := [.data, .pinned], laidTests := true, laidLooks := .later }
def PackBackUptoCardSaid : Prop := Claim7.holds Tryz.pinned (.plain (OpenSpec.upto packBackSpec)) packBackUptoCard

/-- THE SECOND FORM's CARD OF 'linguisterlaw5.PackOwn'. -/
def packOwnUptoCard : Claim7 := { stood := { row := packOwnUptoRow, standIns := [], harness := (true, "6c02e90f41595f854a8c964b2a4acf775a59b108304985155e04a9ad5b82117c"), looks := true }, kinds := [], alts := [], laidByText := true, laidKinds := [.data, .pinned], laidTests := true, laidLooks := .later }
def PackOwnUptoCardSaid : Prop := Claim7.holds Tryz.pinned (.plain (OpenSpec.upto packOwnSpec)) packOwnUptoCard

/-- THE SECOND FORM's CARD OF 'linguisterlaw4.PackTells'. -/
def packTellsUptoCard : Claim7 := { stood := { row := packTellsUptoRow, standIns := [], harness := (true, "6c02e90f41595f854a8c964b2a4acf775a59b108304985155e04a9ad5b82117c"), looks := true }, kinds := [], alts := [], laidByText := true, laidKinds := [.data, .handle, .pinned], laidTests := true, laidLooks := .later }
def PackTellsUptoCardSaid : Prop := Claim7.holds Tryz.pinned (.plain (OpenSpec.upto packTellsSpec)) packTellsUptoCard

/-- THE SECOND FORM's CARD OF 'linguisterlaw4.PackSpoilt'. -/
def packSpoiltUptoCard : Claim7 := { stood := { row := packSpoiltUptoRow, standIns := [], harness := (true, "6c02e90f41595f854a8c964b2a4acf775a59b108304985155e04a9ad5b82117c"), looks := true }, kinds := [], alts := [], laidByText := true, laidKinds := [.data, .handle, .pinned], laidTests := true, laidLooks := .later }
def PackSpoiltUptoCardSaid : Prop := Claim7.holds Tryz.pinned (.plain (OpenSpec.upto packSpoiltSpec)) packSpoiltUptoCard

/-- THE SECOND FORM's CARD OF 'linguisterlaw4.PackTorn'. -/
def packTornUptoCard : Claim7 := { stood := { row := packTornUptoRow, standIns := [], harness := (true, "6c02e90f41595f854a8c964b2a4acf775a59b108304985155e04a9ad5b82117c"), looks := true }, kinds := [], alts := [], laidByText := true, laidKinds := [.data, .handle, .pinned], laidTests := true, laidLooks := .later }
def PackTornUptoCardSaid : Prop := Claim7.holds Tryz.pinned (.plain (OpenSpec.upto packTornSpec)) packTornUptoCard
end Rows
end Go.Proofs.YtmpjfomfibkbnaaGreatDoor
