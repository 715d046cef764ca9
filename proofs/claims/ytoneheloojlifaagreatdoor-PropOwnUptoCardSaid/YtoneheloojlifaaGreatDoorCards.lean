/-
  DERIVED. GIVEN WITH THE SEED: THE CARDS: each row of YtoneheloojlifaaGreatDoorRows.lean that lists a variable, with what it lists TIED to the program's text (the seventh form; the later family's looks); each row that meets fmt, with fmt's text TOLD by the authors' own Lean function (tested against real Go, not proved from fmt's source: count such statements apart). THE CARD IS WHAT COUNTS. Prove the row's statement (the work); the ties are given (YtoneheloojlifaaGreatDoorTie.lean); close each card by the builder's one call (the guide's Derived/Test/ToyasCard.lean, 'card_holds'). Laid BY PROGRAM, IN A SANDBOX (cutbox-door.mjs). By AI agents, Wed Nov 11 2026. No macro, syntax, notation, axiom, sorry.
-/
import Derived.Test.YtoneheloojlifaaGreatDoorRows
import GoSem.ClaimSeven
namespace Go.Proofs.YtoneheloojlifaaGreatDoor
namespace Rows

/-- THE TIED CARD OF 'linguisterlaw4.PropBack'. -/
def propBackCard : Claim7 := { stood := { row := propBackRow, standIns := [], harness := (true, "4b6530164b8de864e9709a52921ace65686cf68fd59e351ffc2d11aaf6f9a866"), looks := true }, kinds := [], alts := [], laidByText := true, laidKinds := [.data, .pinned], laidTests := true, laidLooks := .later }
def PropBackCardSaid : Prop := Claim7.holds Tryz.pinned (.plain (OpenSpec.ofChange propBackSpec)) propBackCard

/-- THE TIED CARD OF 'linguisterlaw4.PropLines'. -/
def propLinesCard : Claim7 := { stood := { row := propLinesRow, standIns := [], harness := (true, "4b6530164b8de864e9709a52921ace65686cf68fd59e351ffc2d11aaf6f9a866"), looks := true }, kinds := [], alts := [], laidByText := true, laidKinds := [.data, .pinned], laidTests := true, laidLooks := .later }
def PropLinesCardSaid : Prop := Claim7.holds Tryz.pinned (.plain (OpenSpec.ofChange propLinesSpec)) propLinesCard

/-- THE TIED CARD OF 'linguisterlaw4.PropTells'. -/
def propTellsCard : Claim7 := { stood := { row := propTellsRow, standIns := [], harness := (true, "4b6530164b8de864e9709a52921ace65686cf68fd59e351ffc2d11aaf6f9a866"), looks := true }, kinds := [], alts := [], laidByText := true, laidKinds := [.data, .handle, .pinned], laidTests := true, laidLooks := .later }
def PropTellsCardSaid : Prop := Claim7.holds Tryz.pinned (.plain (OpenSpec.ofChange propTellsSpec)) propTellsCard

/-- THE TIED CARD OF 'linguisterlaw5.PropOwn'. -/
def propOwnCard : Claim7 := { stood := { row := propOwnRow, standIns := [], harness := (true, "4b6530164b8de864e9709a52921ace65686cf68fd59e351ffc2d11aaf6f9a866"), looks := true }, kinds := [], alts := [], laidByText := true, laidKinds := [.data, .handle, .pinned], laidTests := true, laidLooks := .later }
def PropOwnCardSaid : Prop := Claim7.holds Tryz.pinned (.plain (OpenSpec.ofChange propOwnSpec)) propOwnCard

/-- THE SECOND FORM's CARD OF 'linguisterlaw4.PropBack'. -/
def propBackUptoCard : Claim7 := { stood := { row := propBackUptoRow, standIns := [], harness := (true, "4b6530164b8de864e9709a52921ace65686cf68fd59e351ffc2d11aaf6f9a866"), looks := true }, kinds := [], alts := [], laidByText := true, laidKinds := [.data, .pinned], laidTests := true, laidLooks := .later }
def PropBackUptoCardSaid : Prop := Claim7.holds Tryz.pinned (.plain (OpenSpec.upto propBackSpec)) propBackUptoCard

/-- THE SECOND FORM's CARD OF 'linguisterlaw4.PropLines'. -/
def propLinesUptoCard : Claim7 := { stood := { row := propLinesUptoRow, standIns := [], harness := (true, "4b6530164b8de864e9709a52921ace65686cf68fd59e351ffc2d11aaf6f9a866"), looks := true }, kinds := [], alts := [], laidByText := true, laidKinds := [.data, .pinned], laidTests := true, laidLooks := .later }
def PropLinesUptoCardSaid : Prop := Claim7.holds Tryz.pinned (.plain (OpenSpec.upto propLinesSpec)) propLinesUptoCard

/-- THE SECOND FORM's CARD OF 'linguisterlaw4.PropTells'. -/
def propTellsUptoCard : Claim7 := { stood := { row := propTellsUptoRow, standIns := [], harness := (true, "4b6530164b8de864e9709a52921ace65686cf68fd59e351ffc2d11aaf6f9a866"), looks := true }, kinds := [], alts := [], laidByText := true, laidKinds := [.data, .handle, .pinned], laidTests := true, laidLooks := .later }
def PropTellsUptoCardSaid : Prop := Claim7.holds Tryz.pinned (.plain (OpenSpec.upto propTellsSpec)) propTellsUptoCard

/-- THE SECOND FORM's CARD OF 'linguisterlaw5.PropOwn'. -/
def propOwnUptoCard : Claim7 := { stood := { row := propOwnUptoRow, standIns := [], harness := (true, "4b6530164b8de864e9709a52921ace65686cf68fd59e351ffc2d11aaf6f9a866"), looks := true }, kinds := [], alts := [], laidByText := true, laidKinds := [.data, .handle, .pinned], laidTests := true, laidLooks := .later }
def PropOwnUptoCardSaid : Prop := Claim7.holds Tryz.pinned (.plain (OpenSpec.upto propOwnSpec)) propOwnUptoCard
end Rows
end Go.Proofs.YtoneheloojlifaaGreatDoor
