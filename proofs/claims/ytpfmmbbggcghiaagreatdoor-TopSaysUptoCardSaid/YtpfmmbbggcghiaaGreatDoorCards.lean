/-
  DERIVED. GIVEN WITH THE SEED: THE CARDS: each row of YtpfmmbbggcghiaaGreatDoorRows.lean that lists a variable, with what it lists TIED to the program's text (the seventh form; the later family's looks); each row that meets fmt, with fmt's text TOLD by the authors' own Lean function (tested against real Go, not proved from fmt's source: count such statements apart). THE CARD IS WHAT COUNTS. Prove the row's statement (the work); the ties are given (YtpfmmbbggcghiaaGreatDoorTie.lean); close each card by the builder's one call (the guide's Derived/Test/ToyasCard.lean, 'card_holds'). Laid BY PROGRAM, IN A SANDBOX (cutbox-door.mjs). By AI agents, Wed Nov 11 2026. No macro, syntax, notation, axiom, sorry.
-/
import Derived.Test.YtpfmmbbggcghiaaGreatDoorRows
import GoSem.ClaimSeven
namespace Go.Proofs.YtpfmmbbggcghiaaGreatDoor
namespace Rows

/-- THE TIED CARD OF 'linguistertop.TopSays'. -/
def topSaysCard : Claim7 := { stood := { row := topSaysRow, standIns := [], harness := (true, "1e5ca896df69753f6fa66a04e64f51211729cea1dde4df364daba0d843b2bebd"), looks := true }, kinds := [], alts := [], laidByText := true, laidKinds := [.data, .data, .data, .data, .handle, .sentinel, .sentinel, .widerDeep, .data, .data, .data, .pinned], laidTests := true, laidLooks := .later }
def TopSaysCardSaid : Prop := Claim7.holds Tryz.pinned (.plain (OpenSpec.ofChange topSaysSpec)) topSaysCard

/-- THE TIED CARD OF 'linguisterlaw4.ServeSizes'. -/
def serveSizesCard : Claim7 := { stood := { row := serveSizesRow, standIns := [], harness := (true, "1e5ca896df69753f6fa66a04e64f51211729cea1dde4df364daba0d843b2bebd"), looks := true }, kinds := [], alts := [], laidByText := true, laidKinds := [.data, .data, .data, .data, .handle, .sentinel, .sentinel, .widerDeep, .data, .data, .data, .pinned], laidTests := true, laidLooks := .later }
def ServeSizesCardSaid : Prop := Claim7.holds Tryz.pinned (.plain (OpenSpec.ofChange serveSizesSpec)) serveSizesCard

/-- THE TIED CARD OF 'linguisterlaw4.ServeReloads'. -/
def serveReloadsCard : Claim7 := { stood := { row := serveReloadsRow, standIns := [], harness := (true, "1e5ca896df69753f6fa66a04e64f51211729cea1dde4df364daba0d843b2bebd"), looks := true }, kinds := [], alts := [], laidByText := true, laidKinds := [.data, .data, .data, .data, .handle, .sentinel, .sentinel, .widerDeep, .data, .data, .data, .pinned], laidTests := true, laidLooks := .later }
def ServeReloadsCardSaid : Prop := Claim7.holds Tryz.pinned (.plain (OpenSpec.ofChange serveReloadsSpec)) serveReloadsCard

/-- THE TIED CARD OF 'linguisterlaw5.ServeOwn'. -/
def serveOwnCard : Claim7 := { stood := { row := serveOwnRow, standIns := [], harness := (true, "1e5ca896df69753f6fa66a04e64f51211729cea1dde4df364daba0d843b2bebd"), looks := true }, kinds := [], alts := [], laidByText := true, laidKinds := [.data, .data, .data, .data, .handle, .sentinel, .sentinel, .widerDeep, .data, .data, .data, .pinned], laidTests := true, laidLooks := .later }
def ServeOwnCardSaid : Prop := Claim7.holds Tryz.pinned (.plain (OpenSpec.ofChange serveOwnSpec)) serveOwnCard

/-- THE SECOND FORM's CARD OF 'linguistertop.TopSays'. -/
def topSaysUptoCard : Claim7 := { stood := { row := topSaysUptoRow, standIns := [], harness := (true, "1e5ca896df69753f6fa66a04e64f51211729cea1dde4df364daba0d843b2bebd"), looks := true }, kinds := [], alts := [], laidByText := true, laidKinds := [.data, .data, .data, .data, .handle, .sentinel, .sentinel, .widerDeep, .data, .data, .data, .pinned], laidTests := true, laidLooks := .later }
def TopSaysUptoCardSaid : Prop := Claim7.holds Tryz.pinned (.plain (OpenSpec.upto topSaysSpec)) topSaysUptoCard

/-- THE SECOND FORM's CARD OF 'linguisterlaw4.ServeSizes'. -/
def serveSizesUptoCard : Claim7 := { stood := { row := serveSizesUptoRow, standIns := [], harness := (true, "1e5ca896df69753f6fa66a04e64f51211729cea1dde4df364daba0d843b2bebd"), looks := true }, kinds := [], alts := [], laidByText := true, laidKinds := [.data, .data, .data, .data, .handle, .sentinel, .sentinel, .widerDeep, .data, .data, .data, .pinned], laidTests := true, laidLooks := .later }
def ServeSizesUptoCardSaid : Prop := Claim7.holds Tryz.pinned (.plain (OpenSpec.upto serveSizesSpec)) serveSizesUptoCard

/-- THE SECOND FORM's CARD OF 'linguisterlaw4.ServeReloads'. -/
def serveReloadsUptoCard : Claim7 := { stood := { row := serveReloadsUptoRow, standIns := [], harness := (true, "1e5ca896df69753f6fa66a04e64f51211729cea1dde4df364daba0d843b2bebd"), looks := true }, kinds := [], alts := [], laidByText := true, laidKinds := [.data, .data, .data, .data, .handle, .sentinel, .sentinel, .widerDeep, .data, .data, .data, .pinned], laidTests := true, laidLooks := .later }
def ServeReloadsUptoCardSaid : Prop := Claim7.holds Tryz.pinned (.plain (OpenSpec.upto serveReloadsSpec)) serveReloadsUptoCard

/-- THE SECOND FORM's CARD OF 'linguisterlaw5.ServeOwn'. -/
def serveOwnUptoCard : Claim7 := { stood := { row := serveOwnUptoRow, standIns := [], harness := (true, "1e5ca896df69753f6fa66a04e64f51211729cea1dde4df364daba0d843b2bebd"), looks := true }, kinds := [], alts := [], laidByText := true, laidKinds := [.data, .data, .data, .data, .handle, .sentinel, .sentinel, .widerDeep, .data, .data, .data, .pinned], laidTests := true, laidLooks := .later }
def ServeOwnUptoCardSaid : Prop := Claim7.holds Tryz.pinned (.plain (OpenSpec.upto serveOwnSpec)) serveOwnUptoCard
end Rows
end Go.Proofs.YtpfmmbbggcghiaaGreatDoor
