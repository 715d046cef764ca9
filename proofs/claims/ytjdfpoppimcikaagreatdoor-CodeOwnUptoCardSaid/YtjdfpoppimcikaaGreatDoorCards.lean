/-
  DERIVED. GIVEN WITH THE SEED: THE CARDS: each row of YtjdfpoppimcikaaGreatDoorRows.lean that lists a variable, with what it lists TIED to the program's text (the seventh form; the later family's looks); each row that meets fmt, with fmt's text TOLD by the authors' own Lean function (tested against real Go, not proved from fmt's source: count such statements apart). THE CARD IS WHAT COUNTS. Prove the row's statement (the work); the ties are given (YtjdfpoppimcikaaGreatDoorTie.lean); close each card by the builder's one call (the guide's Derived/Test/ToyasCard.lean, 'card_holds'). Laid BY PROGRAM, IN A SANDBOX (cutbox-door.mjs). By AI agents, Wed Nov 11 2026. No macro, syntax, notation, axiom, sorry.
-/
import Derived.Test.YtjdfpoppimcikaaGreatDoorRows
import GoSem.ClaimSeven
namespace Go.Proofs.YtjdfpoppimcikaaGreatDoor
namespace Rows

/-- THE TIED CARD OF 'linguisterlaw5.EvalOwn'. -/
def evalOwnCard : Claim7 := { stood := { row := evalOwnRow, standIns := [], harness := (true, "e3bba48b8c15cf507b498e0dee1c8410829be5d6ac8a3a8905cd7d15c01655d5"), looks := true }, kinds := [], alts := [], laidByText := true, laidKinds := [.data, .data, .data, .data, .handle, .sentinel, .sentinel, .widerDeep, .data, .data, .data, .pinned], laidTests := true, laidLooks := .later }
def EvalOwnCardSaid : Prop := Claim7.holds Tryz.pinned (.plain (OpenSpec.ofChange evalOwnSpec)) evalOwnCard

/-- THE TIED CARD OF 'linguisterlaw5.MsgOwn'. -/
def msgOwnCard : Claim7 := { stood := { row := msgOwnRow, standIns := [], harness := (true, "e3bba48b8c15cf507b498e0dee1c8410829be5d6ac8a3a8905cd7d15c01655d5"), looks := true }, kinds := [], alts := [], laidByText := true, laidKinds := [.data, .data, .data, .data, .sentinel, .sentinel, .widerDeep, .data, .data, .data, .pinned], laidTests := true, laidLooks := .later }
def MsgOwnCardSaid : Prop := Claim7.holds Tryz.pinned (.plain (OpenSpec.ofChange msgOwnSpec)) msgOwnCard

/-- THE TIED CARD OF 'linguisterlaw5.CodeOwn'. -/
def codeOwnCard : Claim7 := { stood := { row := codeOwnRow, standIns := [], harness := (true, "e3bba48b8c15cf507b498e0dee1c8410829be5d6ac8a3a8905cd7d15c01655d5"), looks := true }, kinds := [], alts := [], laidByText := true, laidKinds := [.data, .data, .data, .data, .handle, .sentinel, .sentinel, .widerDeep, .data, .data, .data, .pinned], laidTests := true, laidLooks := .later }
def CodeOwnCardSaid : Prop := Claim7.holds Tryz.pinned (.plain (OpenSpec.ofChange codeOwnSpec)) codeOwnCard

/-- THE SECOND FORM's CARD OF 'linguisterlaw5.EvalOwn'. -/
def evalOwnUptoCard : Claim7 := { stood := { row := evalOwnUptoRow, standIns := [], harness := (true, "e3bba48b8c15cf507b498e0dee1c8410829be5d6ac8a3a8905cd7d15c01655d5"), looks := true }, kinds := [], alts := [], laidByText := true, laidKinds := [.data, .data, .data, .data, .handle, .sentinel, .sentinel, .widerDeep, .data, .data, .data, .pinned], laidTests := true, laidLooks := .later }
def EvalOwnUptoCardSaid : Prop := Claim7.holds Tryz.pinned (.plain (OpenSpec.upto evalOwnSpec)) evalOwnUptoCard

/-- THE SECOND FORM's CARD OF 'linguisterlaw5.MsgOwn'. -/
def msgOwnUptoCard : Claim7 := { stood := { row := msgOwnUptoRow, standIns := [], harness := (true, "e3bba48b8c15cf507b498e0dee1c8410829be5d6ac8a3a8905cd7d15c01655d5"), looks := true }, kinds := [], alts := [], laidByText := true, laidKinds := [.data, .data, .data, .data, .sentinel, .sentinel, .widerDeep, .data, .data, .data, .pinned], laidTests := true, laidLooks := .later }
def MsgOwnUptoCardSaid : Prop := Claim7.holds Tryz.pinned (.plain (OpenSpec.upto msgOwnSpec)) msgOwnUptoCard

/-- THE SECOND FORM's CARD OF 'linguisterlaw5.CodeOwn'. -/
def codeOwnUptoCard : Claim7 := { stood := { row := codeOwnUptoRow, standIns := [], harness := (true, "e3bba48b8c15cf507b498e0dee1c8410829be5d6ac8a3a8905cd7d15c01655d5"), looks := true }, kinds := [], alts := [], laidByText := true, laidKinds := [.data, .data, .data, .data, .handle, .sentinel, .sentinel, .widerDeep, .data, .data, .data, .pinned], laidTests := true, laidLooks := .later }
def CodeOwnUptoCardSaid : Prop := Claim7.holds Tryz.pinned (.plain (OpenSpec.upto codeOwnSpec)) codeOwnUptoCard
end Rows
end Go.Proofs.YtjdfpoppimcikaaGreatDoor
