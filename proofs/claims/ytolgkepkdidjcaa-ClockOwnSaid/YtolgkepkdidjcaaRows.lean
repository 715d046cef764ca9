/-
  No cell of these rows narrows 'for every input' (looked for: loops, veiled, ifaces, maps, wideKeys, modest, calm, conditions, laid).
  DERIVED. THE GIVEN ROWS OF THIS SEAT. 3 by the template 'for every input the law returns true; each argument reads behind the call as it read before'; 0 by the template 'total and deterministic' (their statements: YtolgkepkdidjcaaTotals.lean).
  GIVEN WITH THE SEED: the statements are not yours to turn. If you find one false, say at which input.
  Laid BY PROGRAM, IN A SANDBOX (cutbox-rows.mjs): the forced cells as the released guide's own fill.sh prints them over the translation 67b66b1b096573aa… (all of the seat's roots in one cut). By AI agents, Wed Nov 11 2026. No macro, syntax, notation, axiom, sorry.
-/
import Derived.Test.YtolgkepkdidjcaaChecked
import GoSem.Claim
import GoSem.ClaimJoined
import GoSem.ClaimMapViews
import Derived.JoinedTies
import Derived.KernelRfl
namespace Go.Proofs.Ytolgkepkdidjcaa
/- THE CELL 'sum', in the pinned program and in every row, IS THE sha256 OF THE DUMP (.gsa) THAT YtolgkepkdidjcaaProg.lean LOADS. Nothing in Lean hashes anything: it is a label: what it is worth is what the hold of that sum in a sandbox is worth. -/
noncomputable def Try.pinned : Pinned := { name := "ytolgkepkdidjcaa", sum := "67b66b1b096573aa16cbf7e825dbf1f8642ae7a54c80e1ced04397f3d7649115", checked := Try.checked }
namespace Rows
def none {H : Type} : Left H := { results := [], args := [] }

/-- 'linguisterlaw4.ClockSecond': WHATEVER THE INPUT: true; the input reads as it did. -/
def clockSecondSpec : ChangeSpec := { name := "clockSecond", fn := fun _ => fun
  | [d1, d2] => { results := [.lit (.bool true)], args := [d1, d2] }
  | _ => none }
def clockSecondRow : OpenClaim := { program := "ytolgkepkdidjcaa", sum := "67b66b1b096573aa16cbf7e825dbf1f8642ae7a54c80e1ced04397f3d7649115", func := "linguister/linguisterlaw4.ClockSecond", spec := "clockSecond", recurses := true, apart := false }
def ClockSecondSaid : Prop := clockSecondRow.holds Try.pinned (OpenSpec.ofChange clockSecondSpec)

/-- ITS FALSE NEIGHBOUR: 'it returns false'. Refute it at one input. -/
def clockSecondWrong : ChangeSpec := { name := "clockSecond", fn := fun _ => fun
  | [d1, d2] => { results := [.lit (.bool false)], args := [d1, d2] }
  | _ => none }
def ClockSecondWrongFalsely : Prop := clockSecondRow.holds Try.pinned (OpenSpec.ofChange clockSecondWrong)

/-- 'linguisterlaw4.ClockLast': WHATEVER THE INPUT: true; the input reads as it did. -/
def clockLastSpec : ChangeSpec := { name := "clockLast", fn := fun _ => fun
  | [d1, d2, d3] => { results := [.lit (.bool true)], args := [d1, d2, d3] }
  | _ => none }
def clockLastRow : OpenClaim := { program := "ytolgkepkdidjcaa", sum := "67b66b1b096573aa16cbf7e825dbf1f8642ae7a54c80e1ced04397f3d7649115", func := "linguister/linguisterlaw4.ClockLast", spec := "clockLast", apart := false }
def ClockLastSaid : Prop := clockLastRow.holds Try.pinned (OpenSpec.ofChange clockLastSpec)

/-- ITS FALSE NEIGHBOUR: 'it returns false'. Refute it at one input. -/
def clockLastWrong : ChangeSpec := { name := "clockLast", fn := fun _ => fun
  | [d1, d2, d3] => { results := [.lit (.bool false)], args := [d1, d2, d3] }
  | _ => none }
def ClockLastWrongFalsely : Prop := clockLastRow.holds Try.pinned (OpenSpec.ofChange clockLastWrong)

/-- 'linguisterlaw5.ClockOwn': WHATEVER THE INPUT: true; the input reads as it did. -/
def clockOwnSpec : ChangeSpec := { name := "clockOwn", fn := fun _ => fun
  | [d1, d2, d3] => { results := [.lit (.bool true)], args := [d1, d2, d3] }
  | _ => none }
def clockOwnRow : OpenClaim := { program := "ytolgkepkdidjcaa", sum := "67b66b1b096573aa16cbf7e825dbf1f8642ae7a54c80e1ced04397f3d7649115", func := "linguister/linguisterlaw5.ClockOwn", spec := "clockOwn", apart := false }
def ClockOwnSaid : Prop := clockOwnRow.holds Try.pinned (OpenSpec.ofChange clockOwnSpec)

/-- ITS FALSE NEIGHBOUR: 'it returns false'. Refute it at one input. -/
def clockOwnWrong : ChangeSpec := { name := "clockOwn", fn := fun _ => fun
  | [d1, d2, d3] => { results := [.lit (.bool false)], args := [d1, d2, d3] }
  | _ => none }
def ClockOwnWrongFalsely : Prop := clockOwnRow.holds Try.pinned (OpenSpec.ofChange clockOwnWrong)

/- THE SECOND FORM. 'bulk': how many values and letters a reading holds, each counted each time it is reached (what is shared counts as often as it is met; a slice's spare places count too). A statement '..UptoSaid' is the law's where the arguments, and the package variables that the reading takes, are together of bulk at most 1048576: NARROWER than '..Said'. Prove '..Said' where nothing that the law and all that it calls make is longer than what came in: it says more and counts as full. Else prove '..UptoSaid'. A law counts once. -/
mutual
def uptoBulk {H : Type} : DataW H → Nat
  | .lit (.string bytes) => bytes.length + 1
  | .lit _ => 1
  | .nil => 1
  | .ptr d => uptoBulk d + 1
  | .slice elems spare => uptoBulkAll elems + uptoBulkAll spare + 1
  | .agg parts => uptoBulkAll parts + 1
  | .iface _ d => uptoBulk d + 1
  | .map entries => uptoBulkEntries entries + 1
  | .held _ => 1
def uptoBulkAll {H : Type} : List (DataW H) → Nat
  | [] => 0
  | d :: r => uptoBulk d + uptoBulkAll r
def uptoBulkEntries {H : Type} : List (Lit × DataW H) → Nat
  | [] => 0
  | x :: r => uptoBulkEntry x + uptoBulkEntries r
def uptoBulkEntry {H : Type} : Lit × DataW H → Nat
  | (.string bytes, d) => bytes.length + uptoBulk d + 1
  | (_, d) => uptoBulk d + 1
 end
def uptoSmall : (H : Type) → List (DataW H) → Bool := fun _ ds => decide (uptoBulkAll ds ≤ 1048576)
def OpenSpec.upto (s : _root_.Go.ChangeSpec) : _root_.Go.OpenSpec := { _root_.Go.OpenSpec.ofChange s with cond := some uptoSmall }

/-- 'linguisterlaw4.ClockSecond', WHERE WHAT IT READS IS OF BULK AT MOST 1048576: true; the input reads as it did. -/
def clockSecondUptoRow : OpenClaim := { program := "ytolgkepkdidjcaa", sum := "67b66b1b096573aa16cbf7e825dbf1f8642ae7a54c80e1ced04397f3d7649115", func := "linguister/linguisterlaw4.ClockSecond", spec := "clockSecond", recurses := true, apart := false, narrowed := true }
def ClockSecondUptoSaid : Prop := clockSecondUptoRow.holds Try.pinned (OpenSpec.upto clockSecondSpec)

/-- 'linguisterlaw4.ClockLast', WHERE WHAT IT READS IS OF BULK AT MOST 1048576: true; the input reads as it did. -/
def clockLastUptoRow : OpenClaim := { program := "ytolgkepkdidjcaa", sum := "67b66b1b096573aa16cbf7e825dbf1f8642ae7a54c80e1ced04397f3d7649115", func := "linguister/linguisterlaw4.ClockLast", spec := "clockLast", apart := false, narrowed := true }
def ClockLastUptoSaid : Prop := clockLastUptoRow.holds Try.pinned (OpenSpec.upto clockLastSpec)

/-- 'linguisterlaw5.ClockOwn', WHERE WHAT IT READS IS OF BULK AT MOST 1048576: true; the input reads as it did. -/
def clockOwnUptoRow : OpenClaim := { program := "ytolgkepkdidjcaa", sum := "67b66b1b096573aa16cbf7e825dbf1f8642ae7a54c80e1ced04397f3d7649115", func := "linguister/linguisterlaw5.ClockOwn", spec := "clockOwn", apart := false, narrowed := true }
def ClockOwnUptoSaid : Prop := clockOwnUptoRow.holds Try.pinned (OpenSpec.upto clockOwnSpec)

end Rows
end Go.Proofs.Ytolgkepkdidjcaa
