/- What a world that has drawn reads behind a new block. No program. -/
import Derived.Test.YtiaobgapfoogiaaGreatDoorBase
import Derived.BigQuiet
import Derived.Deep.QuietTactic
set_option linter.unusedSimpArgs false
set_option linter.unusedVariables false
namespace Go.Proofs.YtiaobgapfoogiaaGreatDoor
open Go.RowKit
@[go_sem] theorem cell_drewN_alloc (w : World) (n : Nat) (o : Obj) (k i : Nat) (h : k < w.heap.size) : ((w.drewN n).alloc o).cell? ⟨k, i, none⟩ = w.cell? ⟨k, i, none⟩ := World.cell?_alloc_lt (w.drewN n) o ⟨k, i, none⟩ h
@[go_sem] theorem frozen_drewN_alloc (w : World) (n : Nat) (o : Obj) (k i : Nat) (h : k < w.heap.size) : ((w.drewN n).alloc o).frozen? ⟨k, i, none⟩ = w.frozen? ⟨k, i, none⟩ := by
  have h1 : Below w.heap.size w ((w.drewN n).alloc o) := Below.alloc (a := w) (w := w.drewN n) ⟨rfl, rfl, rfl, Nat.le_refl _, fun _ _ => rfl⟩ (Nat.le_refl _) o
  exact h1.frozen (p := ⟨k, i, none⟩) h
example (wr : World) (n bx : Nat) (o : Obj) (v : Value) (h : bx < wr.heap.size) (b1 : wr.cell? ⟨bx, 1, none⟩ = some v) : ((wr.drewN n).alloc o).cell? ⟨bx, 1, none⟩ = some v := by
  go_simp
end Go.Proofs.YtiaobgapfoogiaaGreatDoor
