/- The walk of linguisterlaw5.spoil: it writes into the entries of a bundle, and nowhere else. -/
import Derived.Test.YtiaobgapfoogiaaGreatDoorBunRow
set_option linter.unusedSimpArgs false
set_option linter.unusedVariables false
namespace Go.Proofs.YtiaobgapfoogiaaGreatDoor
open Go.RowKit

/-- a block with at least so many cells of one type -/
def HasN (w : World) (g : Nat) (t : TypeId) (m : Nat) : Prop := ∃ cur : Array Value, w.heap[g]? = some (.cells cur t (0, 0)) ∧ m ≤ cur.size
theorem HasN.cell {w : World} {g m : Nat} {t : TypeId} (h : HasN w g t m) (q : Nat) (hq : q < m) : (∃ u, w.cell? ⟨g, q, none⟩ = some u) ∧ w.frozen? ⟨g, q, none⟩ = false := by
  obtain ⟨cur, hh, hc⟩ := h
  refine ⟨⟨cur[q]'(by omega), ?_⟩, ?_⟩
  · rw [cell_of_row w g q cur t (0, 0) hh, Array.getElem?_eq_getElem (by omega)]
  · simp [World.frozen?, hh]
theorem HasN.set {w : World} {g m : Nat} {t : TypeId} (h : HasN w g t m) (q : Nat) (u : Value) : HasN (w.setCell ⟨g, q, none⟩ u) g t m := by
  obtain ⟨cur, hh, hc⟩ := h
  refine ⟨cur.setIfInBounds q u, ?_, by simpa using hc⟩
  simp [World.setCell, Array.getElem?_modify, hh]
theorem HasN.far {w : World} {g k m q : Nat} {t : TypeId} (h : HasN w g t m) (hk : g ≠ k) (u : Value) : HasN (w.setCell ⟨k, q, none⟩ u) g t m := by
  obtain ⟨cur, hh, hc⟩ := h
  exact ⟨cur, (Below.heap_setCell w ⟨k, q, none⟩ u g hk).trans hh, hc⟩
theorem HasN.below {w w' : World} {g m B : Nat} {t : TypeId} (h : HasN w g t m) (hb : Below B w w') (hg : g < B) : HasN w' g t m := by
  obtain ⟨cur, hh, hc⟩ := h
  exact ⟨cur, (hb.block g hg).trans hh, hc⟩
theorem HasN.of_own {base : Nat} {w : World} {e : TypeId} {sz n c : Nat} {A : Option Addr} {xs : List Value} (h : w.ownsRow base e sz (.slice A n c) n xs) (hn : 0 < n) : ∃ g, A = some ⟨g, 0, none⟩ ∧ base ≤ g ∧ g < w.heap.size ∧ HasN w g e (n * sz) := by
  rcases h.2 with ⟨_, h0⟩ | ⟨g, cap, cur, hv, hb, hh, hc, hm, hcs, _⟩
  · omega
  · injection hv with h1 h2 h3
    subst h3
    exact ⟨g, h1, hb, Blk.lt (t := e) (cs := cur) hh, cur, hh, by rw [hcs]; exact Nat.mul_le_mul_right _ hc⟩
def OwnB (v : Value) (k : Nat) : Prop := v.ownBlock = some k

set_option maxHeartbeats 1600000 in
theorem spoil_any (tg x : ByteArray) (A : Option Addr) (n c base : Nat) (xs : List Value) (w : World) (h : w.ownsRow base 33 2 (.slice A n c) n xs) (hn : n ≤ 1000000) :
    Calls Tryz.prog 19 #[.agg #[.string tg, .slice A n c], .string x] w fun e w' => e = .returned (.tuple #[]) ∧ Fr w w' (OwnB (.slice A n c)) := by
  have HG : Hid (0 < n → ∃ g, A = some ⟨g, 0, none⟩ ∧ base ≤ g ∧ g < w.heap.size ∧ HasN w g 33 (n * 2)) := Lib.hid fun hn => HasN.of_own h hn
  have HNb : Hid (¬ OwnB (.slice A n c) w.heap.size) := Lib.hid fun e => by have := (own_lt h e).2; omega
  clear h
  go_enter Tryz.func19, Tryz.ntmps19
  go_wp2_with fail
  obtain ⟨W1, eW1⟩ : ∃ W1, W1 = w.alloc (.cells #[.string tg, .slice A n c] 24) := ⟨_, rfl⟩
  have mb : Blk W1 w.heap.size 24 #[.string tg, .slice A n c] := by rw [eW1]; exact Blk.new _ _ _
  have hb1 : Below w.heap.size w W1 := by rw [eW1]; exact (Below.refl _ _).alloc (Nat.le_refl _) _
  have HM := Lib.hid mb
  have HB1 := Lib.hid hb1
  have HW1 := Lib.hid eW1
  rw [← HW1.out]
  clear eW1 mb hb1 HW1
  go_loopw [4] (fun i wr => ∃ j : Nat, j ≤ n ∧ i = .int .i64 j ∧ Fr W1 wr (OwnB (.slice A n c)) ∧ ∀ g, A = some ⟨g, 0, none⟩ → 0 < n → HasN wr g 33 (n * 2)) (fun i _ => n - (intOf i).toNat)
  case atStart => exact ⟨0, Nat.zero_le _, rfl, Fr.refl _ _, fun g hg h0 => by
    obtain ⟨g', e, _, hlt, hh⟩ := HG.out h0
    have : g' = g := by rw [e] at hg; injection hg with hg; injection hg
    subst this
    exact hh.below HB1.out hlt⟩
  case round =>
    obtain ⟨j, hj, rfl, hF, hR⟩ := hrel
    have hml := HM.out.lt
    have hk : wr.cell? ⟨w.heap.size, 1, none⟩ = some (.slice A n c) := (hF.cell (p := ⟨w.heap.size, 1, none⟩) hml HNb.out).trans ((HM.out.cell 1).trans rfl)
    have HF := Lib.hid hF
    have HR := Lib.hid hR
    clear hF hR
    by_cases hlt : j < n
    · obtain ⟨g, rfl, hbg, hgl, _⟩ := HG.out (by omega)
      have hh := HR.out g rfl (by omega)
      obtain ⟨⟨u0, h0⟩, f0⟩ := hh.cell (j * 2) (by omega)
      obtain ⟨⟨u1, h1⟩, f1⟩ := hh.cell (j * 2 + 1) (by omega)
      have HS : Hid (Fr W1 ((wr.setCell ⟨g, j * 2, none⟩ (.string x)).setCell ⟨g, j * 2 + 1, none⟩ (.string x)) (OwnB (.slice (some ⟨g, 0, none⟩) n c))) := Lib.hid ((HF.out.setCell (p := ⟨g, j * 2, none⟩) (.inl rfl) _).setCell (p := ⟨g, j * 2 + 1, none⟩) (.inl rfl) _)
      have HH := Lib.hid ((hh.set (j * 2) (.string x)).set (j * 2 + 1) (.string x))
      clear hh
      have i1 : (0 : Int) ≤ (j : Int) := Int.natCast_nonneg j
      have i2 : (j : Int) < (n : Int) := by omega
      go_wp2_with fail
      refine ⟨⟨j + 1, by omega, by go_num, HS.out, fun g' hg' _ => ?_⟩, by simp [intOf]; omega⟩
      injection hg' with hg'
      injection hg' with hg'
      subst hg'
      exact HH.out
    · go_wp2_with fail
      go_end0
      exact ⟨rfl, (Fr.of_below HB1.out _).trans HF.out⟩
end Go.Proofs.YtiaobgapfoogiaaGreatDoor
