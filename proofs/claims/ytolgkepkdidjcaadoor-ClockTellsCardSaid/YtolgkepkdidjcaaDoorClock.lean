/- The clock cache: what it is in memory, and what each of its methods does. -/
import Derived.Test.YtolgkepkdidjcaaDoorBase
import Derived.BigQuiet
import Derived.Deep.QuietTactic
import Derived.StillTailTactics
namespace Go.Proofs.YtolgkepkdidjcaaDoor
open Go.RowKit

structure Plc where
  key : ByteArray
  val : ByteArray
  used : Bool
  mark : Bool
def Plc.cells (p : Plc) : List Value := [.string p.key, .string p.val, .bool p.used, .bool p.mark]
def cellsOf (ps : List Plc) : List Value := ps.flatMap Plc.cells
def Plc.zero : Plc := ⟨ByteArray.empty, ByteArray.empty, false, false⟩

theorem cellsOf_length (ps : List Plc) : (cellsOf ps).length = ps.length * 4 := by
  induction ps with
  | nil => rfl
  | cons p r ih =>
    have e : cellsOf (p :: r) = p.cells ++ cellsOf r := by simp [cellsOf]
    have l : p.cells.length = 4 := rfl
    rw [e, List.length_append, ih, l, List.length_cons]; omega
theorem cells_at (ps : List Plc) (j i : Nat) (h : j < ps.length) (hi : i < 4) : (cellsOf ps)[j * 4 + i]? = (ps[j].cells)[i]? := by
  induction ps generalizing j with
  | nil => simp at h
  | cons p r ih =>
    have e : cellsOf (p :: r) = p.cells ++ cellsOf r := by simp [cellsOf]
    have l : p.cells.length = 4 := rfl
    rw [e]
    cases j with
    | zero => rw [List.getElem?_append_left (by omega)]; simp
    | succ j =>
      rw [List.getElem?_append_right (by omega), l, show (j + 1) * 4 + i - 4 = j * 4 + i from by omega]
      simpa using ih j (by simpa using h)
theorem cells_set (ps : List Plc) (j i : Nat) (u : Value) (p : Plc) (h : j < ps.length) (hi : i < 4) (hp : p.cells = (ps[j].cells).set i u) : (cellsOf ps).set (j * 4 + i) u = cellsOf (ps.set j p) := by
  induction ps generalizing j with
  | nil => simp at h
  | cons q r ih =>
    have e : ∀ q r, cellsOf (q :: r) = q.cells ++ cellsOf r := by simp [cellsOf]
    have l : q.cells.length = 4 := rfl
    rw [e]
    cases j with
    | zero =>
      rw [List.set_append_left _ _ (by omega)]
      simp only [List.set_cons_zero, e]
      rw [hp]; simp
    | succ j =>
      rw [List.set_append_right _ _ (by omega), l, show (j + 1) * 4 + i - 4 = j * 4 + i from by omega, ih j (by simpa using h) (by simpa using hp)]
      simp only [List.set_cons_succ, e]

/-- The cache behind pointer ⟨bc, 0⟩: its struct in block bc, its places in block bp. -/
def Cach (w : World) (bc bp : Nat) (ps : List Plc) (hand : Nat) : Prop :=
  Blk w bc 47 #[.slice (some ⟨bp, 0, none⟩) ps.length ps.length, .int .i64 hand] ∧ Blk w bp 51 (cellsOf ps).toArray
def CS (bc bp : Nat) : Nat → Prop := fun k => k = bc ∨ k = bp

section
variable {w w' : World} {bc bp hand : Nat} {ps : List Plc}
theorem Cach.ne (h : Cach w bc bp ps hand) : bc ≠ bp := by
  rintro rfl
  obtain ⟨h1, h2⟩ := h
  unfold Blk at h1 h2
  rw [h1] at h2
  injection h2 with h2
  injection h2 with _ h2
  exact absurd h2 (by decide)
theorem Cach.row (h : Cach w bc bp ps hand) (j : Nat) (hj : j < ps.length) :
    w.cell? ⟨bp, j * 4, none⟩ = some (.string ps[j].key) ∧ w.cell? ⟨bp, j * 4 + 1, none⟩ = some (.string ps[j].val) ∧ w.cell? ⟨bp, j * 4 + 2, none⟩ = some (.bool ps[j].used) ∧ w.cell? ⟨bp, j * 4 + 3, none⟩ = some (.bool ps[j].mark) := by
  have c : ∀ i, i < 4 → w.cell? ⟨bp, j * 4 + i, none⟩ = (ps[j].cells)[i]? := fun i hi => by
    rw [h.2.cell, List.getElem?_toArray, cells_at ps j i hj hi]
  exact ⟨c 0 (by omega), c 1 (by omega), c 2 (by omega), c 3 (by omega)⟩
theorem Cach.head (h : Cach w bc bp ps hand) : w.cell? ⟨bc, 0, none⟩ = some (.slice (some ⟨bp, 0, none⟩) ps.length ps.length) ∧ w.cell? ⟨bc, 1, none⟩ = some (.int .i64 hand) := ⟨h.1.cell 0, h.1.cell 1⟩
theorem Cach.frozen (h : Cach w bc bp ps hand) : (∀ i, w.frozen? ⟨bc, i, none⟩ = false) ∧ (∀ i, w.frozen? ⟨bp, i, none⟩ = false) := ⟨h.1.frozen, h.2.frozen⟩
theorem Cach.lt (h : Cach w bc bp ps hand) : bc < w.heap.size ∧ bp < w.heap.size := ⟨h.1.lt, h.2.lt⟩
theorem Cach.fr {S : Nat → Prop} (h : Cach w bc bp ps hand) (hb : Fr w w' S) (h1 : ¬ S bc) (h2 : ¬ S bp) : Cach w' bc bp ps hand := ⟨h.1.fr hb h1, h.2.fr hb h2⟩
theorem Cach.below {B : Nat} (h : Cach w bc bp ps hand) (hb : Below B w w') (h1 : bc < B) (h2 : bp < B) : Cach w' bc bp ps hand := ⟨h.1.below hb h1, h.2.below hb h2⟩
theorem Cach.drewN (h : Cach w bc bp ps hand) (n : Nat) : Cach (w.drewN n) bc bp ps hand := h
theorem Cach.drew (h : Cach w bc bp ps hand) : Cach w.drew bc bp ps hand := h
theorem Cach.set1 (h : Cach w bc bp ps hand) (j i : Nat) (u : Value) (p : Plc) (hj : j < ps.length) (hi : i < 4) (hp : p.cells = (ps[j].cells).set i u) : Cach (w.setCell ⟨bp, j * 4 + i, none⟩ u) bc bp (ps.set j p) hand := by
  refine ⟨by rw [List.length_set]; exact h.1.far h.ne u, ?_⟩
  have := h.2.set_ (j * 4 + i) u
  rwa [List.setIfInBounds_toArray, cells_set ps j i u p hj hi hp] at this
theorem Cach.setHand (h : Cach w bc bp ps hand) (n : Nat) : Cach (w.setCell ⟨bc, 1, none⟩ (.int .i64 n)) bc bp ps n :=
  ⟨h.1.set_ 1 _, h.2.far (fun e => h.ne e.symm) _⟩
end

def hit (k : ByteArray) (p : Plc) : Bool := p.used && p.key.toList == k.toList
def idle (p : Plc) : Bool := !p.used
def idx (o : Option Nat) : Int := match o with | some i => (i : Int) | none => -1

set_option maxHeartbeats 400000 in
theorem at_any (bc bp : Nat) (ps : List Plc) (hand : Nat) (k : ByteArray) (w : World) (hc : Cach w bc bp ps hand) (hn : ps.length ≤ 50) :
    Calls Tryd.prog 16 #[.pointer (some ⟨bc, 0, none⟩), .string k] w fun e w' => e = .returned (.int .i64 (idx (ps.findIdx? (hit k)))) ∧ Below w.heap.size w w' := by
  obtain ⟨c0, _⟩ := hc.head
  have h2 := hc.lt.2
  go_enter Tryd.func16, Tryd.ntmps16
  go_wp2
  go_loopw [12] (fun i wr => ∃ j : Nat, j ≤ ps.length ∧ i = .int .i64 j ∧ (∀ q (h : q < ps.length), q < j → hit k ps[q] = false) ∧ Below w.heap.size w wr) (fun i _ => ps.length - (intOf i).toNat)
  case atStart => exact ⟨0, Nat.zero_le _, rfl, fun _ _ h => absurd h (by omega), Below.refl _ _⟩
  case round =>
    obtain ⟨j, hj, rfl, hno0, hb⟩ := hrel
    have hno := Lib.hid hno0
    clear hno0
    by_cases hlt : j < ps.length
    · obtain ⟨c1, c2, c3, c4⟩ := hc.row j hlt
      rw [← hb.cell (by exact h2)] at c1 c2 c3 c4
      go_wp2
      · have hu : ps[j].used = true := by assumption
        have hk : (ps[j].key.toList == k.toList) = true := by assumption
        go_ret
        exact ⟨by rw [findIdx_at _ _ j hlt (by unfold hit; rw [hu, hk]; rfl) hno.out]; rfl, (hb.alloc hb.size _)⟩
      · have hk : (ps[j].key.toList == k.toList) = false := by assumption
        go_roundw
        case rel => exact ⟨j + 1, by omega, by go_num, step_no _ _ j hno.out (fun _ => by unfold hit; rw [hk]; simp), (hb.alloc hb.size _)⟩
        case measure => simp [intOf]; omega
      · have hu : ¬ ps[j].used = true := by assumption
        go_roundw
        case rel => exact ⟨j + 1, by omega, by go_num, step_no _ _ j hno.out (fun _ => by unfold hit; simp [hu]), (hb.alloc hb.size _)⟩
        case measure => simp [intOf]; omega
    · go_wp2
      go_ret
      exact ⟨by rw [findIdx_none _ _ (fun q h => hno.out q h (by omega))]; rfl, hb⟩

set_option maxHeartbeats 400000 in
theorem free_any (bc bp : Nat) (ps : List Plc) (hand : Nat) (w : World) (hc : Cach w bc bp ps hand) (hn : ps.length ≤ 50) :
    Calls Tryd.prog 17 #[.pointer (some ⟨bc, 0, none⟩)] w fun e w' => e = .returned (.int .i64 (idx (ps.findIdx? idle))) ∧ Below w.heap.size w w' := by
  obtain ⟨c0, _⟩ := hc.head
  have h2 := hc.lt.2
  go_enter Tryd.func17, Tryd.ntmps17
  go_wp2
  go_loopw [10] (fun i wr => ∃ j : Nat, j ≤ ps.length ∧ i = .int .i64 j ∧ (∀ q (h : q < ps.length), q < j → idle ps[q] = false) ∧ Below w.heap.size w wr) (fun i _ => ps.length - (intOf i).toNat)
  case atStart => exact ⟨0, Nat.zero_le _, rfl, fun _ _ h => absurd h (by omega), Below.refl _ _⟩
  case round =>
    obtain ⟨j, hj, rfl, hno0, hb⟩ := hrel
    have hno := Lib.hid hno0
    clear hno0
    by_cases hlt : j < ps.length
    · obtain ⟨c1, c2, c3, c4⟩ := hc.row j hlt
      rw [← hb.cell (by exact h2)] at c1 c2 c3 c4
      cases hu : ps[j].used with
      | false =>
        go_wp2
        go_ret
        exact ⟨by rw [findIdx_at _ _ j hlt (by unfold idle; rw [hu]; rfl) hno.out]; rfl, (hb.alloc hb.size _)⟩
      | true =>
        go_wp2
        go_roundw
        case rel => exact ⟨j + 1, by omega, by go_num, step_no _ _ j hno.out (fun _ => by unfold idle; rw [hu]; rfl), (hb.alloc hb.size _)⟩
        case measure => simp [intOf]; omega
    · go_wp2
      go_ret
      exact ⟨by rw [findIdx_none _ _ (fun q h => hno.out q h (by omega))]; rfl, hb⟩
end Go.Proofs.YtolgkepkdidjcaaDoor
