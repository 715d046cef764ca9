/- The reference's cache: a row of places, At and Keys. -/
import Derived.Test.YtolgkepkdidjcaaDoorClocked
namespace Go.Proofs.YtolgkepkdidjcaaDoor
open Go.RowKit

/-- Block pb is a row whose first places are ps (there may be room behind). -/
def RowP (w : World) (pb : Nat) (ps : List Plc) : Prop := ∃ cur : Array Value, Blk w pb 40 cur ∧ cur.toList.take (ps.length * 4) = cellsOf ps
section
variable {w w' : World} {pb : Nat} {ps : List Plc}
theorem RowP.size {cur : Array Value} (ht : cur.toList.take (ps.length * 4) = cellsOf ps) : ps.length * 4 ≤ cur.size := by
  have := congrArg List.length ht
  rw [List.length_take, cellsOf_length] at this
  have h : cur.toList.length = cur.size := Array.length_toList
  omega
theorem RowP.row (h : RowP w pb ps) (j : Nat) (hj : j < ps.length) :
    w.cell? ⟨pb, j * 4, none⟩ = some (.string ps[j].key) ∧ w.cell? ⟨pb, j * 4 + 1, none⟩ = some (.string ps[j].val) ∧ w.cell? ⟨pb, j * 4 + 2, none⟩ = some (.bool ps[j].used) ∧ w.cell? ⟨pb, j * 4 + 3, none⟩ = some (.bool ps[j].mark) := by
  obtain ⟨cur, hb, ht⟩ := h
  have c : ∀ i, i < 4 → w.cell? ⟨pb, j * 4 + i, none⟩ = (ps[j].cells)[i]? := fun i hi => by
    rw [hb.cell, ← cells_at ps j i hj hi, ← ht, List.getElem?_take, if_pos (by omega), Array.getElem?_toList]
  exact ⟨c 0 (by omega), c 1 (by omega), c 2 (by omega), c 3 (by omega)⟩
theorem RowP.frozen (h : RowP w pb ps) (i : Nat) : w.frozen? ⟨pb, i, none⟩ = false := let ⟨_, hb, _⟩ := h; hb.frozen i
theorem RowP.lt (h : RowP w pb ps) : pb < w.heap.size := let ⟨_, hb, _⟩ := h; hb.lt
theorem RowP.fr {S : Nat → Prop} (h : RowP w pb ps) (hb : Fr w w' S) (h1 : ¬ S pb) : RowP w' pb ps := let ⟨cur, h2, ht⟩ := h; ⟨cur, h2.fr hb h1, ht⟩
theorem RowP.below {B : Nat} (h : RowP w pb ps) (hb : Below B w w') (h1 : pb < B) : RowP w' pb ps := let ⟨cur, h2, ht⟩ := h; ⟨cur, h2.below hb h1, ht⟩
theorem RowP.alloc (h : RowP w pb ps) (o : Obj) : RowP (w.alloc o) pb ps := let ⟨cur, h2, ht⟩ := h; ⟨cur, h2.alloc o, ht⟩
theorem RowP.drewN (h : RowP w pb ps) (n : Nat) : RowP (w.drewN n) pb ps := h
theorem RowP.drew (h : RowP w pb ps) : RowP w.drew pb ps := h
theorem RowP.far (h : RowP w pb ps) {p : Addr} (hp : pb ≠ p.block) (u : Value) : RowP (w.setCell p u) pb ps := let ⟨cur, h2, ht⟩ := h; ⟨cur, h2.far hp u, ht⟩
theorem RowP.set1 (h : RowP w pb ps) (j i : Nat) (u : Value) (p : Plc) (hj : j < ps.length) (hi : i < 4) (hp : p.cells = (ps[j].cells).set i u) : RowP (w.setCell ⟨pb, j * 4 + i, none⟩ u) pb (ps.set j p) := by
  obtain ⟨cur, h2, ht⟩ := h
  refine ⟨_, h2.set_ (j * 4 + i) u, ?_⟩
  rw [Array.toList_setIfInBounds, List.length_set, List.take_set, ht, cells_set ps j i u p hj hi hp]
theorem RowP.put (h : RowP w pb ps) (j : Nat) (hj : j < ps.length) (p : Plc) :
    RowP ((((w.setCell ⟨pb, j * 4, none⟩ (.string p.key)).setCell ⟨pb, j * 4 + 1, none⟩ (.string p.val)).setCell ⟨pb, j * 4 + 2, none⟩ (.bool p.used)).setCell ⟨pb, j * 4 + 3, none⟩ (.bool p.mark)) pb (ps.set j p) := by
  have h1 := h.set1 j 0 (.string p.key) { ps[j] with key := p.key } hj (by omega) rfl
  have h2 := h1.set1 j 1 (.string p.val) { ps[j] with key := p.key, val := p.val } (by simpa using hj) (by omega) (by simp [Plc.cells])
  have h3 := h2.set1 j 2 (.bool p.used) { ps[j] with key := p.key, val := p.val, used := p.used } (by simpa using hj) (by omega) (by simp [Plc.cells])
  have h4 := h3.set1 j 3 (.bool p.mark) p (by simpa using hj) (by omega) (by simp [Plc.cells])
  simpa using h4
theorem RowP.mark0 {hand : Nat} (h : RowP w pb ps) (hl : hand < ps.length) : RowP (w.setCell ⟨pb, hand * 4 + 3, none⟩ (.bool false)) pb (unmark ps hand) := by
  have e : unmark ps hand = ps.set hand (PlcMark ps[hand] false) := by unfold unmark; rw [List.getElem?_eq_getElem hl]
  rw [e]
  exact h.set1 hand 3 _ _ hl (by omega) rfl
theorem RowP.of_own {base cap : Nat} (h : w.ownsRow base 40 4 (.slice (some ⟨pb, 0, none⟩) ps.length cap) ps.length (cellsOf ps)) : RowP w pb ps := by
  obtain ⟨_, ⟨h1, _⟩ | ⟨g, cap', cur, hv, _, hh, _, _, _, ht⟩⟩ := h
  · cases h1
  · injection hv with hv
    injection hv with hv
    injection hv with hv
    subst hv
    exact ⟨cur, hh, ht⟩
end

set_option maxHeartbeats 400000 in
theorem qat_any (pb c hand : Nat) (ps : List Plc) (k : ByteArray) (w : World) (hr : RowP w pb ps) (hc : ps.length ≤ c) (hn : ps.length ≤ 50) :
    Calls Tryd.prog 10 #[.agg #[.slice (some ⟨pb, 0, none⟩) ps.length c, .int .i64 hand], .string k] w fun e w' => e = .returned (.int .i64 (idx (ps.findIdx? (hit k)))) ∧ Below w.heap.size w w' := by
  have h2 := hr.lt
  go_enter Tryd.func10, Tryd.ntmps10
  go_wp2
  go_loop [5] (fun i => ∃ j : Nat, j ≤ ps.length ∧ i = .int .i64 j ∧ (∀ q (h : q < ps.length), q < j → hit k ps[q] = false)) (fun i => ps.length - (intOf i).toNat)
  case atStart => exact ⟨0, Nat.zero_le _, rfl, fun _ _ h => absurd h (by omega)⟩
  case round =>
    obtain ⟨j, hj, rfl, hno0⟩ := hrel
    have hno := Lib.hid hno0
    clear hno0
    by_cases hlt : j < ps.length
    · obtain ⟨c1, c2, c3, c4⟩ := (hr.alloc (.cells #[.slice (some ⟨pb, 0, none⟩) ps.length c, .int .i64 hand] 33)).row j hlt
      go_wp2
      · have hu : ps[j].used = true := by assumption
        have hk : (ps[j].key.toList == k.toList) = true := by assumption
        go_ret
        exact ⟨by rw [findIdx_at _ _ j hlt (by unfold hit; rw [hu, hk]; rfl) hno.out]; rfl, (Below.refl _ _).alloc (Nat.le_refl _) _⟩
      · have hk : (ps[j].key.toList == k.toList) = false := by assumption
        go_round
        case rel => exact ⟨j + 1, by omega, by go_num, step_no _ _ j hno.out (fun _ => by unfold hit; rw [hk]; simp)⟩
        case measure => simp [intOf]; omega
      · have hu : ¬ ps[j].used = true := by assumption
        go_round
        case rel => exact ⟨j + 1, by omega, by go_num, step_no _ _ j hno.out (fun _ => by unfold hit; simp [hu])⟩
        case measure => simp [intOf]; omega
    · go_wp2
      go_ret
      exact ⟨by rw [findIdx_none _ _ (fun q h => hno.out q h (by omega))]; rfl, (Below.refl _ _).alloc (Nat.le_refl _) _⟩

set_option maxHeartbeats 800000 in
theorem qkeys_any (pb c hand : Nat) (ps : List Plc) (w : World) (hr : RowP w pb ps) (hc : ps.length ≤ c) (hn : ps.length ≤ 50) :
    Calls Tryd.prog 14 #[.agg #[.slice (some ⟨pb, 0, none⟩) ps.length c, .int .i64 hand]] w fun e w' => ∃ v, e = .returned v ∧ w'.ownsRow w.heap.size 9 1 v (keysOf ps).length ((keysOf ps).map .string) ∧ Below w.heap.size w w' := by
  obtain ⟨i0, hi, hz0, hz1, hz2⟩ := info_parts info_string
  have h2 := hr.lt
  go_enter Tryd.func14, Tryd.ntmps14
  go_wp2
  go_loopw [3, 4] (fun v i wr => ∃ j : Nat, j ≤ ps.length ∧ i = .int .i64 j ∧ wr.ownsRow (w.heap.size + 1) 9 1 v (keysOf (ps.take j)).length ((keysOf (ps.take j)).map .string) ∧ Blk wr w.heap.size 33 #[.slice (some ⟨pb, 0, none⟩) ps.length c, .int .i64 hand] ∧ Below w.heap.size w wr) (fun _ i _ => ps.length - (intOf i).toNat)
  case atStart => exact ⟨0, Nat.zero_le _, rfl, World.ownsRow_nil _ _ _ _, Blk.new _ _ _, (Below.refl _ _).alloc (Nat.le_refl _) _⟩
  case round =>
    obtain ⟨j, hj, rfl, hown, hblk, hb⟩ := hrel
    have k0 := hblk.cell 0
    have klt := hblk.lt
    by_cases hlt : j < ps.length
    · obtain ⟨c1, c2, c3, c4⟩ := (hr.below hb h2).row j hlt
      have ht := keysOf_take ps j hlt
      have hl := keysOf_len (ps.take j)
      rw [List.length_take] at hl
      cases hu : ps[j].used with
      | true =>
        rw [hu] at c3
        rw [hu, if_pos rfl] at ht
        have H := Lib.hid ht
        clear ht
        go_wp2_with (at_builtin; refine wpList_append_own _ rfl _ _ 22 rfl (w.heap.size + 1) 9 i0 (.string ByteArray.empty) 1 16 Tryd.underlying22 hi hz0 hz1 hz2 rfl (by decide) _ _ _ rfl (hown.alloc _) ⟨wr.heap.size, 0, none⟩ 1 1 [.string ps[j].key] rfl rfl ?c1 ?c2 ?c3 ?c4 ?c5 ?_)
        case c1 =>
          intro j u hj
          match j, hj with
          | 0, hj => simp at hj; subst hj; simp [Addr.add]
        case c2 => intro u hu; simp at hu; subst hu; rfl
        case c3 => unfold maxLen; omega
        case c4 => omega
        case c5 => simp; omega
        intro v' w1 hown' hgrow _
        have hne : ∀ k, u3.ownBlock = some k → w.heap.size + 1 ≤ k := fun k hk => (hown.lt k hk).1
        have hb' : Below w.heap.size w w1 := (hb.alloc hb.size _).grown hgrow (by have := hb.size; simp; omega) (fun k hk => by have := hne k hk; omega)
        have hblk' : Blk w1 w.heap.size 33 #[.slice (some ⟨pb, 0, none⟩) ps.length c, .int .i64 hand] := (hgrow.block _ (by simp; omega) (fun e => by have := hne _ e.symm; omega)).trans (hblk.alloc _)
        clear hgrow hown hblk
        go_wp2
        go_roundw
        case rel => exact ⟨j + 1, by omega, by go_num, by rw [H.out]; simpa using hown', hblk', hb'⟩
        case measure => simp [intOf]; omega
      | false =>
        rw [hu] at c3
        rw [hu, if_neg (by simp), List.append_nil] at ht
        have H := Lib.hid ht
        clear ht
        go_wp2
        go_roundw
        case rel => exact ⟨j + 1, by omega, by go_num, by rw [H.out]; exact hown, hblk, hb⟩
        case measure => simp [intOf]; omega
    · go_wp2
      go_ret
      have e : ps.take j = ps := List.take_of_length_le (by omega)
      rw [e] at hown
      exact ⟨_, rfl, own_mono hown (by omega), hb⟩
end Go.Proofs.YtolgkepkdidjcaaDoor
