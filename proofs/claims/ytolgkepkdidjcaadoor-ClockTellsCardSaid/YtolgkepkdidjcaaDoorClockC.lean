/- The clock cache's methods Keys and Put. -/
import Derived.Test.YtolgkepkdidjcaaDoorClockB
namespace Go.Proofs.YtolgkepkdidjcaaDoor
open Go.RowKit

def keysOf (ps : List Plc) : List ByteArray := (ps.filter (·.used)).map (·.key)
theorem keysOf_take (ps : List Plc) (j : Nat) (h : j < ps.length) : keysOf (ps.take (j + 1)) = keysOf (ps.take j) ++ (if ps[j].used then [ps[j].key] else []) := by
  unfold keysOf
  rw [List.take_succ_eq_append_getElem h, List.filter_append, List.map_append]
  cases hu : ps[j].used <;> simp [hu]
theorem keysOf_len (ps : List Plc) : (keysOf ps).length ≤ ps.length := by
  unfold keysOf; rw [List.length_map]; exact List.length_filter_le _ _

set_option maxHeartbeats 800000 in
theorem keys_any (bc bp : Nat) (ps : List Plc) (hand : Nat) (w : World) (hc : Cach w bc bp ps hand) (hn : ps.length ≤ 50) :
    Calls Tryd.prog 13 #[.pointer (some ⟨bc, 0, none⟩)] w fun e w' => ∃ v, e = .returned v ∧ w'.ownsRow w.heap.size 9 1 v (keysOf ps).length ((keysOf ps).map .string) ∧ Below w.heap.size w w' := by
  obtain ⟨c0, _⟩ := hc.head
  obtain ⟨i0, hi, hz0, hz1, hz2⟩ := info_parts info_string
  have h2 := hc.lt.2
  go_enter Tryd.func13, Tryd.ntmps13
  go_wp2
  go_loopw [3, 11] (fun v i wr => ∃ j : Nat, j ≤ ps.length ∧ i = .int .i64 j ∧ wr.ownsRow w.heap.size 9 1 v (keysOf (ps.take j)).length ((keysOf (ps.take j)).map .string) ∧ Below w.heap.size w wr) (fun _ i _ => ps.length - (intOf i).toNat)
  case atStart => exact ⟨0, Nat.zero_le _, rfl, World.ownsRow_nil _ _ _ _, Below.refl _ _⟩
  case round =>
    obtain ⟨j, hj, rfl, hown, hb⟩ := hrel
    by_cases hlt : j < ps.length
    · obtain ⟨c1, c2, c3, c4⟩ := hc.row j hlt
      rw [← hb.cell (by exact h2)] at c1 c2 c3 c4
      have ht := keysOf_take ps j hlt
      have hl := keysOf_len (ps.take j)
      rw [List.length_take] at hl
      cases hu : ps[j].used with
      | true =>
        rw [hu, if_pos rfl] at ht
        have H := Lib.hid ht
        clear ht
        go_wp2_with (at_builtin; refine wpList_append_own _ rfl _ _ 22 rfl w.heap.size 9 i0 (.string ByteArray.empty) 1 16 Tryd.underlying22 hi hz0 hz1 hz2 rfl (by decide) _ _ _ rfl ((hown.alloc _).alloc _) ⟨wr.heap.size + 1, 0, none⟩ 1 1 [.string ps[j].key] rfl rfl ?c1 ?c2 ?c3 ?c4 ?c5 ?_)
        case c1 =>
          intro j u hj
          match j, hj with
          | 0, hj => simp at hj; subst hj; simp [Addr.add]
        case c2 => intro u hu; simp at hu; subst hu; rfl
        case c3 => unfold maxLen; omega
        case c4 => omega
        case c5 => have := hb.size; simp; omega
        intro v' w1 hown' hgrow _
        have hb' : Below w.heap.size w w1 := ((hb.alloc hb.size _).alloc (by have := hb.size; simp; omega) _).grown hgrow (by have := hb.size; simp; omega) (fun k hk => (hown.lt k hk).1)
        clear hgrow hown
        go_wp2
        go_roundw
        case rel => exact ⟨j + 1, by omega, by go_num, by rw [H.out]; simpa using hown', hb'⟩
        case measure => simp [intOf]; omega
      | false =>
        rw [hu, if_neg (by simp), List.append_nil] at ht
        have H := Lib.hid ht
        clear ht
        go_wp2
        go_roundw
        case rel => exact ⟨j + 1, by omega, by go_num, by rw [H.out]; exact hown.alloc _, hb.alloc hb.size _⟩
        case measure => simp [intOf]; omega
    · go_wp2
      go_ret
      have e : ps.take j = ps := List.take_of_length_le (by omega)
      rw [e] at hown
      exact ⟨_, rfl, hown, hb⟩

/- ## Put -/
def unmark (ps : List Plc) (h : Nat) : List Plc := match ps[h]? with | some p => ps.set h (PlcMark p false) | none => ps
def markAt (ps : List Plc) (h : Nat) : Bool := match ps[h]? with | some p => p.mark | none => false
/-- the hand goes round, till it stands where no mark is -/
def sweep : Nat → List Plc → Nat → List Plc × Nat
  | 0, ps, h => (ps, h)
  | f + 1, ps, h => if markAt ps h then sweep f (unmark ps h) ((h + 1) % ps.length) else (ps, h)
def marks (ps : List Plc) : Nat := ps.countP (·.mark)
theorem unmark_length (ps : List Plc) (h : Nat) : (unmark ps h).length = ps.length := by unfold unmark; split <;> simp
theorem sweep_stop (f : Nat) (ps : List Plc) (h : Nat) (hm : markAt ps h = false) : sweep f ps h = (ps, h) := by
  cases f <;> simp [sweep, hm]
theorem marks_set (ps : List Plc) (h : Nat) (hl : h < ps.length) (hm : ps[h].mark = true) : marks (ps.set h (PlcMark ps[h] false)) + 1 = marks ps := by
  unfold marks
  have hpos : 0 < ps.countP (·.mark) := List.countP_pos_iff.2 ⟨_, List.getElem_mem hl, hm⟩
  rw [List.countP_set hl, hm]
  simp [PlcMark]; omega
theorem sweep_len (f : Nat) : ∀ ps h, (sweep f ps h).1.length = ps.length := by
  induction f with
  | zero => intro ps h; rfl
  | succ f ih => intro ps h; unfold sweep; split
                 · rw [ih, unmark_length]
                 · rfl
theorem sweep_hand (f : Nat) : ∀ ps h, h < ps.length → (sweep f ps h).2 < ps.length := by
  induction f with
  | zero => intro ps h hl; exact hl
  | succ f ih => intro ps h hl; unfold sweep; split
                 · have := ih (unmark ps h) ((h + 1) % ps.length) (by rw [unmark_length]; exact Nat.mod_lt _ (by omega))
                   rwa [unmark_length] at this
                 · exact hl

def fresh (k v : ByteArray) : Plc := ⟨k, v, true, true⟩
def spot (ps : List Plc) (k : ByteArray) : Option Nat := (ps.findIdx? (hit k)).or (ps.findIdx? idle)

theorem Cach.put {w : World} {bc bp hand : Nat} {ps : List Plc} (h : Cach w bc bp ps hand) (j : Nat) (hj : j < ps.length) (p : Plc) :
    Cach ((((w.setCell ⟨bp, j * 4, none⟩ (.string p.key)).setCell ⟨bp, j * 4 + 1, none⟩ (.string p.val)).setCell ⟨bp, j * 4 + 2, none⟩ (.bool p.used)).setCell ⟨bp, j * 4 + 3, none⟩ (.bool p.mark)) bc bp (ps.set j p) hand := by
  have h1 := h.set1 j 0 (.string p.key) { ps[j] with key := p.key } hj (by omega) rfl
  have h2 := h1.set1 j 1 (.string p.val) { ps[j] with key := p.key, val := p.val } (by simpa using hj) (by omega) (by simp [Plc.cells])
  have h3 := h2.set1 j 2 (.bool p.used) { ps[j] with key := p.key, val := p.val, used := p.used } (by simpa using hj) (by omega) (by simp [Plc.cells])
  have h4 := h3.set1 j 3 (.bool p.mark) p (by simpa using hj) (by omega) (by simp [Plc.cells])
  simpa using h4
theorem fr_put {w w1 : World} {bc bp : Nat} (h : Fr w w1 (CS bc bp)) (a b c d : Nat) (x y z u : Value) : Fr w ((((w1.setCell ⟨bp, a, none⟩ x).setCell ⟨bp, b, none⟩ y).setCell ⟨bp, c, none⟩ z).setCell ⟨bp, d, none⟩ u) (CS bc bp) :=
  (((h.setCell (.inl (.inr rfl)) _).setCell (.inl (.inr rfl)) _).setCell (.inl (.inr rfl)) _).setCell (.inl (.inr rfl)) _

set_option maxHeartbeats 800000 in
theorem put_at (bc bp : Nat) (ps : List Plc) (hand : Nat) (k v : ByteArray) (w : World) (hc : Cach w bc bp ps hand) (hn : ps.length ≤ 50) (i : Nat) (hi : i < ps.length) (hs : spot ps k = some i) :
    Calls Tryd.prog 9 #[.pointer (some ⟨bc, 0, none⟩), .string k, .string v] w fun e w' => e = .returned (.tuple #[.string ByteArray.empty, .bool false]) ∧ Cach w' bc bp (ps.set i (fresh k v)) hand ∧ Fr w w' (CS bc bp) := by
  have h := at_any bc bp ps hand k w hc hn
  unfold spot at hs
  cases hf : ps.findIdx? (hit k) with
  | some j =>
    rw [hf, Option.some_or, Option.some_inj] at hs
    subst hs
    rw [hf] at h
    have H := Lib.hid h
    clear h hf
    go_enter Tryd.func9, Tryd.ntmps9
    go_wp2_with (go_at_call 16; refine H.out.mono ?_; rintro e w1 ⟨rfl, hb⟩; simp only [idx]; have hc1 := hc.below hb hc.lt.1 hc.lt.2; obtain ⟨c0, _⟩ := hc1.head; obtain ⟨c1, c2, c3, c4⟩ := hc1.row j hi; have f1 := hc1.frozen.2; have hne := hc1.ne)
    go_ret2
    exact ⟨rfl, hc1.put j hi (fresh k v), fr_put (Fr.of_below hb _) _ _ _ _ _ _ _ _⟩
  | none =>
    rw [hf, Option.none_or] at hs
    rw [hf] at h
    have H := Lib.hid h
    have H2 : Hid (∀ w1, Below w.heap.size w w1 → Calls Tryd.prog 17 #[.pointer (some ⟨bc, 0, none⟩)] w1 fun e w' => e = .returned (.int .i64 (idx (some i))) ∧ Below w1.heap.size w1 w') := by
      intro w1 hb
      rw [← hs]
      exact free_any bc bp ps hand w1 (hc.below hb hc.lt.1 hc.lt.2) hn
    clear h hf hs
    go_enter Tryd.func9, Tryd.ntmps9
    go_wp2_with (first | (go_at_call 16; refine H.out.mono ?_; rintro e w1 ⟨rfl, hb⟩; simp only [idx]) | (go_at_call 17; refine (H2.out _ (by assumption)).mono ?_; rintro e w2 ⟨rfl, hb2⟩; simp only [idx]; have hb3 := hb.trans (hb2.mono hb.size); have hc1 := hc.below hb3 hc.lt.1 hc.lt.2; obtain ⟨c0, _⟩ := hc1.head; obtain ⟨c1, c2, c3, c4⟩ := hc1.row i hi; have f1 := hc1.frozen.2; have hne := hc1.ne))
    go_ret2
    exact ⟨rfl, hc1.put i hi (fresh k v), fr_put (Fr.of_below hb3 _) _ _ _ _ _ _ _ _⟩
end Go.Proofs.YtolgkepkdidjcaaDoor
