/- Encode and Decode, as each law asks them. -/
import Derived.Test.YtmpjfomfibkbnaaGreatDoorPackA
set_option linter.unusedSimpArgs false
set_option linter.unusedVariables false
namespace Go.Proofs.YtmpjfomfibkbnaaGreatDoor
open Go.RowKit

theorem dec_uni {w w' : World} {l : List UInt8} {e : Ending} (h : DecRes w l e w') : Below w.heap.size w w' ∧ ∃ u, e = .returned (.tuple #[.agg #[.string (unpackB l).tag, u], errV (unpackE l)]) ∧ w'.ownsRow w.heap.size 32 2 u (unpackB l).ents.length (flatE (unpackB l).ents) := by
  obtain ⟨hb, ⟨h0, rfl⟩ | ⟨h0, u, rfl, hu⟩⟩ := h
  · refine ⟨hb, .slice none 0 0, ?_, ?_⟩
    · have : unpackB l = noB := by unfold unpackB; rw [if_neg h0]
      rw [this, errV_ne h0]; rfl
    · have : unpackB l = noB := by unfold unpackB; rw [if_neg h0]
      rw [this]; exact own_nil
  · exact ⟨hb, u, by rw [h0]; rfl, hu⟩
theorem bytes_le {b : Bun} (h : Right b) : (bytesB b).length ≤ 210004 := by
  have h1 := preB_len (t := b.tag) (n := (srt b.ents).length) (S := srt b.ents) (tag_short h.tag) (by rw [srt_length h.uniq]; exact h.len) (fun e he => h.each e ((mem_srt h.uniq).1 he)) (srt b.ents).length
  rw [preB_end] at h1
  unfold bytesB
  rw [List.length_append]
  have : (be4 (sumOf (bodyB b.tag (srt b.ents)))).length = 4 := rfl
  omega
/-- Encode's two ways. -/
theorem enc_uni {w w' : World} {b : Bun} {e : Ending} (h : EncRes w b e w') : Below w.heap.size w w' ∧ ((bunFault b ≠ 0 ∧ e = .returned (.tuple #[.slice none 0 0, errV (bunFault b)])) ∨
    (Right b ∧ ∃ A c, e = .returned (.tuple #[.slice A (bytesB b).length c, .nilIface]) ∧ w'.ownsRow w.heap.size 5 1 (.slice A (bytesB b).length c) (bytesB b).length (bytesV (bytesB b)))) := by
  obtain ⟨hb, h1 | ⟨h0, u, rfl, hu⟩⟩ := h
  · exact ⟨hb, .inl h1⟩
  · obtain ⟨A, c, rfl, _⟩ := own_slice hu
    exact ⟨hb, .inr ⟨(right_iff b).1 h0, A, c, rfl, hu⟩⟩
theorem decode_at (lo : Nat) (v : Value) (l : List UInt8) (w : World) (h : ListOk Enc.byte w lo w.heap.size v l) (hl : l.length ≤ 1000000000) (hmv : MaxVar w) :
    Calls Tryz.prog 12 #[v] w fun e w' => ∃ u, e = .returned (.tuple #[.agg #[.string (unpackB l).tag, u], errV (unpackE l)]) ∧ w'.ownsRow w.heap.size 32 2 u (unpackB l).ents.length (flatE (unpackB l).ents) ∧ Below w.heap.size w w' :=
  (decode_any lo v l w h hl hmv).mono fun e w' hr => let ⟨hb, u, h1, h2⟩ := dec_uni hr; ⟨u, h1, h2, hb⟩
theorem box_in {w : World} {b : Bun} {A : Option Addr} {c : Nat} (h : BunIn w b (.slice A b.ents.length c)) : BunIn (w.alloc (.cells #[.string b.tag, .slice A b.ents.length c] 24)) b (.slice A b.ents.length c) := h.below ((Below.refl _ _).alloc (Nat.le_refl _) _)
theorem news_bytes {w : World} {lo hi n c : Nat} {A : Option Addr} {l : List UInt8} (h : ListOk Enc.byte w lo hi (.slice A n c) l) (hn : n = l.length) :
    n = 0 ∨ ∃ b o, A = some ⟨b, o, none⟩ ∧ ∀ j u, (bytesV l)[j]? = some u → w.cell? ⟨b, o + j, none⟩ = some u := by
  by_cases h0 : n = 0
  · exact .inl h0
  · obtain ⟨b, o, rfl, _⟩ := h.byteAt 0 (by omega)
    refine .inr ⟨b, o, rfl, fun j u hj => ?_⟩
    have hjl : j < l.length := by
      rcases Nat.lt_or_ge j l.length with h | h
      · exact h
      · rw [List.getElem?_eq_none (by rw [bytesV_length]; exact h)] at hj; cases hj
    obtain ⟨b', o', hA, _, _, x0⟩ := h.byteAt j hjl
    injection hA with hA
    injection hA with e1 e2
    subst e1; subst e2
    rw [x0, ← hj]
    simp [bytesV, hjl]
theorem bytesV_one (l : List UInt8) : ∀ u ∈ bytesV l, u.oneCell' = true := by
  intro u hu
  obtain ⟨x, _, rfl⟩ := List.mem_map.1 hu
  rfl
theorem xor_u8b (x y : UInt8) : bits .xor .u8 (x.toNat : Int) (y.toNat : Int) = ((x ^^^ y).toNat : Int) := by
  have h := low_xor (c := x.toNat) y
  have hx := x.toNat_lt
  rw [Nat.mod_eq_of_lt hx] at h
  have e : ((x.toNat : Int) % 256) = x.toNat := by omega
  rw [e] at h
  rw [h, UInt8.toNat_xor]
theorem set_byte {w : World} {lo hi b o n c : Nat} {l : List UInt8} (h : ListOk Enc.byte w lo hi (.slice (some ⟨b, o, none⟩) n c) l) (i : Nat) (hil : i < l.length) (x : UInt8) :
    ListOk Enc.byte (w.setCell ⟨b, o + i, none⟩ (.int .u8 x.toNat)) lo hi (.slice (some ⟨b, o, none⟩) n c) (l.set i x) := by
  obtain ⟨A', c', hv, hc, hi'⟩ := h
  injection hv with hv1 hv2 hv3
  subst hv1; subst hv3
  refine ⟨_, _, by rw [hv2, List.length_set], by rw [List.length_set]; exact hc, fun j hj => ?_⟩
  have hjl : j < l.length := by simpa using hj
  obtain ⟨b', o', cs, hA, g1, g2, g3, g4⟩ := hi' j hjl
  injection hA with hA
  injection hA with e1 e2
  subst e1; subst e2
  have g4' : cs = [.int .u8 l[j].toNat] := g4
  subst g4'
  have hold := g3 0 _ rfl
  have e : o + j * Enc.byte.sz + 0 = o + j := by show o + j * 1 + 0 = _; omega
  rw [e] at hold
  refine ⟨b, o, [.int .u8 (l.set i x)[j].toNat], rfl, g1, g2, fun q u hq => ?_, rfl⟩
  have hq0 : q = 0 := by
    rcases Nat.eq_zero_or_pos q with h | h
    · exact h
    · rw [List.getElem?_eq_none (by simp; omega)] at hq; cases hq
  subst hq0
  injection hq with hq
  rw [e, ← hq]
  by_cases hij : i = j
  · subst hij
    rw [List.getElem_set_self]
    exact World.cell?_setCell_same' _ _ _ (by rw [hold]; rfl)
  · rw [List.getElem_set_ne hij, World.cell?_setCell_other _ _ _ _ (by intro h; injection h with _ h _; omega)]
    exact hold
theorem bytesV_snoc (l : List UInt8) (x : UInt8) : bytesV (l ++ [x]) = bytesV l ++ [.int .u8 x.toNat] := by simp [bytesV]
theorem empty_own (w : World) (base : Nat) (h : base ≤ w.heap.size) : (w.alloc (.cells #[] 5)).ownsRow base 5 1 (.slice (some ⟨w.heap.size, 0, none⟩) 0 0) 0 [] :=
  ⟨rfl, .inr ⟨w.heap.size, 0, #[], rfl, h, heap_alloc_new w _, by omega, by unfold maxLen; omega, rfl, rfl⟩⟩
theorem one_new (x : UInt8) (W : World) (q : Nat) (u : Value) (hq : ([Value.int .u8 x.toNat] : List Value)[q]? = some u) : (W.alloc (.cells #[.int .u8 x.toNat] 5)).cell? ⟨W.heap.size, 0 + q, none⟩ = some u := by
  rw [Nat.zero_add, (Blk.new W 5 #[.int .u8 x.toNat]).cell q]; simpa using hq
theorem own_frozen {w : World} {base : Nat} {e : TypeId} {size n c b o : Nat} {xs : List Value} (h : w.ownsRow base e size (.slice (some ⟨b, o, none⟩) n c) n xs) : base ≤ b ∧ ∀ j, w.frozen? ⟨b, j, none⟩ = false := by
  obtain ⟨_, ⟨hv, _⟩ | ⟨g, cap, cur, hv, hb, hh, r⟩⟩ := h
  · cases hv
  · injection hv with hv
    injection hv with hv
    injection hv with e1 e2
    subst e1
    exact ⟨hb, fun j => by simp [World.frozen?, hh]⟩
end Go.Proofs.YtmpjfomfibkbnaaGreatDoor
