/- The walks of the reader: pieces, numbers, texts; where the bytes end it panics. -/
import Derived.Test.YtmpjfomfibkbnaaGreatDoorPackP
import Derived.Test.YtmpjfomfibkbnaaGreatDoorPackS
import Derived.Laws.IdiomStrings
import Derived.Lib.BufferRead
import Derived.Recover
set_option linter.unusedSimpArgs false
set_option linter.unusedVariables false
namespace Go.Proofs.YtmpjfomfibkbnaaGreatDoor
open Go.RowKit

theorem ListOk.mid {α : Type} {E : Enc α} {w : World} {lo hi n c b o : Nat} {l : List α} (h1 : E.sz = 1) (h : ListOk E w lo hi (.slice (some ⟨b, o, none⟩) n c) l) (k m : Nat) (hk : k + m ≤ l.length) :
    ListOk E w lo hi (.slice (some ⟨b, o + k, none⟩) m (c - k)) ((l.drop k).take m) := by
  obtain ⟨A', c', hv, hc, hi⟩ := h
  injection hv with hv1 hv2 hv3
  subst hv1; subst hv3
  have hl : ((l.drop k).take m).length = m := by simp; omega
  refine ⟨_, _, by rw [hl], by omega, fun i h => ?_⟩
  obtain ⟨b', o', cs, hA, g1, g2, g3, g4⟩ := hi (k + i) (by omega)
  injection hA with hA
  injection hA with hb ho
  subst hb; subst ho
  refine ⟨b, o + k, cs, rfl, g1, g2, ?_, by simpa using g4⟩
  rw [h1] at g3 ⊢
  have e : o + (k + i) * 1 = o + k + i * 1 := by omega
  rwa [e] at g3

/-- What a reader has left: bytes l, place a. -/
structure Rd (lo hi : Nat) (w : World) (p : Nat) (rv : Value) (l : List UInt8) (a : Nat) : Prop where
  lo_ : hi ≤ p
  le : a ≤ l.length
  at_ : Blk w p 64 #[rv, .int .i64 a] ∧ ListOk Enc.byte w lo hi rv l
theorem Rd.keep {rv : Value} {lo hi p a : Nat} {w W : World} {l : List UInt8} (h : Rd lo hi w p rv l a) (hb : Below w.heap.size w W) (hs : hi ≤ w.heap.size) : Rd lo hi W p rv l a :=
  ⟨h.lo_, h.le, let ⟨h1, h2⟩ := h.at_; ⟨h1.below hb h1.lt, h2.keep Enc.byte_laws (Alk.of_below (hb.mono hs))⟩⟩

theorem Fr.low {B p : Nat} {w w' : World} (h : Fr w w' (· = p)) (hB : B ≤ w.heap.size) (hp : B ≤ p) : Below B w w' := Fr.below (Below.refl B w) h hB fun i e => by have : i = p := e; omega
theorem Rd.moved {rv : Value} {lo hi p a : Nat} {w : World} {l : List UInt8} (h : Rd lo hi w p rv l a) (hs : hi ≤ w.heap.size) (n i j : Nat) (hn : a + n ≤ l.length) :
    Rd lo hi (((w.drewN i).setCell ⟨p, 1, none⟩ (.int .i64 ((a : Int) + n))).drewN j) p rv l (a + n) ∧ Fr w (((w.drewN i).setCell ⟨p, 1, none⟩ (.int .i64 ((a : Int) + n))).drewN j) (· = p) ∧ hi ≤ (((w.drewN i).setCell ⟨p, 1, none⟩ (.int .i64 ((a : Int) + n))).drewN j).heap.size := by
  obtain ⟨h1, h2⟩ := h.at_
  have hb : Below hi w (((w.drewN i).setCell ⟨p, 1, none⟩ (.int .i64 ((a : Int) + n))).drewN j) := below_drewN ((below_drewN (Below.refl _ _) _).setCell h.lo_ _) _
  have hbx : Blk (w.drewN i) p 64 #[rv, .int .i64 a] := h1.below (below_drewN (Below.refl _ _) _) h1.lt
  have hb2 := hbx.set_ 1 (.int .i64 ((a : Int) + n))
  refine ⟨⟨h.lo_, hn, ?_, h2.keep Enc.byte_laws (Alk.of_below hb)⟩, (((Fr.refl w (· = p)).drewN i).setCell (p := ⟨p, 1, none⟩) (.inl rfl) _).drewN j, Nat.le_trans hs hb.size⟩
  exact (hb2.below (below_drewN (Below.refl _ _) j) hb2.lt)

set_option maxHeartbeats 1600000 in
set_option maxRecDepth 100000 in
theorem piece_ok {rv : Value} (lo hi p a n : Nat) (l : List UInt8) (w : World) (h : Rd lo hi w p rv l a) (hs : hi ≤ w.heap.size) (hl : l.length ≤ 1000000000) (h1 : 1 ≤ l.length) (hn : a + n ≤ l.length) :
    Calls Tryz.prog 29 #[.pointer (some ⟨p, 0, none⟩), .int .i64 n] w fun e w' => (∃ v, e = .returned v ∧ ListOk Enc.byte w' lo hi v ((l.drop a).take n)) ∧ Rd lo hi w' p rv l (a + n) ∧ Fr w w' (· = p) ∧ hi ≤ w'.heap.size := by
  obtain ⟨hbox, hv⟩ := h.at_
  obtain ⟨A, c, rfl, hc⟩ := hv.form
  obtain ⟨b, o, rfl, _⟩ := hv.byteAt 0 (by omega)
  have HL := Lib.hid hv
  have HB := Lib.hid hbox
  have H := Lib.hid h
  have b0 : w.cell? ⟨p, 0, none⟩ = some (.slice (some ⟨b, o, none⟩) l.length c) := (hbox.cell 0).trans rfl
  have b1 : w.cell? ⟨p, 1, none⟩ = some (.int .i64 a) := (hbox.cell 1).trans rfl
  have f1 := hbox.frozen 1
  have hd : decide ((l.length : Int) - a < n) = false := decide_eq_false (by omega)
  clear hbox hv h
  go_enter Tryz.func29, Tryz.ntmps29
  go_wp2_with fail
  go_quiet (fail)
  go_wp2_with fail
  go_quiet (fail)
  go_wp2_with fail
  all_goals
    obtain ⟨g1, g2, g3⟩ := H.out.moved hs n _ _ hn
    go_ret
    refine ⟨⟨_, rfl, ?_⟩, ?_, g2, g3⟩
    rotate_left
    · first
        | exact g1
        | (have hca : c = a := by assumption
           rw [hca] at g1
           exact g1)
    have hv2 := HL.out.keep Enc.byte_laws (Alk.of_below (g2.low hs H.out.lo_))
    first
      | exact hv2.mid rfl a n hn
      | (obtain rfl : n = 0 := by omega
         exact ListOk.nil _ _)

def short : List PanicEntry := [{ v := .iface 42 (.int .i64 6), recovered := false }]
set_option maxHeartbeats 1600000 in
set_option maxRecDepth 100000 in
theorem piece_short {rv : Value} (lo hi p a n : Nat) (l : List UInt8) (w : World) (h : Rd lo hi w p rv l a) (hs : hi ≤ w.heap.size) (hl : l.length ≤ 1000000000) (hn : l.length < a + n) :
    Calls Tryz.prog 29 #[.pointer (some ⟨p, 0, none⟩), .int .i64 n] w fun e w' => e = .panicked short ∧ Below w.heap.size w w' := by
  obtain ⟨hbox, hv⟩ := h.at_
  obtain ⟨A, c, rfl, hc⟩ := hv.form
  have b0 : w.cell? ⟨p, 0, none⟩ = some (.slice A l.length c) := (hbox.cell 0).trans rfl
  have b1 : w.cell? ⟨p, 1, none⟩ = some (.int .i64 a) := (hbox.cell 1).trans rfl
  have hle := h.le
  have hd : decide ((l.length : Int) - a < n) = true := decide_eq_true (by omega)
  clear hbox hv h
  go_enter Tryz.func29, Tryz.ntmps29
  go_wp2_with fail
  go_quiet (fail)
  go_wp2_with fail
  exact ⟨rfl, rfl, below_drewN (Below.refl _ _) _⟩

/-- 'string(b)' of a list of bytes. -/
theorem conv_str {w : World} {lo hi n c : Nat} {A : Option Addr} {l : List UInt8} (h : ListOk Enc.byte w lo hi (.slice A n c) l) (hn : l.length = n) : (convert 26 9 (.slice A n c)).run Tryz.prog w = .ok (.string (str l)) w := by
  subst hn
  cases A with
  | none =>
    cases l with
    | nil => exact Lib.run_convert_nil_bytes (P := Tryz.prog) w 26 9 5 c Tryz.underlying26 Tryz.underlying5 Tryz.underlying9
    | cons x r => obtain ⟨b, o, hA, _⟩ := h.byteAt 0 (by simp); cases hA
  | some a =>
    refine run_convert_bytes_back (P := Tryz.prog) w 26 9 5 a c l Tryz.underlying26 Tryz.underlying5 Tryz.underlying9 fun j hj => ?_
    obtain ⟨b, o, hA, _, _, hc⟩ := h.byteAt j hj
    injection hA with hA
    subst hA
    unfold Addr.add
    simp only
    split
    · rename_i h0
      have h0' : j = 0 := by simpa using h0
      subst h0'; exact hc
    · exact hc

def numOf (l : List UInt8) : Nat := l.foldl (fun n x => 256 * n + x.toNat) 0
theorem numOf_snoc (l : List UInt8) (x : UInt8) : numOf (l ++ [x]) = 256 * numOf l + x.toNat := by unfold numOf; rw [List.foldl_append]; rfl
theorem numOf_lt : ∀ (k : Nat) (l : List UInt8), l.length = k → numOf l < 256 ^ k
  | 0, l, h => by rw [List.length_eq_zero_iff.1 h]; decide
  | k + 1, l, h => by
    obtain ⟨m, x, rfl⟩ : ∃ m x, l = m ++ [x] := ⟨l.dropLast, l.getLast (by intro e; subst e; simp at h), (List.dropLast_concat_getLast _).symm⟩
    rw [numOf_snoc]
    have := numOf_lt k m (by simpa using h)
    have hx := x.toNat_lt
    rw [Nat.pow_succ]; omega
theorem or_low (n : Nat) (x : UInt8) (hn : n < 4294967296) : bits .or .i64 (256 * (n : Int)) (x.toNat : Int) = ((256 * n + x.toNat : Nat) : Int) := by
  have wr : ∀ m : Int, 0 ≤ m → m < 2 ^ 62 → IntKind.i64.wrap m = m := fun m h0 h1 => by rw [IntKind.wrap_i64]; omega
  have e := bits_join .i64 62 (by decide) wr 8 (256 * (n : Int)) (x.toNat : Int) (by omega) (by omega) (by omega) (by omega) (by have := x.toNat_lt; omega) (by have := x.toNat_lt; omega)
  rw [e, Int.natCast_add, Int.natCast_mul]; rfl
set_option maxHeartbeats 1600000 in
set_option maxRecDepth 100000 in
theorem rnumber_ok {rv : Value} (lo hi p a size : Nat) (l : List UInt8) (w : World) (h : Rd lo hi w p rv l a) (hs : hi ≤ w.heap.size) (hl : l.length ≤ 1000000000) (h1 : 1 ≤ l.length) (hn : a + size ≤ l.length) (h4 : size ≤ 4) :
    Calls Tryz.prog 31 #[.pointer (some ⟨p, 0, none⟩), .int .i64 size] w fun e w' => e = .returned (.int .i64 (numOf ((l.drop a).take size) : Nat)) ∧ Rd lo hi w' p rv l (a + size) ∧ Fr w w' (· = p) ∧ hi ≤ w'.heap.size := by
  have HP := Lib.hid (piece_ok lo hi p a size l w h hs hl h1 hn)
  clear h
  go_enter Tryz.func31, Tryz.ntmps31
  go_wp2_with fail
  refine HP.out.mono ?_
  rintro e w1 ⟨⟨v, rfl, hv⟩, hr, hb, hs1⟩
  have hlen : ((l.drop a).take size).length = size := by simp; omega
  generalize hm : (l.drop a).take size = m at *
  have HM := Lib.hid hm
  clear hm
  obtain ⟨A, c, rfl, hc⟩ := hv.form
  have HV := Lib.hid hv
  have HR := Lib.hid hr
  have HB := Lib.hid hb
  clear HP hv hr hb hn
  go_wp2_with fail
  go_loop [5, 7, 12] (fun n _ i => ∃ j : Nat, j ≤ m.length ∧ i = .int .i64 j ∧ n = .int .i64 (numOf (m.take j) : Nat)) (fun _ _ i => m.length - (intOf i).toNat)
  case atStart => exact ⟨0, Nat.zero_le _, rfl, by rw [List.take_zero]; rfl⟩
  case round =>
    obtain ⟨j, hj, rfl, rfl⟩ := hrel
    by_cases hlt : j < m.length
    · obtain ⟨b, o, rfl, _, _, x0⟩ := HV.out.byteAt j hlt
      have HS : Hid (numOf (m.take (j + 1)) = 256 * numOf (m.take j) + m[j].toNat) := Lib.hid (by rw [List.take_succ_eq_append_getElem hlt, numOf_snoc])
      have hc := numOf_lt j (m.take j) (by rw [List.length_take]; omega)
      have hc2 : numOf (m.take j) < 4294967296 := Nat.lt_of_lt_of_le hc (Nat.le_trans (Nat.pow_le_pow_right (by decide) (show j ≤ 4 by omega)) (by decide))
      generalize numOf (m.take j) = n at *
      generalize m[j] = x at *
      have h2 := or_low n x hc2
      rw [Int.mul_comm] at h2
      have h3 : wrap64 (x.toNat : Int) = x.toNat := (by have := x.toNat_lt; unfold wrap64; omega)
      clear hc
      go_wp2_with fail
      exact ⟨⟨j + 1, by omega, by go_num, by rw [HS.out, Int.natCast_add, Int.natCast_mul]; rfl⟩, by simp [intOf]; omega⟩
    · obtain rfl : j = m.length := by omega
      rw [List.take_length] at *
      go_wp2_with fail
      go_ret
      exact ⟨by rw [HM.out]; rfl, HR.out, HB.out, hs1⟩

set_option maxHeartbeats 1600000 in
set_option maxRecDepth 100000 in
theorem rnumber_short {rv : Value} (lo hi p a size : Nat) (l : List UInt8) (w : World) (h : Rd lo hi w p rv l a) (hs : hi ≤ w.heap.size) (hl : l.length ≤ 1000000000) (hn : l.length < a + size) :
    Calls Tryz.prog 31 #[.pointer (some ⟨p, 0, none⟩), .int .i64 size] w fun e w' => e = .panicked short ∧ Below w.heap.size w w' := by
  have HP := Lib.hid (piece_short lo hi p a size l w h hs hl hn)
  clear h
  go_enter Tryz.func31, Tryz.ntmps31
  go_wp2_with fail
  refine HP.out.mono ?_
  rintro e w1 ⟨rfl, hb⟩
  exact ⟨rfl, rfl, hb⟩

set_option maxHeartbeats 1600000 in
set_option maxRecDepth 100000 in
theorem rtext_short1 {rv : Value} (lo hi p a size : Nat) (l : List UInt8) (w : World) (h : Rd lo hi w p rv l a) (hs : hi ≤ w.heap.size) (hl : l.length ≤ 1000000000) (hn : l.length < a + size) :
    Calls Tryz.prog 30 #[.pointer (some ⟨p, 0, none⟩), .int .i64 size] w fun e w' => e = .panicked short ∧ Below w.heap.size w w' := by
  have HP := Lib.hid (rnumber_short lo hi p a size l w h hs hl hn)
  clear h
  go_enter Tryz.func30, Tryz.ntmps30
  go_wp2_with fail
  refine HP.out.mono ?_
  rintro e w1 ⟨rfl, hb⟩
  exact ⟨rfl, rfl, hb⟩

set_option maxHeartbeats 1600000 in
set_option maxRecDepth 100000 in
theorem rtext_short2 {rv : Value} (lo hi p a size : Nat) (l : List UInt8) (w : World) (h : Rd lo hi w p rv l a) (hs : hi ≤ w.heap.size) (hl : l.length ≤ 1000000000) (h1 : 1 ≤ l.length) (hn : a + size ≤ l.length) (h4 : size ≤ 4) (hm : l.length < a + size + numOf ((l.drop a).take size)) :
    Calls Tryz.prog 30 #[.pointer (some ⟨p, 0, none⟩), .int .i64 size] w fun e w' => e = .panicked short ∧ Fr w w' (· = p) := by
  have HP := Lib.hid (rnumber_ok lo hi p a size l w h hs hl h1 hn h4)
  clear h
  go_enter Tryz.func30, Tryz.ntmps30
  go_wp2_with fail
  refine HP.out.mono ?_
  rintro e w1 ⟨rfl, hr, hb, hs1⟩
  have HP := Lib.hid (piece_short lo hi p (a + size) _ l w1 hr hs1 hl hm)
  go_wp2_with fail
  refine HP.out.mono ?_
  rintro e w2 ⟨rfl, hb2⟩
  exact ⟨rfl, rfl, hb.then_below hb2⟩

set_option maxHeartbeats 1600000 in
set_option maxRecDepth 100000 in
theorem rtext_ok {rv : Value} (lo hi p a size n : Nat) (l : List UInt8) (w : World) (h : Rd lo hi w p rv l a) (hs : hi ≤ w.heap.size) (hl : l.length ≤ 1000000000) (h1 : 1 ≤ l.length) (hn : a + size ≤ l.length) (h4 : size ≤ 4) (hnn : numOf ((l.drop a).take size) = n) (hm : a + size + n ≤ l.length) :
    Calls Tryz.prog 30 #[.pointer (some ⟨p, 0, none⟩), .int .i64 size] w fun e w' => e = .returned (.string (str ((l.drop (a + size)).take n))) ∧ Rd lo hi w' p rv l (a + size + n) ∧ Fr w w' (· = p) ∧ hi ≤ w'.heap.size := by
  have HP := Lib.hid (rnumber_ok lo hi p a size l w h hs hl h1 hn h4)
  rw [hnn] at HP
  clear h hnn
  go_enter Tryz.func30, Tryz.ntmps30
  go_wp2_with fail
  refine HP.out.mono ?_
  rintro e w1 ⟨rfl, hr, hb, hs1⟩
  have HP := Lib.hid (piece_ok lo hi p (a + size) n l w1 hr hs1 hl h1 hm)
  go_wp2_with fail
  refine HP.out.mono ?_
  rintro e w2 ⟨⟨v, rfl, hv⟩, hr2, hb2, hs2⟩
  have hlen : ((l.drop (a + size)).take n).length = n := by simp; omega
  generalize hm : (l.drop (a + size)).take n = m at *
  have HM := Lib.hid hm
  clear hm
  obtain ⟨A, c, rfl, hc⟩ := hv.form
  have HV := Lib.hid hv
  have HB := Lib.hid (hb.trans hb2)
  have HR := Lib.hid hr2
  have hcv := conv_str hv rfl
  rw [hlen] at hcv
  clear HP hv hb hb2 hr hr2
  go_wp2_with fail
  go_ret
  exact ⟨by rw [HM.out]; rfl, HR.out, HB.out, hs2⟩
end Go.Proofs.YtmpjfomfibkbnaaGreatDoor
/- The closure of pack.Decode: what it does with a panic, and with none. -/

namespace Go.Proofs.YtmpjfomfibkbnaaGreatDoor
open Go.RowKit

theorem assert_errno (v : Value) (w : World) : (Instr.typeAssert (.iface 42 v) 20 42 true).run Tryz.prog w = .ok (.tuple #[v, .bool true]) w := by
  simp [Instr.typeAssert, run_underlying Tryz.underlying42]
theorem set3 {B po pe : Nat} (h0 : B ≤ po) (h1 : B ≤ pe) (w : World) (a b c : Value) : Below B w (((w.setCell ⟨po, 0, none⟩ a).setCell ⟨po, 1, none⟩ b).setCell ⟨pe, 0, none⟩ c) := by
  have g1 : Below B w (w.setCell ⟨po, 0, none⟩ a) := (Below.refl B w).setCell h0 a
  have g2 : Below B w ((w.setCell ⟨po, 0, none⟩ a).setCell ⟨po, 1, none⟩ b) := g1.setCell h0 b
  exact g2.setCell h1 c
theorem rep17 : (Array.replicate 17 undef : Array Value) = #[undef, undef, undef, undef, undef, undef, undef, undef, undef, undef, undef, undef, undef, undef, undef, undef, undef] := rfl
set_option maxHeartbeats 1600000 in
set_option maxRecDepth 100000 in
theorem dec_idle (po pe : Addr) (w : World) : CallsD Tryz.prog 28 #[.pointer (some po), .pointer (some pe)] .returning w fun e u' w' => e = .returned (.tuple #[]) ∧ u' = .returning ∧ w' = w := by
  refine callsD_of_wpS Tryz.func28 rfl fun c₀ cs hu => ?_
  apply wpS_seq
  apply wpS_region
  simp [wpOpsS, go_sem, recoverD, hu, Tryz.ntmps28, Exit.thenS]
  rw [rep17]
  simp only [List.setIfInBounds_toArray, List.set_cons_zero, List.set_cons_succ, List.append_toArray, List.cons_append, List.nil_append]
  refine wpS_of_wp ?_
  go_wp2_with fail
  cases c₀
  simp_all [bodyPostS, results, Tryz.results28]

set_option maxHeartbeats 1600000 in
set_option maxRecDepth 100000 in
theorem dec_caught (B po pe : Nat) (hB0 : B ≤ po) (hB1 : B ≤ pe) (x : Int) (s : ByteArray) (v z : Value) (older : List PanicEntry) (w : World) (ho : Blk w po 24 #[.string s, v]) (he : Blk w pe 28 #[z]) :
    CallsD Tryz.prog 28 #[.pointer (some ⟨po, 0, none⟩), .pointer (some ⟨pe, 0, none⟩)] (.panicking ({ v := .iface 42 (.int .i64 x), recovered := false } :: older)) w fun e u' w' =>
      e = .returned (.tuple #[]) ∧ u' = .panicking ({ v := .iface 42 (.int .i64 x), recovered := true } :: older) ∧ Below B w w' ∧ w'.heap.size = w.heap.size ∧ Blk w' po 24 #[.string ⟨#[]⟩, .slice none 0 0] ∧ Blk w' pe 28 #[.iface 42 (.int .i64 x)] := by
  refine callsD_of_wpS Tryz.func28 rfl fun c₀ cs hu => ?_
  apply wpS_seq
  apply wpS_region
  simp [wpOpsS, go_sem, recoverD, hu, Tryz.ntmps28, Exit.thenS]
  rw [rep17]
  simp only [List.setIfInBounds_toArray, List.set_cons_zero, List.set_cons_succ, List.append_toArray, List.cons_append, List.nil_append]
  have o0 := ho.cell 0
  have o1 := ho.cell 1
  have o2 := he.cell 0
  have f0 := ho.frozen 0
  have f1 := ho.frozen 1
  have f2 := he.frozen 0
  simp at o0 o1 o2
  have ha := assert_errno (.int .i64 x)
  have hne : ¬ pe = po := by
    rintro rfl
    unfold Blk at ho he
    rw [ho] at he; injection he with he; injection he with _ he
    exact absurd he (by decide)
  have hne' : ¬ po = pe := fun h => hne h.symm
  have HO := Lib.hid ho
  have HE := Lib.hid he
  clear ho he
  refine wpS_of_wp ?_
  go_wp2_with fail
  have HS : Hid (Below B w (((w.setCell ⟨po, 0, none⟩ (.string ⟨#[]⟩)).setCell ⟨po, 1, none⟩ (.slice none 0 0)).setCell ⟨pe, 0, none⟩ (.iface 42 (.int .i64 x)))) := Lib.hid (set3 hB0 hB1 w _ _ _)
  have h1 := ((HO.out.set_ 0 (.string ⟨#[]⟩)).set_ 1 (.slice none 0 0)).far (p := ⟨pe, 0, none⟩) hne' (.iface 42 (.int .i64 x))
  have h2 := ((HE.out.far (p := ⟨po, 0, none⟩) hne (.string ⟨#[]⟩)).far (p := ⟨po, 1, none⟩) hne (.slice none 0 0)).set_ 0 (.iface 42 (.int .i64 x))
  have h3 : Below B w (((w.setCell ⟨po, 0, none⟩ (.string ⟨#[]⟩)).setCell ⟨po, 1, none⟩ (.slice none 0 0)).setCell ⟨pe, 0, none⟩ (.iface 42 (.int .i64 x))) :=
    HS.out
  refine ⟨rfl, _, rfl, .tuple #[], by simp [results, Tryz.results28], rfl, rfl, h3, ?_, h1, h2⟩
  simp
end Go.Proofs.YtmpjfomfibkbnaaGreatDoor
/- pack.Decode: under way. -/

namespace Go.Proofs.YtmpjfomfibkbnaaGreatDoor
open Go.RowKit

def decD (B : Nat) : List Deferred := [{ target := .fn (.func 28) #[.pointer (some ⟨B, 0, none⟩), .pointer (some ⟨B + 1, 0, none⟩)], args := #[] }]
/-- Decode leaves by a panic of its own: the error is told, the bundle is empty. -/
theorem dec_thrown (B : Nat) (x : Int) (tmps : Array Value) (R : Ending → World → Prop) (s : ByteArray) (v z : Value) (w : World) (h2 : tmps.getD 2 undef = .pointer (some ⟨B, 0, none⟩)) (h3 : tmps.getD 3 undef = .pointer (some ⟨B + 1, 0, none⟩))
    (k0 : Blk w B 24 #[.string s, v]) (k1 : Blk w (B + 1) 28 #[z]) (hR : ∀ W, Below B w W → R (.returned (.tuple #[.agg #[.string ⟨#[]⟩, .slice none 0 0], .iface 42 (.int .i64 x)])) W) :
    Leaves Tryz.prog Tryz.f12 tmps R (decD B) (.panicking [{ v := .iface 42 (.int .i64 x), recovered := false }]) w := by
  refine leaves_cons (f := 28) (args := #[.pointer (some ⟨B, 0, none⟩), .pointer (some ⟨B + 1, 0, none⟩)]) (by simp) (by simp [go_sem]) ?_
  refine (dec_caught B B (B + 1) (Nat.le_refl _) (by omega) x s v z [] w k0 k1).mono ?_
  rintro e u' w2 ⟨rfl, rfl, hb2, _, q0, q1⟩
  have c0 := q0.cell 0
  have c1 := q0.cell 1
  have c2 := q1.cell 0
  simp at c0 c1 c2
  have HR := Lib.hid (hR w2 hb2)
  clear hR
  simp at h2 h3
  simp [Leaves, settle, results, Tryz.results12, go_sem, h2, h3, c0, c1, c2]
  exact HR.out
/-- Decode leaves with what it has read. -/
theorem dec_told (B : Nat) (tmps : Array Value) (R : Ending → World → Prop) (s : ByteArray) (v z : Value) (w : World) (h2 : tmps.getD 2 undef = .pointer (some ⟨B, 0, none⟩)) (h3 : tmps.getD 3 undef = .pointer (some ⟨B + 1, 0, none⟩))
    (k0 : Blk w B 24 #[.string s, v]) (k1 : Blk w (B + 1) 28 #[z]) (hR : R (.returned (.tuple #[.agg #[.string s, v], z])) w) :
    Leaves Tryz.prog Tryz.f12 tmps R (decD B) .returning w := by
  refine leaves_cons (f := 28) (args := #[.pointer (some ⟨B, 0, none⟩), .pointer (some ⟨B + 1, 0, none⟩)]) (by simp) (by simp [go_sem]) ?_
  refine (dec_idle _ _ w).mono ?_
  rintro e u' w2 ⟨rfl, rfl, rfl⟩
  have c0 := k0.cell 0
  have c1 := k0.cell 1
  have c2 := k1.cell 0
  simp at c0 c1 c2
  have HR := Lib.hid hR
  clear hR
  simp at h2 h3
  simp [Leaves, settle, results, Tryz.results12, go_sem, h2, h3, c0, c1, c2]
  exact HR.out

set_option maxHeartbeats 1600000 in
set_option maxRecDepth 100000 in
theorem dec_short0 (lo : Nat) (v : Value) (l : List UInt8) (w : World) (h : ListOk Enc.byte w lo w.heap.size v l) (hl : l.length ≤ 1000000000) (hn : l.length < 4) :
    Calls Tryz.prog 12 #[v] w fun e w' => e = .returned (.tuple #[.agg #[.string ⟨#[]⟩, .slice none 0 0], .iface 42 (.int .i64 6)]) ∧ Below w.heap.size w w' := by
  have hmf : ∀ (fn : Fn) (first cap : Array Value) (w : World), (Instr.makeFunc fn first cap).run Tryz.prog w = .ok (.func fn first cap) w := fun _ _ _ _ => rfl
  obtain ⟨A, c, rfl, hc⟩ := h.form
  have H := Lib.hid h
  clear h
  go_enter_defers Tryz.func12, Tryz.ntmps12
  go_wp2_with fail
  obtain ⟨W, eW⟩ : ∃ W, W = ((w.alloc (.cells #[.string ⟨#[]⟩, .slice none 0 0] 24)).alloc (.cells #[.nilIface] 28)).alloc (.cells #[.slice A l.length c, .int .i64 0] 64) := ⟨_, rfl⟩
  have hb : Below w.heap.size w W := by rw [eW]; exact (((Below.refl _ _).alloc (Nat.le_refl _) _).alloc (by simp) _).alloc (by simp; omega) _
  have k2 : Blk W (w.heap.size + 1 + 1) 64 #[.slice A l.length c, .int .i64 0] := by
    rw [eW]; have := Blk.new ((w.alloc (.cells #[.string ⟨#[]⟩, .slice none 0 0] 24)).alloc (.cells #[.nilIface] 28)) 64 #[.slice A l.length c, .int .i64 0]
    simpa using this
  have k0 : Blk W w.heap.size 24 #[.string ⟨#[]⟩, .slice none 0 0] := by
    rw [eW]; exact ((Blk.new w 24 #[.string ⟨#[]⟩, .slice none 0 0]).alloc _).alloc _
  have k1 : Blk W (w.heap.size + 1) 28 #[.nilIface] := by
    rw [eW]
    have := (Blk.new (w.alloc (.cells #[.string ⟨#[]⟩, .slice none 0 0] 24)) 28 #[.nilIface]).alloc (.cells #[.slice A l.length c, .int .i64 0] 64)
    simpa using this
  have hr : Rd lo w.heap.size W (w.heap.size + 1 + 1) (.slice A l.length c) l 0 := ⟨by omega, Nat.zero_le _, k2, H.out.below Enc.byte_laws hb⟩
  have hp := piece_short lo w.heap.size (w.heap.size + 1 + 1) 0 4 l W hr hb.size hl (by omega)
  rw [← eW]
  refine hp.mono ?_
  rintro e w1 ⟨rfl, hb1⟩
  have HBB := Lib.hid (hb.trans (hb1.mono hb.size))
  exact dec_thrown w.heap.size 6 _ _ ByteArray.empty (.slice none 0 0) .nilIface w1 rfl rfl (k0.below hb1 k0.lt) (k1.below hb1 k1.lt) fun W2 h2 => ⟨rfl, HBB.out.trans h2⟩

theorem leaves_congr {P : Program} {fn : Func} {tmps tmps' : Array Value} {R : Ending → World → Prop} (hres : ∀ w, (results fn tmps').run P w = (results fn tmps).run P w) : ∀ (ds : List Deferred) (u : FrameMode) (w : World), Leaves P fn tmps R ds u w → Leaves P fn tmps' R ds u w
  | [], .returning, w, h => by
    obtain ⟨v, h1, h2⟩ := h
    exact ⟨v, (hres w).trans h1, h2⟩
  | [], .panicking _, _, h => h
  | [], .run, _, h => h
  | d :: ds, u, w, h => by
    obtain ⟨hu, fv, cap, f, args, h1, h2, h3⟩ := h
    refine ⟨hu, fv, cap, f, args, h1, h2, h3.mono ?_⟩
    rintro e u' w' he
    cases e with
    | returned v => exact leaves_congr hres ds _ w' he
    | panicked c => exact leaves_congr hres ds _ w' he
    | outgrown => exact he
/-- A slot that is no result's says nothing of the way out. -/
theorem dec_slot {R : Ending → World → Prop} {c : List PanicEntry} {a : Act} {w : World} (d : Nat) (v : Value) (h2 : d ≠ 2) (h3 : d ≠ 3) (h : bodyPostD Tryz.prog Tryz.f12 R (.panic c) (a.put (some d) v) w) : bodyPostD Tryz.prog Tryz.f12 R (.panic c) a w := by
  refine leaves_congr (tmps := (a.put (some d) v).tmps) (fun W => ?_) _ _ _ h
  simp [results, Tryz.results12, Act.put, Array.getElem?_setIfInBounds, Array.getD_eq_getD_getElem?, h2, h3]
theorem str_toList (m : List UInt8) : (str m).toList = m := by
  rw [← bts_str m]; simp [bts, str]
/-- Decode's frame, its reader made. -/
theorem dec_frame (lo : Nat) (A : Option Addr) (c : Nat) (l : List UInt8) (w W : World) (h : ListOk Enc.byte w lo w.heap.size (.slice A l.length c) l)
    (eW : W = ((w.alloc (.cells #[.string ⟨#[]⟩, .slice none 0 0] 24)).alloc (.cells #[.nilIface] 28)).alloc (.cells #[.slice A l.length c, .int .i64 0] 64)) :
    Below w.heap.size w W ∧ Blk W w.heap.size 24 #[.string ⟨#[]⟩, .slice none 0 0] ∧ Blk W (w.heap.size + 1) 28 #[.nilIface] ∧ Rd lo (w.heap.size + 1 + 1) W (w.heap.size + 1 + 1) (.slice A l.length c) l 0 ∧ w.heap.size + 1 + 1 ≤ W.heap.size := by
  have hb : Below w.heap.size w W := by rw [eW]; exact (((Below.refl _ _).alloc (Nat.le_refl _) _).alloc (by simp) _).alloc (by simp; omega) _
  have k2 : Blk W (w.heap.size + 1 + 1) 64 #[.slice A l.length c, .int .i64 0] := by
    rw [eW]; have := Blk.new ((w.alloc (.cells #[.string ⟨#[]⟩, .slice none 0 0] 24)).alloc (.cells #[.nilIface] 28)) 64 #[.slice A l.length c, .int .i64 0]
    simpa using this
  have k0 : Blk W w.heap.size 24 #[.string ⟨#[]⟩, .slice none 0 0] := by
    rw [eW]; exact ((Blk.new w 24 #[.string ⟨#[]⟩, .slice none 0 0]).alloc _).alloc _
  have k1 : Blk W (w.heap.size + 1) 28 #[.nilIface] := by
    rw [eW]
    have := (Blk.new (w.alloc (.cells #[.string ⟨#[]⟩, .slice none 0 0] 24)) 28 #[.nilIface]).alloc (.cells #[.slice A l.length c, .int .i64 0] 64)
    simpa using this
  exact ⟨hb, k0, k1, ⟨Nat.le_refl _, Nat.zero_le _, k2, (h.below Enc.byte_laws hb).mono Enc.byte_laws (Nat.le_refl _) (by omega)⟩, Nat.le_of_lt k2.lt⟩

set_option maxHeartbeats 1600000 in
set_option maxRecDepth 100000 in
theorem dec_form0 (lo : Nat) (v : Value) (l : List UInt8) (w : World) (h : ListOk Enc.byte w lo w.heap.size v l) (hl : l.length ≤ 1000000000) (hn : 4 ≤ l.length) (hm : ¬ l.take 4 = magicB) :
    Calls Tryz.prog 12 #[v] w fun e w' => e = .returned (.tuple #[.agg #[.string ⟨#[]⟩, .slice none 0 0], .iface 42 (.int .i64 3)]) ∧ Below w.heap.size w w' := by
  have hmf : ∀ (fn : Fn) (first cap : Array Value) (w : World), (Instr.makeFunc fn first cap).run Tryz.prog w = .ok (.func fn first cap) w := fun _ _ _ _ => rfl
  obtain ⟨A, c, rfl, hc⟩ := h.form
  have H := Lib.hid h
  clear h
  go_enter_defers Tryz.func12, Tryz.ntmps12
  go_wp2_with fail
  obtain ⟨W, eW⟩ : ∃ W, W = ((w.alloc (.cells #[.string ⟨#[]⟩, .slice none 0 0] 24)).alloc (.cells #[.nilIface] 28)).alloc (.cells #[.slice A l.length c, .int .i64 0] 64) := ⟨_, rfl⟩
  obtain ⟨hb, k0, k1, hr, hsz⟩ := dec_frame lo A c l w W H.out eW
  have hp := piece_ok lo (w.heap.size + 1 + 1) (w.heap.size + 1 + 1) 0 4 l W hr hsz hl (by omega) (by omega)
  rw [← eW]
  have K0 := Lib.hid k0
  have K1 := Lib.hid k1
  have HB := Lib.hid hb
  clear eW hb k0 k1 hr
  refine hp.mono ?_
  clear hp
  rintro e w1 ⟨⟨v, rfl, hv⟩, hr1, hb1, hs1⟩
  replace hb1 := hb1.low hsz (Nat.le_refl _)
  rw [List.drop_zero] at hv
  have hlen : (l.take 4).length = 4 := by simp; omega
  generalize l.take 4 = m at *
  obtain ⟨A1, c1, rfl, _⟩ := hv.form
  rw [hlen] at hv ⊢
  have hcv := conv_str hv hlen
  have hd : ((str m).toList == [76, 71, 66, 49]) = false := by
    rw [str_toList, beq_eq_false_iff_ne]; exact hm
  have HR1 := Lib.hid hr1
  have HB1 := Lib.hid hb1
  clear hv hr1 hb1
  go_wp2_with fail
  refine dec_thrown w.heap.size 3 _ _ ByteArray.empty (.slice none 0 0) .nilIface w1 rfl rfl (K0.out.below HB1.out (by omega)) (K1.out.below HB1.out (by omega)) fun W2 h2 => ⟨rfl, (HB.out.trans (HB1.out.mono (by omega))).trans h2⟩
end Go.Proofs.YtmpjfomfibkbnaaGreatDoor
