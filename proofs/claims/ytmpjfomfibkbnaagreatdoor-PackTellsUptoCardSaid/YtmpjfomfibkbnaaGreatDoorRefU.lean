/- The reference's bytes of a bundle: linguisterref2.two, piece. -/
import Derived.Test.YtmpjfomfibkbnaaGreatDoorPackB
import Derived.Test.YtmpjfomfibkbnaaGreatDoorQSort
import Derived.Test.YtmpjfomfibkbnaaGreatDoorRefG
import Derived.Lib.ConvBytes
import Derived.Test.YtmpjfomfibkbnaaGreatDoorBoxRow
set_option linter.unusedSimpArgs false
set_option linter.unusedVariables false
namespace Go.Proofs.YtmpjfomfibkbnaaGreatDoor
open Go.RowKit

theorem two_any (n : Nat) (w : World) (hn : n < 65536) :
    Calls Tryz.prog 36 #[.int .i64 n] w fun e w' => e = .returned (.slice (some ⟨w.heap.size, 0, none⟩) 2 2) ∧ w' = w.alloc (.cells (bytesV (be2 n)).toArray 5) := by
  have e0 : ((b1 (n / 256)).toNat : Int) = (n : Int) / 256 := by rw [b1_toNat]; omega
  have e1 : ((b1 n).toNat : Int) = (n : Int) % 256 := by rw [b1_toNat]; omega
  have hv : (bytesV (be2 n)).toArray = #[.int .u8 ((n : Int) / 256), .int .u8 ((n : Int) % 256)] := by
    unfold bytesV be2
    simp only [List.map_cons, List.map_nil, e0, e1]
  rw [hv]
  have h1 : (n : Int) < 65536 := by omega
  have h2 : (0 : Int) ≤ (n : Int) := by omega
  clear hv e0 e1
  go_enter Tryz.func36, Tryz.ntmps36
  go_wp2_with fail
  go_ret
  exact ⟨rfl, rfl⟩

/-- What the reference's piece tells: a text and the place behind it; or the place is -1. -/
def pcR (l : List UInt8) (r : Option (ByteArray × List UInt8)) : ByteArray × Int := match r with
  | some (s, q) => (s, (l.length : Int) - q.length)
  | none => (ByteArray.empty, -1)
theorem pcR_at {l : List UInt8} {s : ByteArray} {k : Nat} (h : k ≤ l.length) : pcR l (some (s, l.drop k)) = (s, (k : Int)) := by
  unfold pcR
  simp only [List.length_drop]
  congr 1; omega
theorem piece_neg (v : Value) (l : List UInt8) (size lo : Nat) (w : World) (hv : ListOk Enc.byte w lo w.heap.size v l) :
    Calls Tryz.prog 38 #[v, .int .i64 (-1), .int .i64 size] w fun e w' => e = .returned (.tuple #[.string ByteArray.empty, .int .i64 (-1)]) ∧ w = w' := by
  obtain ⟨A, c, rfl, _⟩ := hv.form
  clear hv
  go_enter Tryz.func38, Tryz.ntmps38
  go_wp2_with fail
  go_ret2
  exact ⟨rfl, rfl⟩
set_option maxHeartbeats 1600000 in
set_option maxRecDepth 100000 in
theorem piece1_any (v : Value) (l : List UInt8) (a lo : Nat) (w : World) (hv : ListOk Enc.byte w lo w.heap.size v l) (hl : l.length ≤ 1000000000) (ha : a ≤ l.length) :
    Calls Tryz.prog 38 #[v, .int .i64 a, .int .i64 1] w fun e w' => e = .returned (.tuple #[.string (pcR l (rd1 (l.drop a))).1, .int .i64 (pcR l (rd1 (l.drop a))).2]) ∧ w = w' := by
  obtain ⟨A, c, rfl, hc⟩ := hv.form
  have hneg : ¬ ((a : Int) < 0) := by omega
  by_cases t1 : a + 1 ≤ l.length
  · have hd1 : decide ((l.length : Int) - a < 1) = false := decide_eq_false (by omega)
    obtain ⟨b, o, rfl, _, _, x0⟩ := hv.byteAt a (by omega)
    have hn : numOf ((l.drop a).take 1) = l[a].toNat := by
      rw [List.drop_eq_getElem_cons (show a < l.length by omega), List.take_succ_cons, List.take_zero]; exact numOf_one _
    have hai : (a : Int) < (l.length : Int) := by omega
    by_cases t2 : a + 1 + l[a].toNat ≤ l.length
    · have hR := rd1_ok t1 hn t2
      rw [hR, pcR_at t2]
      have hd2 : decide ((l.length : Int) - a - 1 < l[a].toNat) = false := decide_eq_false (by omega)
      have hmid := hv.mid rfl (a + 1) l[a].toNat t2
      have hcv := conv_str hmid (by simp; omega)
      generalize hS : str ((l.drop (a + 1)).take l[a].toNat) = S at *
      have hx : l[a].toNat < 256 := l[a].toNat_lt
      have hcz : c = a + 1 → l[a].toNat = 0 := fun e => by omega
      by_cases hca : c = a + 1
      · have hn0 := hcz hca
        rw [hn0] at hS x0 t2 hd2 hn hx ⊢
        have hS0 : S = str [] := by rw [← hS, List.take_zero]
        have hcv0 := conv_str (w := w) (lo := 0) (hi := 0) (A := some ⟨b, o, none⟩) (n := 0) (c := 0) (l := []) ⟨_, _, rfl, Nat.le_refl _, fun i h => absurd h (by simp)⟩ rfl
        rw [← hS0] at hcv0
        subst hca
        clear hR hmid hS hv hn hn0 hcz hcv hS0
        go_enter Tryz.func38, Tryz.ntmps38
        go_wp2_with fail
        go_ret2
        exact ⟨by simp, rfl⟩
      · generalize l[a].toNat = n at *
        clear hR hmid hS hv hn hcz
        go_enter Tryz.func38, Tryz.ntmps38
        go_wp2_with fail
        go_ret2
        exact ⟨by simp, rfl⟩
    · have hR := rd1_no2 t1 hn t2
      rw [hR]
      have hd2 : decide ((l.length : Int) - a - 1 < l[a].toNat) = true := decide_eq_true (by omega)
      have hx : l[a].toNat < 256 := l[a].toNat_lt
      generalize l[a].toNat = n at *
      clear hR hv hn
      go_enter Tryz.func38, Tryz.ntmps38
      go_wp2_with fail
      go_ret2
      exact ⟨rfl, rfl⟩
  · have hd1 : decide ((l.length : Int) - a < 1) = true := decide_eq_true (by omega)
    rw [rd1_no1 t1]
    clear hv
    go_enter Tryz.func38, Tryz.ntmps38
    go_wp2_with fail
    go_ret2
    exact ⟨rfl, rfl⟩
set_option maxHeartbeats 1600000 in
set_option maxRecDepth 100000 in
theorem piece2_any (v : Value) (l : List UInt8) (a lo : Nat) (w : World) (hv : ListOk Enc.byte w lo w.heap.size v l) (hl : l.length ≤ 1000000000) (ha : a ≤ l.length) :
    Calls Tryz.prog 38 #[v, .int .i64 a, .int .i64 2] w fun e w' => e = .returned (.tuple #[.string (pcR l (rd2 (l.drop a))).1, .int .i64 (pcR l (rd2 (l.drop a))).2]) ∧ w = w' := by
  obtain ⟨A, c, rfl, hc⟩ := hv.form
  have hneg : ¬ ((a : Int) < 0) := by omega
  by_cases t1 : a + 2 ≤ l.length
  · have hd1 : decide ((l.length : Int) - a < 2) = false := decide_eq_false (by omega)
    obtain ⟨b, o, rfl, _, _, x0⟩ := hv.byteAt a (by omega)
    obtain ⟨b', o', hA', _, _, x1⟩ := hv.byteAt (a + 1) (by omega)
    injection hA' with hA'
    injection hA' with e1 e2
    subst e1; subst e2
    have hn : numOf ((l.drop a).take 2) = 256 * l[a].toNat + l[a + 1].toNat := by
      rw [List.drop_eq_getElem_cons (show a < l.length by omega), List.drop_eq_getElem_cons (show a + 1 < l.length by omega), List.take_succ_cons, List.take_succ_cons, List.take_zero]; exact numOf_two _ _
    have hai : (a : Int) < (l.length : Int) := by omega
    have hai1 : (a : Int) + 1 < (l.length : Int) := by omega
    have hx : l[a].toNat < 256 := l[a].toNat_lt
    have hy : l[a + 1].toNat < 256 := l[a + 1].toNat_lt
    by_cases t2 : a + 2 + (256 * l[a].toNat + l[a + 1].toNat) ≤ l.length
    · have hR := rd2_ok t1 hn t2
      rw [hR, pcR_at t2]
      have hd2 : decide ((l.length : Int) - a - 2 < 256 * l[a].toNat + l[a + 1].toNat) = false := decide_eq_false (by omega)
      have hmid := hv.mid rfl (a + 2) (256 * l[a].toNat + l[a + 1].toNat) t2
      have hcv := conv_str hmid (by simp; omega)
      generalize hS : str ((l.drop (a + 2)).take (256 * l[a].toNat + l[a + 1].toNat)) = S at *
      have hcz : c = a + 2 → 256 * l[a].toNat + l[a + 1].toNat = 0 := fun e => by omega
      by_cases hca : c = a + 2
      · have hn0 := hcz hca
        have hx0 : l[a].toNat = 0 := by omega
        have hy0 : l[a + 1].toNat = 0 := by omega
        rw [hn0] at hS t2 hn ⊢
        rw [hx0] at x0 hd2
        rw [hy0] at x1 hd2
        have hS0 : S = str [] := by rw [← hS, List.take_zero]
        have hcv0 := conv_str (w := w) (lo := 0) (hi := 0) (A := some ⟨b, o, none⟩) (n := 0) (c := 0) (l := []) ⟨_, _, rfl, Nat.le_refl _, fun i h => absurd h (by simp)⟩ rfl
        rw [← hS0] at hcv0
        subst hca
        clear hR hmid hS hv hn hn0 hcz hcv hS0 hx hy hx0 hy0
        go_enter Tryz.func38, Tryz.ntmps38
        go_wp2_with fail
        go_ret2
        exact ⟨by simp, rfl⟩
      · generalize l[a].toNat = n at *
        generalize l[a + 1].toNat = m at *
        have hmi : (256 * (n : Int) + m) = ((256 * n + m : Nat) : Int) := by omega
        rw [hmi] at hd2
        generalize hN : 256 * n + m = N at *
        have HN := Lib.hid hN
        have hNi : ((N : Nat) : Int) < 65536 := by omega
        clear hR hmid hS hv hn hcz hN
        go_enter Tryz.func38, Tryz.ntmps38
        go_wp2_with fail
        go_ret2
        exact ⟨by simp, rfl⟩
    · have hR := rd2_no2 t1 hn t2
      rw [hR]
      have hd2 : decide ((l.length : Int) - a - 2 < 256 * l[a].toNat + l[a + 1].toNat) = true := decide_eq_true (by omega)
      generalize l[a].toNat = n at *
      generalize l[a + 1].toNat = m at *
      clear hR hv hn
      go_enter Tryz.func38, Tryz.ntmps38
      go_wp2_with fail
      go_ret2
      exact ⟨rfl, rfl⟩
  · have hd1 : decide ((l.length : Int) - a < 2) = true := decide_eq_true (by omega)
    rw [rd2_no1 t1]
    clear hv
    go_enter Tryz.func38, Tryz.ntmps38
    go_wp2_with fail
    go_ret2
    exact ⟨rfl, rfl⟩
end Go.Proofs.YtmpjfomfibkbnaaGreatDoor
/- The reference's bytes of a bundle: linguisterref2.BytesOf. -/

namespace Go.Proofs.YtmpjfomfibkbnaaGreatDoor
open Go.RowKit

theorem bytesWorld_below (w : World) (e : TypeId) (s : ByteArray) : Below w.heap.size w (Lib.bytesWorld w e s) := by
  refine ⟨?_, ?_, ?_, by rw [Lib.bytesWorld_size]; omega, fun k hk => Lib.bytesWorld_at_old w e s k hk⟩
  all_goals
    unfold Lib.bytesWorld World.freeze
    split <;> rfl
theorem bytesWorld_cells (w : World) (s : ByteArray) : ∀ j u, (bytesV (bts s))[j]? = some u → (Lib.bytesWorld w 5 s).cell? ⟨w.heap.size, 0 + j, none⟩ = some u := by
  intro j u hj
  have hjl : j < s.size := by
    rcases Nat.lt_or_ge j s.size with h | h
    · exact h
    · rw [List.getElem?_eq_none (by rw [bytesV_length, bts_len]; exact h)] at hj; cases hj
  rw [Nat.zero_add, Lib.bytesWorld_cell w _ s j hjl, ← hj]
  have hjb : j < (bts s).length := by rw [bts_len]; exact hjl
  have e1 : s.data.toList.getD j 0 = (bts s)[j] := by
    show (bts s).getD j 0 = _
    rw [List.getD_eq_getElem?_getD, List.getElem?_eq_getElem hjb]; rfl
  rw [e1]
  unfold bytesV
  rw [List.getElem?_map, List.getElem?_eq_getElem hjb]
  rfl
/-- What BytesOf has made so far: the bytes P; the sorted entries S. -/
structure BSt (w wr : World) (v : Value) (P : List UInt8) (ls : Value) (S : List Ent) : Prop where
  out : wr.ownsRow w.heap.size 5 1 v P.length (bytesV P)
  row : wr.ownsRow w.heap.size 32 2 ls S.length (flatE S)
  below : Below w.heap.size w wr
theorem BSt.keep {w wr W : World} {v ls : Value} {P : List UInt8} {S : List Ent} (h : BSt w wr v P ls S) (hb : Below wr.heap.size wr W) : BSt w W v P ls S :=
  ⟨own_below h.out hb (Nat.le_refl _), own_below h.row hb (Nat.le_refl _), h.below.trans (hb.mono h.below.size)⟩
theorem BSt.push {w W w7 : World} {v v' ls : Value} {P m : List UInt8} {S : List Ent} {n : Nat} (h : BSt w W v P ls S) (hg : W.grownBy w7 v.ownBlock) (hn : n = m.length) (hown : w7.ownsRow w.heap.size 5 1 v' (P.length + n) (bytesV P ++ bytesV m)) : BSt w w7 v' (P ++ m) ls S :=
  ⟨by rw [List.length_append, bytesV_append, ← hn]; exact hown,
    own_keep h.row fun g hgk hlt => hg.block g hlt fun e => own_types h.row h.out (by decide) hgk e.symm,
    h.below.grown hg h.below.size (fun k hk => (own_lt h.out hk).1)⟩
theorem one_b1 (n : Nat) (hn : n < 256) : [Value.int .u8 (n : Int)] = bytesV [b1 n] := by
  unfold bytesV
  simp only [List.map_cons, List.map_nil]
  rw [show ((b1 n).toNat : Int) = n by rw [b1_toNat]; omega]
theorem int_new (x : Int) (W : World) (q : Nat) (u : Value) (hq : ([Value.int .u8 x] : List Value)[q]? = some u) : (W.alloc (.cells #[.int .u8 x] 5)).cell? ⟨W.heap.size, 0 + q, none⟩ = some u := by
  rw [Nat.zero_add, (Blk.new W 5 #[.int .u8 x]).cell q]; simpa using hq
theorem row_new' (l : List UInt8) (W : World) (q : Nat) (u : Value) (hq : (bytesV l)[q]? = some u) : (W.alloc (.cells (bytesV l).toArray 5)).cell? ⟨W.heap.size, 0 + q, none⟩ = some u := by
  rw [Nat.zero_add, (Blk.new W 5 (bytesV l).toArray).cell q]; simpa using hq

def v4 (x : Nat) : Array Value := #[.int .u8 ((x : Int) / 16777216), .int .u8 ((x : Int) / 65536 % 256), .int .u8 ((x : Int) / 256 % 256), .int .u8 ((x : Int) % 256)]
theorem v4_be4 (x : Nat) (hx : x < 4294967296) : (v4 x).toList = bytesV (be4 x) := by
  have e0 : (((b1 (x / 16777216)).toNat : Nat) : Int) = (x : Int) / 16777216 := by rw [b1_toNat]; omega
  have e1 : (((b1 (x / 65536)).toNat : Nat) : Int) = (x : Int) / 65536 % 256 := by rw [b1_toNat]; omega
  have e2 : (((b1 (x / 256)).toNat : Nat) : Int) = (x : Int) / 256 % 256 := by rw [b1_toNat]; omega
  have e3 : (((b1 x).toNat : Nat) : Int) = (x : Int) % 256 := by rw [b1_toNat]; omega
  unfold v4 bytesV be4
  simp only [List.map_cons, List.map_nil, e0, e1, e2, e3]
theorem v4_new (x : Nat) (W : World) (q : Nat) (u : Value) (hq : ((v4 x).toList)[q]? = some u) : (W.alloc (.cells (v4 x) 5)).cell? ⟨W.heap.size, 0 + q, none⟩ = some u := by
  rw [Nat.zero_add, (Blk.new W 5 (v4 x)).cell q]; simpa using hq
theorem loop_num (j : Nat) (h : j < 100) : Value.int .i64 (wrap64 ((j : Int) + 1)) = .int .i64 ((j + 1 : Nat) : Int) := by
  have e : wrap64 ((j : Int) + 1) = ((j + 1 : Nat) : Int) := by unfold wrap64; omega
  rw [e]
theorem loop_meas (n j : Nat) (h : j < n) (hn : n ≤ 100) : n - (intOf (Value.int .i64 (wrap64 ((j : Int) + 1)))).toNat < n - (intOf (Value.int .i64 (j : Int))).toNat := by
  have e : wrap64 ((j : Int) + 1) = ((j + 1 : Nat) : Int) := by unfold wrap64; omega
  rw [e]
  simp [intOf]
  omega
theorem loop_meas' (n j : Nat) (h : j < n) : n - (intOf (Value.int .i64 ((j : Int) + 1))).toNat < n - (intOf (Value.int .i64 (j : Int))).toNat := by
  simp [intOf]; omega
theorem BSt.ent {w wr : World} {v : Value} {P : List UInt8} {b o cu : Nat} {S : List Ent} (h : BSt w wr v P (.slice (some ⟨b, o, none⟩) S.length cu) S) (j : Nat) (hj : j < S.length) : wr.cell? ⟨b, o + j * 2, none⟩ = some (.string S[j].key) ∧ wr.cell? ⟨b, o + j * 2 + 1, none⟩ = some (.string S[j].text) := by
  obtain ⟨b', o', hA, _, _, x0, x1⟩ := (ents_of_own h.row (Nat.le_refl w.heap.size) (Nat.le_refl _)).entAt j hj
  injection hA with hA
  injection hA with e1 e2
  subst e1; subst e2
  exact ⟨x0, x1⟩

set_option maxHeartbeats 6400000 in
set_option maxRecDepth 100000 in
theorem bytesof_any (b : Bun) (v : Value) (w : World) (h : BunIn w b v) (hR : Right b) :
    Calls Tryz.prog 17 #[.agg #[.string b.tag, v]] w fun e w' => ∃ u, e = .returned u ∧ w'.ownsRow w.heap.size 5 1 u (bytesB b).length (bytesV (bytesB b)) ∧ Below w.heap.size w w' := by
  obtain ⟨lo, hl⟩ := h.lo
  obtain ⟨A, c, rfl, _⟩ := hl.form
  have HL := Lib.hid hl
  have HR := Lib.hid hR
  obtain ⟨bt, l⟩ := b
  dsimp only at *
  clear h hl hR
  have hts : bt.size ≤ 200 := tag_short HR.out.tag
  have hl100 : l.length ≤ 100 := HR.out.len
  have hcv : ∀ (s : ByteArray) (W : World), (convert 9 26 (.string s)).run Tryz.prog W = .ok (.slice (some ⟨W.heap.size, 0, none⟩) s.size (grownCap W s.size 0 5)) (Lib.bytesWorld W 5 s) := fun s W => Lib.run_convert_string_bytes W 9 26 5 s Tryz.underlying9 Tryz.underlying26 Tryz.underlying5
  go_enter Tryz.func17, Tryz.ntmps17
  obtain ⟨W1, eW1⟩ : ∃ W1, W1 = w.alloc (.cells #[.string bt, .slice A l.length c] 24) := ⟨_, rfl⟩
  have hb1 : Below w.heap.size w W1 := by rw [eW1]; exact (Below.refl _ _).alloc (Nat.le_refl _) _
  have M1 : Hid (Blk W1 w.heap.size 24 #[.string bt, .slice A l.length c]) := Lib.hid (by rw [eW1]; exact Blk.new _ _ _)
  have hs1 : w.heap.size < W1.heap.size := by rw [eW1]; simp
  have HB1 := Lib.hid hb1
  have hconv := Lib.run_convert_bytes_const (P := Tryz.prog) W1 26 5 #[.int .u8 76, .int .u8 71, .int .u8 66, .int .u8 49] 4 4 Tryz.underlying26 Tryz.underlying5
  go_upto_region 1 with fail
  rw [← eW1]
  clear eW1 hb1
  obtain ⟨W2, eW2⟩ : ∃ W2, W2 = W1.alloc (.cells #[.int .u8 76, .int .u8 71, .int .u8 66, .int .u8 49] 5 (4, 5)) := ⟨_, rfl⟩
  have hb2 : Below W1.heap.size W1 W2 := by rw [eW2]; exact (Below.refl _ _).alloc (Nat.le_refl _) _
  have m2 := M1.out.below hb2 (by omega)
  have M2 := Lib.hid m2
  have c0 : W2.cell? ⟨w.heap.size, 0, none⟩ = some (.string bt) := (m2.cell 0).trans rfl
  have HC2 : Hid (∀ W, Below W2.heap.size W2 W → ∀ j u, (bytesV magicB)[j]? = some u → W.cell? ⟨W1.heap.size, 0 + j, none⟩ = some u) := Lib.hid fun W hW j u hj => by
    have hx : W2.cell? ⟨W1.heap.size, 0 + j, none⟩ = some u := by
      rw [eW2, Nat.zero_add, World.cell?_alloc_mark]
      have hmb : bytesV magicB = [.int .u8 76, .int .u8 71, .int .u8 66, .int .u8 49] := rfl
      rw [hmb] at hj
      simpa using hj
    exact (hW.cell (World.block_lt_of_cell? W2 _ hx)).trans hx
  have HB2 := Lib.hid hb2
  have hs2 := hb2.size
  go_upto_region 2 with fail
  rw [← eW2]
  clear eW2 hb2 m2 hconv
  obtain ⟨i0, hi, hz0, hz1, hz2⟩ := info_parts info_byte
  have HN1 := Lib.hid (int_new (bt.size : Int) W2)
  go_wp2_with (at_builtin; refine wpList_append_arg _ rfl _ _ 26 rfl 5 i0 (.int .u8 0) 1 1 Tryz.underlying26 hi hz0 hz1 hz2 rfl (by decide) W1.heap.size 0 4 4 (bytesV magicB) rfl rfl (HC2.out _ (by first | exact Below.refl _ _ | exact (Below.refl _ _).alloc (Nat.le_refl _) _)) ⟨W2.heap.size, 0, none⟩ 1 1 [.int .u8 (bt.size : Int)] rfl rfl (by intro j u hj; rw [Addr.add_lit]; exact HN1.out j u hj) (by simp [Value.oneCell']) (fun h => absurd h (by decide)) (by unfold maxLen; omega) (by omega) (fun h => absurd h (by decide)) ?_)
  intro v3 w3 hown3 hgrow3
  have hb3 : Below W2.heap.size W2 w3 := Below.grown ((Below.refl _ _).alloc (Nat.le_refl _) _) hgrow3 (by simp) (fun k hk => by cases hk)
  have S3 : Hid (BSt W1 w3 v3 (magicB ++ [b1 bt.size]) (.slice none 0 0) []) := Lib.hid ⟨by
    have h1 := own_mono hown3 (base' := W1.heap.size) (by omega)
    rw [one_b1 _ (by omega), ← bytesV_append] at h1
    exact h1, own_nil, HB2.out.trans (hb3.mono hs2)⟩
  obtain ⟨P3, hP3⟩ : ∃ P3, P3 = magicB ++ [b1 bt.size] := ⟨_, rfl⟩
  rw [← hP3] at S3
  have hl3 : P3.length ≤ 5 := by rw [hP3]; exact Nat.le_refl _
  have HP3 := Lib.hid hP3
  obtain ⟨A3, c3, rfl, _⟩ := own_slice S3.out.out
  have c0 : w3.cell? ⟨w.heap.size, 0, none⟩ = some (.string bt) := ((M1.out.below S3.out.below hs1).cell 0).trans rfl
  clear hP3 hown3 hgrow3 hb3 HN1 HC2 M2 HB2
  have HW4 := Lib.hid (bytesWorld_cells w3 bt)
  have SK4 := Lib.hid (S3.out.keep (bytesWorld_below w3 5 bt))
  go_wp2_with (at_builtin; refine wpList_append_any rfl _ _ 26 rfl W1.heap.size 5 Tryz.underlying26 info_byte rfl (by decide) (bytesV P3) rfl SK4.out.out (bytesV (bts bt)) rfl (by rw [bytesV_length, bts_len, Nat.mul_one]) (.inr ⟨_, _, rfl, HW4.out⟩) (bytesV_one _) (by unfold maxLen; omega) (by omega) (SK4.out.below.size) ?_)
  intro v4 w4 hown4 hgrow4 _
  have S4 := Lib.hid (SK4.out.push (m := bts bt) hgrow4 (by first | rfl | rw [bts_len]) hown4)
  obtain ⟨P4, hP4⟩ : ∃ P4, P4 = P3 ++ bts bt := ⟨_, rfl⟩
  rw [← hP4] at S4
  have hl4 : P4.length ≤ 205 := by rw [hP4, List.length_append]; first | (rw [bts_len]; omega) | (simp [be2, be4]; omega)
  have HP4 := Lib.hid hP4
  obtain ⟨A4, c4, rfl, _⟩ := own_slice S4.out.out
  clear hP4 hown4 hgrow4 SK4
  clear HW4 S3
  have c1 : w4.cell? ⟨w.heap.size, 1, none⟩ = some (.slice A l.length c) := ((M1.out.below S4.out.below hs1).cell 1).trans rfl
  clear c0
  have HT5 := Lib.hid (two_any l.length w4 (by omega))
  have HW5 := Lib.hid (row_new' (be2 l.length) w4)
  have SK5 := Lib.hid (S4.out.keep ((Below.refl _ _).alloc (Nat.le_refl _) (.cells (bytesV (be2 l.length)).toArray 5)))
  go_wp2_with fail
  refine HT5.out.mono ?_
  rintro e wt ⟨rfl, rfl⟩
  go_wp2_with (at_builtin; refine wpList_append_any rfl _ _ 26 rfl W1.heap.size 5 Tryz.underlying26 info_byte rfl (by decide) (bytesV P4) rfl SK5.out.out (bytesV (be2 l.length)) rfl rfl (.inr ⟨_, _, rfl, HW5.out⟩) (bytesV_one _) (by unfold maxLen; omega) (by omega) (SK5.out.below.size) ?_)
  intro v5 w5 hown5 hgrow5 _
  have S5 := Lib.hid (SK5.out.push (m := be2 l.length) hgrow5 (by first | rfl | rw [bts_len]) hown5)
  obtain ⟨P5, hP5⟩ : ∃ P5, P5 = P4 ++ be2 l.length := ⟨_, rfl⟩
  rw [← hP5] at S5
  have hl5 : P5.length ≤ 207 := by rw [hP5, List.length_append]; first | (rw [bts_len]; omega) | (simp [be2, be4]; omega)
  have HP5 := Lib.hid hP5
  obtain ⟨A5, c5, rfl, _⟩ := own_slice S5.out.out
  clear hP5 hown5 hgrow5 SK5
  clear HW5 HT5 S4
  clear c1
  have c1 : w5.cell? ⟨w.heap.size, 1, none⟩ = some (.slice A l.length c) := ((M1.out.below S5.out.below hs1).cell 1).trans rfl
  have hb5 := HB1.out.trans (S5.out.below.mono (Nat.le_of_lt hs1))
  have HSo := Lib.hid (qsorted_any _ l lo w5 ((HL.out.below Enc.ent_laws hb5).mono Enc.ent_laws (Nat.le_refl _) hb5.size) (by omega))
  rw [qSorted_srt HR.out.uniq] at HSo
  have hSl : (srt l).length = l.length := srt_length HR.out.uniq
  go_wp2_with fail
  refine HSo.out.mono ?_
  clear HSo
  rintro e w6 ⟨u6, rfl, hu6, hb6⟩
  have S6 : Hid (BSt W1 w6 (.slice A5 P5.length c5) P5 u6 (srt l)) := Lib.hid ⟨own_below S5.out.out hb6 (Nat.le_refl _), by rw [hSl]; exact own_mono hu6 S5.out.below.size, S5.out.below.trans (hb6.mono S5.out.below.size)⟩
  have HPre0 : Hid (P5 = preB bt l.length (srt l) 0) := Lib.hid (by rw [HP5.out, HP4.out, HP3.out]; unfold preB; rw [numB_two]; simp [numB_one])
  rw [HPre0.out] at S6 ⊢
  have HSe : Hid (∀ e ∈ srt l, keyOk e.key = true ∧ e.text.size ≤ 2000) := Lib.hid fun e he => HR.out.each e ((mem_srt HR.out.uniq).1 he)
  have HPre : Hid (∀ j, (preB bt l.length (srt l) j).length ≤ 210000) := Lib.hid (preB_len hts (by omega) HSe.out)
  have HEnd : Hid (preB bt l.length (srt l) (srt l).length ++ be4 (sumOf (preB bt l.length (srt l) (srt l).length)) = bytesB ⟨bt, l⟩) := Lib.hid (by rw [← hSl, preB_end]; rfl)
  obtain ⟨Au, cu, rfl, _⟩ := own_slice S6.out.row
  have HSl := Lib.hid hSl
  clear hu6 hb6 c1 hb5 S5 HPre0 HP5 HP4 HP3 hSl
  generalize srt l = S at *
  have hS100 : S.length ≤ 100 := by rw [HSl.out]; exact hl100
  clear HSl
  go_wp2_with fail
  go_loopw [3, 5] (fun ov i wr => ∃ (j : Nat), j ≤ S.length ∧ i = .int .i64 j ∧ BSt W1 wr ov (preB bt l.length S j) (.slice Au S.length cu) S) (fun _ i _ => S.length - (intOf i).toNat)
  case atStart => exact ⟨0, Nat.zero_le _, rfl, S6.out⟩
  case round =>
    clear S6
    obtain ⟨j, hj, rfl, hst⟩ := hrel
    have hplen := HPre.out j
    by_cases hlt : j < S.length
    · obtain ⟨b, o, rfl, _⟩ := (ents_of_own hst.row (Nat.le_refl W1.heap.size) (Nat.le_refl _)).entAt j hlt
      have hji : (j : Int) < (S.length : Int) := by omega
      have HPs := Lib.hid (preB_succ bt l.length S j hlt)
      have hk40 : S[j].key.size ≤ 40 := key_40 (HSe.out _ (List.getElem_mem hlt)).1
      have ht20 : S[j].text.size ≤ 2000 := (HSe.out _ (List.getElem_mem hlt)).2
      have HEn : Hid (∀ W V P, BSt W1 W V P (.slice (some ⟨b, o, none⟩) S.length cu) S → W.cell? ⟨b, o + j * 2, none⟩ = some (.string S[j].key) ∧ W.cell? ⟨b, o + j * 2 + 1, none⟩ = some (.string S[j].text)) := Lib.hid fun W V P hs => hs.ent j hlt
      generalize S[j].key = ky at *
      generalize S[j].text = tx at *
      obtain ⟨P6, hP6⟩ : ∃ P6, P6 = preB bt l.length S j := ⟨_, rfl⟩
      rw [← hP6] at hst hplen HPs
      obtain ⟨A6, c6, rfl, _⟩ := own_slice hst.out
      have S6 := Lib.hid hst
      obtain ⟨x0, x1⟩ := HEn.out _ _ _ hst
      clear hst hP6
      have HW7 := Lib.hid (int_new (ky.size : Int) wr)
      have SK7 := Lib.hid (S6.out.keep ((Below.refl _ _).alloc (Nat.le_refl _) (.cells #[.int .u8 (ky.size : Int)] 5)))
      have HV7 := Lib.hid (one_b1 ky.size (by omega))
      go_wp2_with (at_builtin; refine wpList_append_any rfl _ _ 26 rfl W1.heap.size 5 Tryz.underlying26 info_byte rfl (by decide) (bytesV P6) rfl SK7.out.out [.int .u8 (ky.size : Int)] rfl rfl (.inr ⟨_, _, rfl, HW7.out⟩) (by simp [Value.oneCell']) (by unfold maxLen; omega) (by omega) (SK7.out.below.size) ?_)
      intro v7 w7 hown7 hgrow7 _
      have S7 := Lib.hid (SK7.out.push (m := [b1 ky.size]) hgrow7 (by first | rfl | rw [bts_len]) (by rw [← HV7.out]; exact hown7))
      obtain ⟨P7, hP7⟩ : ∃ P7, P7 = P6 ++ [b1 ky.size] := ⟨_, rfl⟩
      rw [← hP7] at S7
      have hl7 : P7.length ≤ 210001 := by rw [hP7, List.length_append]; first | (rw [bts_len]; omega) | (simp [be2, be4]; omega)
      have HP7 := Lib.hid hP7
      obtain ⟨A7, c7, rfl, _⟩ := own_slice S7.out.out
      clear hP7 hown7 hgrow7 SK7
      clear HW7 HV7 S6
      clear x0 x1
      obtain ⟨x0, x1⟩ := HEn.out _ _ _ S7.out
      have HW8 := Lib.hid (bytesWorld_cells w7 ky)
      have SK8 := Lib.hid (S7.out.keep (bytesWorld_below w7 5 ky))
      go_wp2_with (at_builtin; refine wpList_append_any rfl _ _ 26 rfl W1.heap.size 5 Tryz.underlying26 info_byte rfl (by decide) (bytesV P7) rfl SK8.out.out (bytesV (bts ky)) rfl (by rw [bytesV_length, bts_len, Nat.mul_one]) (.inr ⟨_, _, rfl, HW8.out⟩) (bytesV_one _) (by unfold maxLen; omega) (by omega) (SK8.out.below.size) ?_)
      intro v8 w8 hown8 hgrow8 _
      have S8 := Lib.hid (SK8.out.push (m := bts ky) hgrow8 (by first | rfl | rw [bts_len]) hown8)
      obtain ⟨P8, hP8⟩ : ∃ P8, P8 = P7 ++ bts ky := ⟨_, rfl⟩
      rw [← hP8] at S8
      have hl8 : P8.length ≤ 210041 := by rw [hP8, List.length_append]; first | (rw [bts_len]; omega) | (simp [be2, be4]; omega)
      have HP8 := Lib.hid hP8
      obtain ⟨A8, c8, rfl, _⟩ := own_slice S8.out.out
      clear hP8 hown8 hgrow8 SK8
      clear HW8 S7
      clear x0 x1
      obtain ⟨x0, x1⟩ := HEn.out _ _ _ S8.out
      have HT9 := Lib.hid (two_any tx.size w8 (by omega))
      have HW9 := Lib.hid (row_new' (be2 tx.size) w8)
      have SK9 := Lib.hid (S8.out.keep ((Below.refl _ _).alloc (Nat.le_refl _) (.cells (bytesV (be2 tx.size)).toArray 5)))
      go_wp2_with fail
      refine HT9.out.mono ?_
      rintro e wt ⟨rfl, rfl⟩
      go_wp2_with (at_builtin; refine wpList_append_any rfl _ _ 26 rfl W1.heap.size 5 Tryz.underlying26 info_byte rfl (by decide) (bytesV P8) rfl SK9.out.out (bytesV (be2 tx.size)) rfl rfl (.inr ⟨_, _, rfl, HW9.out⟩) (bytesV_one _) (by unfold maxLen; omega) (by omega) (SK9.out.below.size) ?_)
      intro v9 w9 hown9 hgrow9 _
      have S9 := Lib.hid (SK9.out.push (m := be2 tx.size) hgrow9 (by first | rfl | rw [bts_len]) hown9)
      obtain ⟨P9, hP9⟩ : ∃ P9, P9 = P8 ++ be2 tx.size := ⟨_, rfl⟩
      rw [← hP9] at S9
      have hl9 : P9.length ≤ 210043 := by rw [hP9, List.length_append]; first | (rw [bts_len]; omega) | (simp [be2, be4]; omega)
      have HP9 := Lib.hid hP9
      obtain ⟨A9, c9, rfl, _⟩ := own_slice S9.out.out
      clear hP9 hown9 hgrow9 SK9
      clear HW9 HT9 S8
      clear x0 x1
      obtain ⟨x0, x1⟩ := HEn.out _ _ _ S9.out
      have HW10 := Lib.hid (bytesWorld_cells w9 tx)
      have SK10 := Lib.hid (S9.out.keep (bytesWorld_below w9 5 tx))
      go_wp2_with (at_builtin; refine wpList_append_any rfl _ _ 26 rfl W1.heap.size 5 Tryz.underlying26 info_byte rfl (by decide) (bytesV P9) rfl SK10.out.out (bytesV (bts tx)) rfl (by rw [bytesV_length, bts_len, Nat.mul_one]) (.inr ⟨_, _, rfl, HW10.out⟩) (bytesV_one _) (by unfold maxLen; omega) (by omega) (SK10.out.below.size) ?_)
      intro v10 w10 hown10 hgrow10 _
      have S10 := Lib.hid (SK10.out.push (m := bts tx) hgrow10 (by first | rfl | rw [bts_len]) hown10)
      obtain ⟨P10, hP10⟩ : ∃ P10, P10 = P9 ++ bts tx := ⟨_, rfl⟩
      rw [← hP10] at S10
      have hl10 : P10.length ≤ 212043 := by rw [hP10, List.length_append]; first | (rw [bts_len]; omega) | (simp [be2, be4]; omega)
      have HP10 := Lib.hid hP10
      obtain ⟨A10, c10, rfl, _⟩ := own_slice S10.out.out
      clear hP10 hown10 hgrow10 SK10
      clear HW10 S9
      clear x0 x1
      have HFin : Hid (P10 = preB bt l.length S (j + 1)) := Lib.hid (by rw [HPs.out, HP10.out, HP9.out, HP8.out, HP7.out]; simp [numB_one, numB_two])
      rw [HFin.out] at S10 ⊢
      go_wp2_with fail
      exact ⟨⟨j + 1, hlt, by first | exact loop_num j (Nat.lt_of_lt_of_le hlt hS100) | rfl | simp, S10.out⟩, by first | exact loop_meas _ _ hlt hS100 | exact loop_meas' _ _ hlt⟩
    · obtain rfl : j = S.length := by omega
      obtain ⟨P6, hP6⟩ : ∃ P6, P6 = preB bt l.length S S.length := ⟨_, rfl⟩
      rw [← hP6] at hst hplen HEnd
      obtain ⟨A6, c6, rfl, _⟩ := own_slice hst.out
      have S6 := Lib.hid hst
      have HSum := Lib.hid (refsum_any _ P6 _ wr (bytes_of_own hst.out (Nat.le_refl W1.heap.size) (Nat.le_refl _)) (by omega))
      have hs32 := sumOf_lt P6
      clear hst hP6
      go_wp2_with fail
      refine HSum.out.mono ?_
      clear HSum
      rintro e w7 ⟨rfl, rfl⟩
      obtain ⟨x, hx⟩ : ∃ x, x = sumOf P6 := ⟨_, rfl⟩
      rw [← hx] at hs32 ⊢
      rw [← hx] at HEnd
      clear hx
      have HW7 := Lib.hid (v4_new x wr)
      have HV7 := Lib.hid (v4_be4 x hs32)
      have SK7 := Lib.hid (S6.out.keep ((Below.refl _ _).alloc (Nat.le_refl _) (.cells (v4 x) 5)))
      unfold v4 at HW7 HV7 SK7
      go_wp2_with (at_builtin; refine wpList_append_any rfl _ _ 26 rfl W1.heap.size 5 Tryz.underlying26 info_byte rfl (by decide) (bytesV P6) rfl SK7.out.out [.int .u8 ((x : Int) / 16777216), .int .u8 ((x : Int) / 65536 % 256), .int .u8 ((x : Int) / 256 % 256), .int .u8 ((x : Int) % 256)] rfl rfl (.inr ⟨_, _, rfl, HW7.out⟩) (by simp [Value.oneCell']) (by unfold maxLen; omega) (by omega) (SK7.out.below.size) ?_)
      intro v8 w8 hown8 hgrow8 _
      have HF8 : Hid (w8.ownsRow W1.heap.size 5 1 v8 (bytesB ⟨bt, l⟩).length (bytesV (bytesB ⟨bt, l⟩))) := Lib.hid (by
        have h1 := (SK7.out.push (m := be4 x) (n := 4) hgrow8 rfl (by rw [← HV7.out]; exact hown8)).out
        rw [HEnd.out] at h1
        exact h1)
      have HB8 := Lib.hid (HB1.out.trans ((SK7.out.push (m := be4 x) (n := 4) hgrow8 rfl (by rw [← HV7.out]; exact hown8)).below.mono (Nat.le_of_lt hs1)))
      clear hown8 hgrow8 HW7 HV7 SK7
      go_wp2_with fail
      go_ret
      exact ⟨_, rfl, own_mono HF8.out (Nat.le_of_lt hs1), HB8.out⟩
end Go.Proofs.YtmpjfomfibkbnaaGreatDoor
/- The reference's bundle of bytes: linguisterref2.UnpackOf. -/

namespace Go.Proofs.YtmpjfomfibkbnaaGreatDoor
open Go.RowKit

def UnRes (w : World) (l : List UInt8) (e : Ending) (w' : World) : Prop :=
  ∃ u, e = .returned (.tuple #[.agg #[.string (unpackB l).tag, u], .int .i64 (unpackE l)]) ∧ w'.ownsRow w.heap.size 32 2 u (unpackB l).ents.length (flatE (unpackB l).ents) ∧ Below w.heap.size w w'
theorem unres_err {w W : World} {l : List UInt8} {x : Int} (hx : unpackE l = x) (h0 : x ≠ 0) (hb : Below w.heap.size w W) : UnRes w l (.returned (.tuple #[.agg #[.string ⟨#[]⟩, .slice none 0 0], .int .i64 x])) W := by
  have hB : unpackB l = noB := by unfold unpackB; rw [if_neg (by rw [hx]; exact h0)]
  refine ⟨.slice none 0 0, ?_, ?_, hb⟩
  · rw [hB, hx]; rfl
  · rw [hB]; exact own_nil
theorem pcR_none (l : List UInt8) : pcR l none = (ByteArray.empty, -1) := rfl

theorem rd1_cases (l : List UInt8) (a : Nat) : rd1 (l.drop a) = none ∨ ∃ s a2, a + 1 ≤ a2 ∧ a2 ≤ l.length ∧ rd1 (l.drop a) = some (s, l.drop a2) := by
  by_cases t1 : a + 1 ≤ l.length
  · by_cases t2 : a + 1 + numOf ((l.drop a).take 1) ≤ l.length
    · exact .inr ⟨_, _, by omega, t2, rd1_ok t1 rfl t2⟩
    · exact .inl (rd1_no2 t1 rfl t2)
  · exact .inl (rd1_no1 t1)
theorem rd2_cases (l : List UInt8) (a : Nat) : rd2 (l.drop a) = none ∨ ∃ s a2, a + 2 ≤ a2 ∧ a2 ≤ l.length ∧ rd2 (l.drop a) = some (s, l.drop a2) := by
  by_cases t1 : a + 2 ≤ l.length
  · by_cases t2 : a + 2 + numOf ((l.drop a).take 2) ≤ l.length
    · exact .inr ⟨_, _, by omega, t2, rd2_ok t1 rfl t2⟩
    · exact .inl (rd2_no2 t1 rfl t2)
  · exact .inl (rd2_no1 t1)
theorem BoxRow.tag {w0 wr : World} {q : Nat} {tg : ByteArray} {u : Value} (h : BoxRow w0 wr q tg [] u) (t2 : ByteArray) : BoxRow w0 (wr.setCell ⟨q, 0, none⟩ (.string t2)) q t2 [] u :=
  ⟨h.lo, h.box.set_ 0 (.string t2), own_keep h.row fun g hg _ => Below.heap_setCell _ _ _ _ (fun (e : g = q) => own_ne_blk h.row h.box (by decide) (by rw [hg, e])), h.below.setCell h.lo _⟩
theorem four_at {l : List UInt8} {a : Nat} (h : a + 4 ≤ l.length) (S : Nat) (hS : S < 4294967296) : numOf ((l.drop a).take 4) = S ↔
    (((l[a].toNat : Int) != (S : Int) / 16777216) = false ∧ ((l[a + 1].toNat : Int) != (S : Int) / 65536 % 256) = false ∧ ((l[a + 2].toNat : Int) != (S : Int) / 256 % 256) = false ∧ ((l[a + 3].toNat : Int) != (S : Int) % 256) = false) := by
  rw [List.drop_eq_getElem_cons (show a < l.length by omega), List.drop_eq_getElem_cons (show a + 1 < l.length by omega), List.drop_eq_getElem_cons (show a + 1 + 1 < l.length by omega), List.drop_eq_getElem_cons (show a + 1 + 1 + 1 < l.length by omega), List.take_succ_cons, List.take_succ_cons, List.take_succ_cons, List.take_succ_cons, List.take_zero]
  have hx := l[a].toNat_lt
  have hy := l[a + 1].toNat_lt
  have hz := l[a + 2].toNat_lt
  have hu := l[a + 3].toNat_lt
  show numOf [l[a], l[a + 1], l[a + 2], l[a + 3]] = S ↔ _
  have e : numOf [l[a], l[a + 1], l[a + 2], l[a + 3]] = 256 * (256 * (256 * l[a].toNat + l[a + 1].toNat) + l[a + 2].toNat) + l[a + 3].toNat := by simp [numOf]
  rw [e]
  simp only [bne_eq_false_iff_eq]
  omega
theorem two_at {l : List UInt8} {a : Nat} (h : a + 2 ≤ l.length) : numOf ((l.drop a).take 2) = 256 * l[a].toNat + l[a + 1].toNat := by
  rw [List.drop_eq_getElem_cons (show a < l.length by omega), List.drop_eq_getElem_cons (show a + 1 < l.length by omega), List.take_succ_cons, List.take_succ_cons, List.take_zero]; exact numOf_two _ _

set_option maxHeartbeats 6400000 in
set_option maxRecDepth 100000 in
theorem unpackof_any (lo : Nat) (v : Value) (l : List UInt8) (w : World) (h : ListOk Enc.byte w lo w.heap.size v l) (hl : l.length ≤ 1000000000) :
    Calls Tryz.prog 19 #[v] w fun e w' => UnRes w l e w' := by
  obtain ⟨A, c, rfl, hc⟩ := h.form
  have H := Lib.hid h
  clear h
  go_enter Tryz.func19, Tryz.ntmps19
  obtain ⟨W1, eW1⟩ : ∃ W1, W1 = w.alloc (.cells #[.string ⟨#[]⟩, .slice none 0 0] 24) := ⟨_, rfl⟩
  have hb1 : Below w.heap.size w W1 := by rw [eW1]; exact (Below.refl _ _).alloc (Nat.le_refl _) _
  have M1 : Hid (Blk W1 w.heap.size 24 #[.string ⟨#[]⟩, .slice none 0 0]) := Lib.hid (by rw [eW1]; exact Blk.new _ _ _)
  have hs1 : w.heap.size < W1.heap.size := by rw [eW1]; simp
  have HB1 := Lib.hid hb1
  go_upto_region 1 with fail
  rw [← eW1]
  clear eW1 hb1
  have HX : Hid (∀ W, Below W1.heap.size W1 W → W.cell? ⟨w.heap.size, 0, none⟩ = some (.string ⟨#[]⟩) ∧ W.cell? ⟨w.heap.size, 1, none⟩ = some (.slice none 0 0) ∧ W.frozen? ⟨w.heap.size, 0, none⟩ = false ∧ W.frozen? ⟨w.heap.size, 1, none⟩ = false) := Lib.hid fun W hW => by
    have m := M1.out.below hW hs1
    exact ⟨(m.cell 0).trans rfl, (m.cell 1).trans rfl, m.frozen 0, m.frozen 1⟩
  have HOut : Hid (∀ W, Below W1.heap.size W1 W → ∀ s u, Below w.heap.size w ((W.setCell ⟨w.heap.size, 0, none⟩ s).setCell ⟨w.heap.size, 1, none⟩ u)) := Lib.hid fun W hW s u => (((HB1.out.trans (hW.mono (Nat.le_of_lt hs1))).setCell (Nat.le_refl _) _).setCell (Nat.le_refl _) _)
  by_cases hn : 4 ≤ l.length
  · obtain ⟨b, o, rfl, _⟩ := H.out.byteAt 0 (by omega)
    have hd0 : decide ((l.length : Int) < 4) = false := decide_eq_false (by omega)
    have hok1 : ListOk Enc.byte W1 lo W1.heap.size (.slice (some ⟨b, o, none⟩) l.length c) l := (H.out.below Enc.byte_laws HB1.out).mono Enc.byte_laws (Nat.le_refl _) (Nat.le_of_lt hs1)
    have hsl : ListOk Enc.byte W1 lo W1.heap.size (.slice (some ⟨b, o, none⟩) 4 c) (l.take 4) := by
      have h1 := hok1.mid rfl 0 4 (by omega)
      rw [List.drop_zero] at h1
      simpa using h1
    have hcv := conv_str hsl (by simp; omega)
    have hc4 : 4 ≤ c := by omega
    obtain ⟨r0, r1, f0, f1⟩ := HX.out W1 (Below.refl _ _)
    by_cases hm : l.take 4 = magicB
    · rw [hm] at hcv
      have hd : ((str magicB).toList == [76, 71, 66, 49]) = true := by
        rw [str_toList, beq_iff_eq]; rfl
      have HOk1 := Lib.hid hok1
      have HPc := Lib.hid (fun W (hW : Below W1.heap.size W1 W) => piece1_any _ l 4 lo W ((HOk1.out.below Enc.byte_laws hW).mono Enc.byte_laws (Nat.le_refl _) hW.size) hl (by omega))
      clear hok1 hsl
      obtain ⟨W2, eW2⟩ : ∃ W2, W2 = W1.alloc (.cells #[.string ⟨#[]⟩, .slice none 0 0] 24) := ⟨_, rfl⟩
      obtain ⟨q, hq⟩ : ∃ q, q = W1.heap.size := ⟨_, rfl⟩
      have hb2 : Below W1.heap.size W1 W2 := by rw [eW2]; exact (Below.refl _ _).alloc (Nat.le_refl _) _
      have R2 : Hid (BoxRow W1 W2 q ByteArray.empty [] (.slice none 0 0)) := Lib.hid ⟨Nat.le_of_eq hq.symm, by rw [eW2, hq]; exact Blk.new _ _ _, own_nil, hb2⟩
      have hqw : w.heap.size < q := by omega
      go_upto_region 6 with fail
      rw [← eW2, ← hq]
      clear eW2 hq hb2 r0 r1 f0 f1 hcv hd
      have HP2 := Lib.hid (HPc.out W2 R2.out.below)
      have HB2q := Lib.hid (R2.out.box.cell 0)
      have b0 : W2.cell? ⟨q, 0, none⟩ = some (.string ⟨#[]⟩) := HB2q.out.trans rfl
      have fb0 := R2.out.box.frozen 0
      clear HB2q
      rcases rd1_cases l 4 with HT0 | ⟨tg, a2, ha2, ha2l, HT0⟩
      · have HE := Lib.hid (un_short hn hm (rdB_no1 HT0))
        rw [HT0, pcR_none] at HP2
        have R3 := Lib.hid (R2.out.tag ByteArray.empty)
        clear HT0 hm HPc
        go_wp2_with fail
        refine HP2.out.mono ?_
        clear HP2
        rintro e w3 ⟨rfl, rfl⟩
        go_upto_region 8 with fail
        generalize W2.setCell ⟨q, 0, none⟩ (.string ByteArray.empty) = w3 at *
        obtain ⟨r0, r1, f0, f1⟩ := HX.out w3 R3.out.below
        clear R2 b0 fb0
        go_wp2_with fail
        refine bodyPost_ret (v := .tuple #[.agg #[.string ⟨#[]⟩, .slice none 0 0], .int .i64 6]) ?_ rfl (unres_err HE.out (by decide) (HOut.out w3 R3.out.below _ _))
        simp [results, Tryz.results19, go_sem, r0, r1, f0, f1]
        try rfl
      · rw [HT0, pcR_at ha2l] at HP2
        have HTAG := Lib.hid HT0
        have R3 := Lib.hid (R2.out.tag tg)
        clear HT0
        go_wp2_with fail
        refine HP2.out.mono ?_
        clear HP2
        rintro e w3 ⟨rfl, rfl⟩
        go_upto_region 8 with fail
        obtain ⟨w3, ew3⟩ : ∃ w3, w3 = W2.setCell ⟨q, 0, none⟩ (.string tg) := ⟨_, rfl⟩
        rw [← ew3] at R3 ⊢
        clear ew3 R2 b0 fb0 ha2
        have hp : decide ((a2 : Int) < 0) = false := decide_eq_false (by omega)
        by_cases t3 : a2 + 2 ≤ l.length
        · have hd1 : decide ((l.length : Int) - a2 < 2) = false := decide_eq_false (by omega)
          have hok3 := (HOk1.out.below Enc.byte_laws R3.out.below)
          obtain ⟨b', o', hA', _, _, x0⟩ := hok3.byteAt a2 (by omega)
          injection hA' with hA'
          injection hA' with e1 e2
          subst e1; subst e2
          obtain ⟨b', o', hA', _, _, x1⟩ := hok3.byteAt (a2 + 1) (by omega)
          injection hA' with hA'
          injection hA' with e1 e2
          subst e1; subst e2
          have hN := two_at t3
          have HNUM := Lib.hid (rdN_ok t3 hN)
          have hx : l[a2].toNat < 256 := l[a2].toNat_lt
          have hy : l[a2 + 1].toNat < 256 := l[a2 + 1].toNat_lt
          generalize l[a2].toNat = n at *
          generalize l[a2 + 1].toNat = m at *
          have hai : (a2 : Int) < (l.length : Int) := by omega
          have hai1 : (a2 : Int) + 1 < (l.length : Int) := by omega
          have hmi : (256 * (n : Int) + m) = ((256 * n + m : Nat) : Int) := by omega
          have hNb : 256 * n + m < 65536 := by omega
          generalize hNn : 256 * n + m = N at *
          have HNn := Lib.hid hNn
          clear hok3 hN hNn
          go_wp2_with fail
          go_quiet (fail)
          go_wp2_with fail
          have HQ1 := Lib.hid (fun a W (ha : a ≤ l.length) (hW : Below W1.heap.size W1 W) => piece1_any _ l a lo W ((HOk1.out.below Enc.byte_laws hW).mono Enc.byte_laws (Nat.le_refl _) hW.size) hl ha)
          have HQ2 := Lib.hid (fun a W (ha : a ≤ l.length) (hW : Below W1.heap.size W1 W) => piece2_any _ l a lo W ((HOk1.out.below Enc.byte_laws hW).mono Enc.byte_laws (Nat.le_refl _) hW.size) hl ha)
          have HQn := Lib.hid (fun W (hW : Below W1.heap.size W1 W) => piece_neg _ l 2 lo W ((HOk1.out.below Enc.byte_laws hW).mono Enc.byte_laws (Nat.le_refl _) hW.size))
          have R4 : Hid (BoxRow W1 (w3.drewN nq) q tg [] (.slice none 0 0)) := Lib.hid (R3.out.keep (below_drewN (Below.refl _ _) _))
          have h42 : ((a2 : Int) + 2) = ((a2 + 2 : Nat) : Int) := by omega
          rw [h42]
          clear hp hd1 x0 x1 hx hy hai hai1 hmi HNn HPc h42 R3 hd0
          go_loopw [6, 8] (fun at_ i wr => ∃ (j a' : Nat) (es : List Ent) (u : Value), j ≤ N ∧ a' ≤ l.length ∧ i = .int .i64 j ∧ at_ = .int .i64 a' ∧ rdEs j (l.drop (a2 + 2)) = some (es, l.drop a') ∧ BoxRow W1 wr q tg es u) (fun _ i _ => N - (intOf i).toNat)
          case atStart => exact ⟨0, a2 + 2, [], .slice none 0 0, Nat.zero_le _, t3, rfl, rfl, rfl, R4.out⟩
          case round =>
            clear R4 t3
            obtain ⟨j, a', es, u, hj, ha', rfl, rfl, hes, hbr⟩ := hrel
            have BR := Lib.hid hbr
            have HES := Lib.hid hes
            obtain ⟨Au, cu, rfl, _⟩ := own_slice hbr.row
            clear hbr hes
            by_cases hlt : j < N
            · rcases rd1_cases l a' with K0 | ⟨ky, a5, _, ha5, K0⟩
              · have HE := Lib.hid (un_short hn hm (rdB_no3 HTAG.out HNUM.out (rdEs_none hlt HES.out (rdE_no1 K0))))
                have P1 := Lib.hid (HQ1.out a' wr ha' BR.out.below)
                rw [K0, pcR_none] at P1
                have P2 := Lib.hid (HQn.out wr BR.out.below)
                obtain ⟨r0, r1, f0, f1⟩ := HX.out wr BR.out.below
                clear HQ1 HQ2 HQn K0 HES
                go_wp2_with fail
                refine P1.out.mono ?_
                clear P1
                rintro e w5 ⟨rfl, rfl⟩
                go_wp2_with fail
                refine P2.out.mono ?_
                clear P2
                rintro e w5 ⟨rfl, rfl⟩
                go_wp2_with fail
                refine bodyPost_ret (v := .tuple #[.agg #[.string ⟨#[]⟩, .slice none 0 0], .int .i64 6]) ?_ rfl (unres_err HE.out (by decide) (HOut.out wr BR.out.below _ _))
                simp [results, Tryz.results19, go_sem, r0, r1, f0, f1]
                try rfl
              · rcases rd2_cases l a5 with T0 | ⟨tx, a7, _, ha7, T0⟩
                · have HE := Lib.hid (un_short hn hm (rdB_no3 HTAG.out HNUM.out (rdEs_none hlt HES.out (rdE_no2 K0 T0))))
                  have P1 := Lib.hid (HQ1.out a' wr ha' BR.out.below)
                  rw [K0, pcR_at ha5] at P1
                  have P2 := Lib.hid (HQ2.out a5 wr ha5 BR.out.below)
                  rw [T0, pcR_none] at P2
                  obtain ⟨r0, r1, f0, f1⟩ := HX.out wr BR.out.below
                  clear HQ1 HQ2 HQn K0 HES T0
                  go_wp2_with fail
                  refine P1.out.mono ?_
                  clear P1
                  rintro e w5 ⟨rfl, rfl⟩
                  go_wp2_with fail
                  refine P2.out.mono ?_
                  clear P2
                  rintro e w5 ⟨rfl, rfl⟩
                  go_wp2_with fail
                  refine bodyPost_ret (v := .tuple #[.agg #[.string ⟨#[]⟩, .slice none 0 0], .int .i64 6]) ?_ rfl (unres_err HE.out (by decide) (HOut.out wr BR.out.below _ _))
                  simp [results, Tryz.results19, go_sem, r0, r1, f0, f1]
                  try rfl
                · have HR := Lib.hid (rdE_ok K0 T0)
                  have P1 := Lib.hid (HQ1.out a' wr ha' BR.out.below)
                  rw [K0, pcR_at ha5] at P1
                  have P2 := Lib.hid (HQ2.out a5 wr ha5 BR.out.below)
                  rw [T0, pcR_at ha7] at P2
                  have hp7 : decide ((a7 : Int) < 0) = false := decide_eq_false (by omega)
                  have b1 : wr.cell? ⟨q, 1, none⟩ = some (.slice Au es.length cu) := (BR.out.box.cell 1).trans rfl
                  have hel : Hid (es.length = j) := Lib.hid (rdEs_inv HES.out).2
                  have hel2 : es.length ≤ 65536 := by rw [hel.out]; omega
                  have hsz : W1.heap.size ≤ wr.heap.size := BR.out.below.size
                  have HnX : Hid (∀ q u, ([Value.string ky, .string tx] : List Value)[q]? = some u → (wr.alloc (.cells #[.string ky, .string tx] 32)).cell? ⟨wr.heap.size, 0 + q, none⟩ = some u) := Lib.hid fun q u hq => by
                    rw [Nat.zero_add, (Blk.new wr 32 #[.string ky, .string tx]).cell q]; simpa using hq
                  have BR2 := Lib.hid (BR.out.keep ((Below.refl wr.heap.size wr).alloc (Nat.le_refl _) (.cells #[.string ky, .string tx] 32)))
                  clear HQ1 HQ2 HQn K0 T0
                  go_wp2_with fail
                  refine P1.out.mono ?_
                  clear P1
                  rintro e w5 ⟨rfl, rfl⟩
                  go_wp2_with fail
                  refine P2.out.mono ?_
                  clear P2
                  rintro e w5 ⟨rfl, rfl⟩
                  go_wp2_with (at_builtin; refine wpList_append_any rfl _ _ 22 rfl W1.heap.size 32 Tryz.underlying22 info_ent rfl (by decide) (flatE es) rfl BR2.out.row [.string ky, .string tx] rfl rfl (.inr ⟨_, _, rfl, HnX.out⟩) (by simp [Value.oneCell']) (by unfold maxLen; omega) (by omega) (by simp; omega) ?_)
                  intro v4 w4 hown4 hgrow4 _
                  have hbx4 := blk_grown BR2.out.box hgrow4 (fun e => own_ne_blk BR2.out.row BR2.out.box (by decide) e.symm)
                  have HL4 := Lib.hid (BR2.out.push (e := ⟨ky, tx⟩) hgrow4 hown4)
                  have s1 := hbx4.cell 1
                  have s2 := hbx4.frozen 1
                  simp at s1
                  obtain ⟨Aw, cw, rfl, _⟩ := own_slice hown4
                  have HE4 := Lib.hid (rdEs_snoc HES.out HR.out)
                  clear hown4 hgrow4 hbx4 HnX BR BR2 b1 HES HR
                  go_wp2_with fail
                  go_roundw
                  case rel =>
                    repeat apply Exists.intro
                    exact ⟨⟨j + 1, a7, _, _, by omega, ha7, by go_num, rfl, HE4.out, HL4.out⟩, rfl⟩
                  case measure => simp [intOf]; omega
            · obtain rfl : j = N := by omega
              clear HQ1 HQ2 HQn
              by_cases z1 : a' + 4 ≤ l.length
              · have hd4 : decide ((l.length : Int) - a' < 4) = false := decide_eq_false (by omega)
                by_cases z2 : a' + 4 < l.length
                · have hd5 : decide (4 < (l.length : Int) - a') = true := decide_eq_true (by omega)
                  have HRB := Lib.hid (rdB_ok HTAG.out HNUM.out HES.out)
                  have HE := Lib.hid ((un_left hn hm HRB.out).trans (left_more z2))
                  obtain ⟨r0, r1, f0, f1⟩ := HX.out wr BR.out.below
                  clear z2 HRB HES
                  go_wp2_with fail
                  refine bodyPost_ret (v := .tuple #[.agg #[.string ⟨#[]⟩, .slice none 0 0], .int .i64 3]) ?_ rfl (unres_err HE.out (by decide) (HOut.out wr BR.out.below _ _))
                  simp [results, Tryz.results19, go_sem, r0, r1, f0, f1]
                  try rfl
                · have hd5 : decide (4 < (l.length : Int) - a') = false := decide_eq_false (by omega)
                  have hal4 : a' + 4 = l.length := by omega
                  have HRB := Lib.hid (rdB_ok HTAG.out HNUM.out HES.out)
                  have hel2 : es.length ≤ 65535 := by have := (rdEs_inv HES.out).2; omega
                  have HSm := Lib.hid (rdEs_small HES.out)
                  have htg := rd1_small HTAG.out
                  have hokr := (HOk1.out.below Enc.byte_laws BR.out.below).mono Enc.byte_laws (Nat.le_refl _) BR.out.below.size
                  have hsl : ListOk Enc.byte wr lo wr.heap.size (.slice (some ⟨b, o, none⟩) a' c) (l.take a') := by
                    have h1 := hokr.mid rfl 0 a' (by omega)
                    rw [List.drop_zero] at h1
                    simpa using h1
                  have HSum := Lib.hid (refsum_any _ _ _ _ hsl (by rw [List.length_take]; omega))
                  have hs32 := sumOf_lt (l.take a')
                  have HW8 := Lib.hid (fun h => (un_left hn hm HRB.out).trans (left_sum hal4 h))
                  have HWl := Lib.hid (fun h => (un_left hn hm HRB.out).trans (left_last hal4 h))
                  have hf4 := four_at (l := l) (a := a') (by omega) (sumOf (l.take a')) hs32
                  have hbA : ∀ k (hk : a' + k < l.length), wr.cell? ⟨b, o + (a' + k), none⟩ = some (.int .u8 l[a' + k].toNat) := fun k hk => by
                    obtain ⟨b', o', hA', _, _, x0⟩ := hokr.byteAt (a' + k) hk
                    injection hA' with hA'
                    injection hA' with e1 e2
                    subst e1; subst e2
                    exact x0
                  have x0 := hbA 0 (by omega)
                  have x1 := hbA 1 (by omega)
                  have x2 := hbA 2 (by omega)
                  have x3 := hbA 3 (by omega)
                  clear hokr hbA hsl HES
                  simp only [Nat.add_zero] at x0
                  generalize sumOf (l.take a') = S at *
                  generalize l[a'].toNat = n0 at *
                  generalize l[a' + 1].toNat = n1 at *
                  generalize l[a' + 2].toNat = n2 at *
                  generalize l[a' + 3].toNat = n3 at *
                  have q0 : (a' : Int) < (l.length : Int) := by omega
                  have q1 : (a' : Int) + 1 < (l.length : Int) := by omega
                  have q2 : (a' : Int) + 2 < (l.length : Int) := by omega
                  have q3 : (a' : Int) + 3 < (l.length : Int) := by omega
                  have hac : a' ≤ c := by omega
                  obtain ⟨p0, hp0⟩ : ∃ p0, ((n0 : Int) != (S : Int) / 16777216) = p0 := ⟨_, rfl⟩
                  obtain ⟨p1, hp1⟩ : ∃ p1, ((n1 : Int) != (S : Int) / 65536 % 256) = p1 := ⟨_, rfl⟩
                  obtain ⟨p2, hp2⟩ : ∃ p2, ((n2 : Int) != (S : Int) / 256 % 256) = p2 := ⟨_, rfl⟩
                  obtain ⟨p3, hp3⟩ : ∃ p3, ((n3 : Int) != (S : Int) % 256) = p3 := ⟨_, rfl⟩
                  rw [hp0, hp1, hp2, hp3] at hf4
                  have HF4 := Lib.hid hf4
                  clear hf4 z1 z2
                  go_wp2_with fail
                  refine HSum.out.mono ?_
                  clear HSum
                  rintro e w5 ⟨rfl, rfl⟩
                  obtain ⟨r0, r1, f0, f1⟩ := HX.out wr BR.out.below
                  by_cases hq : p0 = false ∧ p1 = false ∧ p2 = false ∧ p3 = false
                  · have HE := Lib.hid (HWl.out (HF4.out.2 hq))
                    obtain ⟨rfl, rfl, rfl, rfl⟩ := hq
                    clear HWl HW8 HF4
                    go_wp2_with fail
                    have BRB := Lib.hid BR.out.below.size
                    clear r0 r1 f0 f1 x0 x1 x2 x3 hp0 hp1 hp2 hp3 q0 q1 q2 q3 hac hd4 hd5 hal4
                    have b1 : wr.cell? ⟨q, 1, none⟩ = some (.slice Au es.length cu) := (BR.out.box.cell 1).trans rfl
                    obtain ⟨wo, rfl⟩ : ∃ wo : World, wo = wr := ⟨_, rfl⟩
                    go_loopw [14] (fun i wq => ∃ (k : Nat), i = .int .i64 k ∧ 1 ≤ k ∧ (k ≤ es.length ∨ k = 1) ∧ (∀ i (h : i + 1 < es.length), i + 1 < k → ltK es[i].key es[i + 1].key = true) ∧ BoxRow W1 wq q tg es (.slice Au es.length cu)) (fun i _ => es.length - (intOf i).toNat)
                    case atStart => exact ⟨1, rfl, Nat.le_refl _, .inr rfl, fun i _ h => absurd h (by omega), BR.out⟩
                    case round =>
                      clear b1
                      obtain ⟨k, rfl, hk1, hk2, hup, hbr⟩ := hrel
                      have BQ := Lib.hid hbr
                      have HUp := Lib.hid hup
                      have b1 : wr.cell? ⟨q, 1, none⟩ = some (.slice Au es.length cu) := (hbr.box.cell 1).trans rfl
                      clear BR hup hbr
                      by_cases hlk : k < es.length
                      · obtain ⟨t, rfl⟩ : ∃ t, k = t + 1 := ⟨k - 1, by omega⟩
                        have hent : ListOk Enc.ent wr W1.heap.size wr.heap.size (.slice Au es.length cu) es := ents_of_own BQ.out.row (Nat.le_refl _) (Nat.le_refl _)
                        obtain ⟨b2, o2, rfl, _, _, x0, x1⟩ := hent.entAt (t + 1) hlk
                        obtain ⟨b', o', hA, _, _, y0, y1⟩ := hent.entAt t (by omega)
                        injection hA with hA
                        injection hA with e1 e2
                        subst e1; subst e2
                        obtain ⟨P, hP⟩ : ∃ P, ltK es[t].key es[t + 1].key = P := ⟨_, rfl⟩
                        generalize hxk : es[t + 1].key = xk at *
                        generalize hyk : es[t].key = yk at *
                        have hq2 : ((t + 1 : Nat) : Int) = (t : Int) + 1 := by omega
                        have pa : (0 : Int) ≤ (t : Int) + 1 := by omega
                        have ba : (t : Int) + 1 < (es.length : Int) := by omega
                        have pc : (0 : Int) ≤ (t : Int) := by omega
                        have bc : (t : Int) < (es.length : Int) := by omega
                        rw [hq2]
                        clear hent x1 y1 hk2 hk1
                        cases P with
                        | true =>
                          have hlk2 : Op.bytesLess yk.toList xk.toList = true := by rw [less_eq]; exact hP
                          have HUp2 : Hid (∀ i (h : i + 1 < es.length), i + 1 < t + 1 + 1 → ltK es[i].key es[i + 1].key = true) := Lib.hid fun i h hi => by
                            rcases Nat.lt_or_ge (i + 1) (t + 1) with h1 | h1
                            · exact HUp.out i h h1
                            · obtain rfl : i = t := by omega
                              rw [hyk, hxk]; exact hP
                          clear HUp hP hxk hyk
                          go_wp2_with fail
                          go_quiet (fail)
                          go_wp2_with fail
                          go_roundw
                          case rel =>
                            exact ⟨t + 1 + 1, by go_num, by omega, .inl (by omega), HUp2.out, BQ.out.keep (below_drewN (Below.refl _ _) _)⟩
                          case measure => simp [intOf]; omega
                        | false =>
                          have hlk2 : Op.bytesLess yk.toList xk.toList = false := by rw [less_eq]; exact hP
                          have HE3 : Hid (unpackE l = 3) := Lib.hid (by
                            rw [HE.out]
                            have hs : sortedE es = false := by
                              rw [Bool.eq_false_iff]
                              intro hs
                              have := (sortedE_at es).1 hs t hlk
                              rw [hyk, hxk, hP] at this
                              cases this
                            rw [hs]; rfl)
                          have HXr := Lib.hid (fun n => HX.out (wr.drewN n) (below_drewN BQ.out.below n))
                          clear HUp hP hxk hyk
                          go_wp2_with fail
                          go_quiet (fail)
                          obtain ⟨r0, r1, f0, f1⟩ := HXr.out nq
                          go_wp2_with fail
                          refine bodyPost_ret (v := .tuple #[.agg #[.string ⟨#[]⟩, .slice none 0 0], .int .i64 3]) ?_ rfl (unres_err HE3.out (by decide) (HOut.out (wr.drewN nq) (below_drewN BQ.out.below nq) _ _))
                          simp [results, Tryz.results19, go_sem, r0, r1, f0, f1]
                          try rfl
                      · have hsE : sortedE es = true := (sortedE_at es).2 fun i h => HUp.out i h (by omega)
                        have hbi : BunIn wr ⟨tg, es⟩ (.slice Au es.length cu) := ⟨⟨W1.heap.size, ents_of_own BQ.out.row (Nat.le_refl _) (Nat.le_refl _)⟩, by show tg.size < _; omega, by show es.length ≤ _; omega, fun e he => by have := HSm.out e he; omega⟩
                        have HF := Lib.hid (qbunfault_any ⟨tg, es⟩ _ wr hbi)
                        dsimp only at HF
                        have c0 : wr.cell? ⟨q, 0, none⟩ = some (.string tg) := (BQ.out.box.cell 0).trans rfl
                        have HE2 := Lib.hid HE.out
                        rw [hsE, Bool.true_and] at HE2
                        clear hbi HE HUp hk1 hk2
                        go_wp2_with fail
                        refine HF.out.mono ?_
                        clear HF
                        rintro e w6 ⟨rfl, hb6⟩
                        have B6 := Lib.hid (BQ.out.keep hb6)
                        clear hb6 BQ c0 b1
                        obtain ⟨r0, r1, f0, f1⟩ := HX.out w6 B6.out.below
                        by_cases hf : bunFault ⟨tg, es⟩ = 0
                        · have HE0 : Hid (unpackE l = 0) := Lib.hid (by rw [HE2.out, hf]; rfl)
                          rw [hf]
                          have c0 : w6.cell? ⟨q, 0, none⟩ = some (.string tg) := (B6.out.box.cell 0).trans rfl
                          have c1 : w6.cell? ⟨q, 1, none⟩ = some (.slice Au es.length cu) := (B6.out.box.cell 1).trans rfl
                          have HUB := Lib.hid (unB_ok HE0.out HRB.out)
                          have HRow : Hid (World.ownsRow ((w6.setCell ⟨w.heap.size, 0, none⟩ (.string tg)).setCell ⟨w.heap.size, 1, none⟩ (.slice Au es.length cu)) w.heap.size 32 2 (.slice Au es.length cu) es.length (flatE es)) := Lib.hid (own_mono (own_keep B6.out.row fun g hg hlt => by
                            have n0 : g ≠ w.heap.size := fun e => by have := (own_lt B6.out.row hg).1; omega
                            rw [Below.heap_setCell _ _ _ _ n0, Below.heap_setCell _ _ _ _ n0]) (by omega))
                          clear hf HE2
                          go_wp2_with fail
                          refine bodyPost_ret (v := .tuple #[.agg #[.string tg, .slice Au es.length cu], .int .i64 0]) ?_ rfl ⟨_, by rw [HUB.out, HE0.out], by rw [HUB.out]; exact HRow.out, HOut.out w6 B6.out.below _ _⟩
                          simp [results, Tryz.results19, go_sem, r0, r1, f0, f1]
                          try rfl
                        · have HE3 : Hid (unpackE l = 3) := Lib.hid (by rw [HE2.out, decide_eq_false hf]; rfl)
                          generalize bunFault ⟨tg, es⟩ = F at *
                          have hfF : (F != 0) = true := by simpa using hf
                          clear HE2
                          go_wp2_with fail
                          refine bodyPost_ret (v := .tuple #[.agg #[.string ⟨#[]⟩, .slice none 0 0], .int .i64 3]) ?_ rfl (unres_err HE3.out (by decide) (HOut.out w6 B6.out.below _ _))
                          simp [results, Tryz.results19, go_sem, r0, r1, f0, f1]
                          try rfl
                  · have HE := Lib.hid (HW8.out fun e => hq (HF4.out.1 e))
                    clear HWl HW8 HF4
                    cases p0 with
                    | true =>
                      clear hq
                      go_wp2_with fail
                      refine bodyPost_ret (v := .tuple #[.agg #[.string ⟨#[]⟩, .slice none 0 0], .int .i64 8]) ?_ rfl (unres_err HE.out (by decide) (HOut.out wr BR.out.below _ _))
                      simp [results, Tryz.results19, go_sem, r0, r1, f0, f1]
                      try rfl
                    | false =>
                      cases p1 with
                      | true =>
                        clear hq
                        go_wp2_with fail
                        refine bodyPost_ret (v := .tuple #[.agg #[.string ⟨#[]⟩, .slice none 0 0], .int .i64 8]) ?_ rfl (unres_err HE.out (by decide) (HOut.out wr BR.out.below _ _))
                        simp [results, Tryz.results19, go_sem, r0, r1, f0, f1]
                        try rfl
                      | false =>
                        cases p2 with
                        | true =>
                          clear hq
                          go_wp2_with fail
                          refine bodyPost_ret (v := .tuple #[.agg #[.string ⟨#[]⟩, .slice none 0 0], .int .i64 8]) ?_ rfl (unres_err HE.out (by decide) (HOut.out wr BR.out.below _ _))
                          simp [results, Tryz.results19, go_sem, r0, r1, f0, f1]
                          try rfl
                        | false =>
                          cases p3 with
                          | true =>
                            clear hq
                            go_wp2_with fail
                            refine bodyPost_ret (v := .tuple #[.agg #[.string ⟨#[]⟩, .slice none 0 0], .int .i64 8]) ?_ rfl (unres_err HE.out (by decide) (HOut.out wr BR.out.below _ _))
                            simp [results, Tryz.results19, go_sem, r0, r1, f0, f1]
                            try rfl
                          | false => exact absurd ⟨rfl, rfl, rfl, rfl⟩ hq
              · have hd4 : decide ((l.length : Int) - a' < 4) = true := decide_eq_true (by omega)
                have HRB := Lib.hid (rdB_ok HTAG.out HNUM.out HES.out)
                have HE := Lib.hid ((un_left hn hm HRB.out).trans (left_short z1))
                obtain ⟨r0, r1, f0, f1⟩ := HX.out wr BR.out.below
                clear HRB HES
                go_wp2_with fail
                refine bodyPost_ret (v := .tuple #[.agg #[.string ⟨#[]⟩, .slice none 0 0], .int .i64 6]) ?_ rfl (unres_err HE.out (by decide) (HOut.out wr BR.out.below _ _))
                simp [results, Tryz.results19, go_sem, r0, r1, f0, f1]
                try rfl
        · have hd1 : decide ((l.length : Int) - a2 < 2) = true := decide_eq_true (by omega)
          have HE := Lib.hid (un_short hn hm (rdB_no2 HTAG.out (rdN_no t3)))
          obtain ⟨r0, r1, f0, f1⟩ := HX.out w3 R3.out.below
          clear HPc
          go_wp2_with fail
          refine bodyPost_ret (v := .tuple #[.agg #[.string ⟨#[]⟩, .slice none 0 0], .int .i64 6]) ?_ rfl (unres_err HE.out (by decide) (HOut.out w3 R3.out.below _ _))
          simp [results, Tryz.results19, go_sem, r0, r1, f0, f1]
          try rfl
    · have hd : ((str (l.take 4)).toList == [76, 71, 66, 49]) = false := by
        rw [str_toList, beq_eq_false_iff_ne]; exact hm
      generalize str (l.take 4) = m4 at *
      clear hok1 hsl
      go_wp2_with fail
      refine bodyPost_ret (v := .tuple #[.agg #[.string ⟨#[]⟩, .slice none 0 0], .int .i64 3]) ?_ rfl (unres_err (un_form0 hn hm) (by decide) (HOut.out W1 (Below.refl _ _) _ _))
      simp [results, Tryz.results19, go_sem, r0, r1, f0, f1]
      try rfl
  · have HE := Lib.hid (un_short0 (l := l) (by omega))
    obtain ⟨r0, r1, f0, f1⟩ := HX.out W1 (Below.refl _ _)
    have hd : decide ((l.length : Int) < 4) = true := decide_eq_true (by omega)
    go_wp2_with fail
    refine bodyPost_ret (v := .tuple #[.agg #[.string ⟨#[]⟩, .slice none 0 0], .int .i64 6]) ?_ rfl (unres_err HE.out (by decide) (HOut.out W1 (Below.refl _ _) _ _))
    simp [results, Tryz.results19, go_sem, r0, r1, f0, f1]
    try rfl
end Go.Proofs.YtmpjfomfibkbnaaGreatDoor
