/- The law PackSums. -/
import Derived.Test.YtmpjfomfibkbnaaDoorPackA
set_option linter.unusedSimpArgs false
set_option linter.unusedVariables false
namespace Go.Proofs.YtmpjfomfibkbnaaDoor
open Go.RowKit

theorem news_bytes' {w : World} {lo hi n c : Nat} {A : Option Addr} {l : List UInt8} (h : ListOk Enc.byte w lo hi (.slice A n c) l) (hn : n = l.length) :
    n = 0 ∨ ∃ b o, A = some ⟨b, o, none⟩ ∧ ∀ j u, (bytesV l)[j]? = some u → w.cell? ⟨b, o + j, none⟩ = some u := by
  by_cases h0 : n = 0
  · exact .inl h0
  · obtain ⟨b, o, rfl, _⟩ := h.byteAt 0 (by omega)
    refine .inr ⟨b, o, rfl, fun j u hj => ?_⟩
    have hjl : j < l.length := by
      rcases Nat.lt_or_ge j l.length with h | h
      · exact h
      · rw [List.getElem?_eq_none (by rw [bytesV_length]; exact h)] at hj; cases hj
    obtain ⟨b', o', hA, _, _, x0⟩ := h.byteAt j hjl
    injection hA with hA
    injection hA with e1 e2
    subst e1; subst e2
    rw [x0, ← hj]
    simp [bytesV, hjl]
theorem bytesV_one' (l : List UInt8) : ∀ u ∈ bytesV l, u.oneCell' = true := by
  intro u hu
  obtain ⟨x, _, rfl⟩ := List.mem_map.1 hu
  rfl
theorem empty_own' (w : World) (base : Nat) (h : base ≤ w.heap.size) : (w.alloc (.cells #[] 5)).ownsRow base 5 1 (.slice (some ⟨w.heap.size, 0, none⟩) 0 0) 0 [] :=
  ⟨rfl, .inr ⟨w.heap.size, 0, #[], rfl, h, heap_alloc_new w _, by omega, by unfold maxLen; omega, rfl, rfl⟩⟩
theorem row_new (l : List UInt8) (W : World) (q : Nat) (u : Value) (hq : (bytesV l)[q]? = some u) : (W.alloc (.cells (bytesV l).toArray 5)).cell? ⟨W.heap.size, 0 + q, none⟩ = some u := by
  rw [Nat.zero_add, (Blk.new W 5 (bytesV l).toArray).cell q]; simpa using hq
theorem sums_iff (a : List UInt8) {x y : Nat} (hx : x < 4294967296) (hy : y < 4294967296) : sumOf (a ++ be4 x) = sumOf (a ++ be4 y) ↔ x = y := by
  constructor
  · intro h
    refine be4_inj hx hy ?_
    obtain ⟨h1, h2, h3, h4⟩ := (sum_four a _ _ _ _ _ _ _ _).1 h
    unfold be4
    rw [h1, h2, h3, h4]
  · intro h; rw [h]

def v4 (x : Nat) : Array Value := #[.int .u8 ((x : Int) / 16777216), .int .u8 ((x : Int) / 65536 % 256), .int .u8 ((x : Int) / 256 % 256), .int .u8 ((x : Int) % 256)]
theorem v4_be4 (x : Nat) (hx : x < 4294967296) : (v4 x).toList = bytesV (be4 x) := by
  have e0 : (((b1 (x / 16777216)).toNat : Nat) : Int) = (x : Int) / 16777216 := by rw [b1_toNat]; omega
  have e1 : (((b1 (x / 65536)).toNat : Nat) : Int) = (x : Int) / 65536 % 256 := by rw [b1_toNat]; omega
  have e2 : (((b1 (x / 256)).toNat : Nat) : Int) = (x : Int) / 256 % 256 := by rw [b1_toNat]; omega
  have e3 : (((b1 x).toNat : Nat) : Int) = (x : Int) % 256 := by rw [b1_toNat]; omega
  unfold v4 bytesV be4
  simp only [List.map_cons, List.map_nil, e0, e1, e2, e3]
theorem v4_new (x : Nat) (W : World) (q : Nat) (u : Value) (hq : ((v4 x).toList)[q]? = some u) : (W.alloc (.cells (v4 x) 5)).cell? ⟨W.heap.size, 0 + q, none⟩ = some u := by
  rw [Nat.zero_add, (Blk.new W 5 (v4 x)).cell q]; simpa using hq
theorem bytes_of_row {w : World} {base lo hi : Nat} {v : Value} {n : Nat} {l : List UInt8} (hn : n = l.length) (h : w.ownsRow base 5 1 v n (bytesV l)) (hb : lo ≤ base) (hs : w.heap.size ≤ hi) : ListOk Enc.byte w lo hi v l := bytes_of_own (by rw [← hn]; exact h) hb hs
set_option maxHeartbeats 3200000 in
set_option maxRecDepth 100000 in
theorem packSums_any (lo : Nat) (a : List UInt8) (v : Value) (x y : Nat) (w : World) (h : ListOk Enc.byte w lo w.heap.size v a) (hn : a.length + 4 ≤ 140737488355328) (hx : x < 4294967296) (hy : y < 4294967296) (hm : MaxVar w) :
    Calls Tryd.prog 3 #[v, .int .u32 x, .int .u32 y] w fun e w' => e = .returned (.bool true) ∧ Below w.heap.size w w' := by
  obtain ⟨A, c, rfl, _⟩ := h.form
  have H := Lib.hid h
  have HIff := Lib.hid (sums_iff a hx hy)
  clear h
  have HP := Lib.hid (packed_any w hm)
  go_enter Tryd.func3, Tryd.ntmps3
  go_wp2_with fail
  refine HP.out.mono ?_
  clear HP
  rintro e w1 ⟨rfl, hb1⟩
  have HB1 := Lib.hid hb1
  have hs1 := hb1.size
  have HOk : Hid (∀ W, Below w1.heap.size w1 W → ListOk Enc.byte W lo w.heap.size (.slice A a.length c) a) := Lib.hid fun W hW => H.out.below Enc.byte_laws (hb1.trans (hW.mono hs1))
  have HE0 := Lib.hid (empty_own' w1 w1.heap.size (Nat.le_refl _))
  have HNw := Lib.hid (news_bytes' (HOk.out _ ((Below.refl _ _).alloc (Nat.le_refl _) (.cells #[] 5))) rfl)
  clear hb1
  go_wp2_with (at_builtin; refine wpList_append_any rfl _ _ 22 rfl w1.heap.size 5 Tryd.underlying22 info_byte rfl (by decide) [] rfl HE0.out (bytesV a) rfl (by rw [bytesV_length, Nat.mul_one]) HNw.out (bytesV_one' a) (by unfold maxLen; omega) (by omega) (by simp) ?_)
  intro v2 w2 hown2 hgrow2 _
  have hb2 : Below w1.heap.size w1 w2 := Below.grown ((Below.refl _ _).alloc (Nat.le_refl _) _) hgrow2 (by simp) (fun k hk => by simp [Value.ownBlock] at hk; omega)
  have hown : w2.ownsRow w1.heap.size 5 1 v2 a.length (bytesV a) := by simpa using hown2
  obtain ⟨A2, c2, rfl, _⟩ := own_slice hown
  have HO2 : Hid ((w2.alloc (.cells (v4 x) 5)).ownsRow w1.heap.size 5 1 (.slice A2 a.length c2) a.length (bytesV a)) := Lib.hid (own_below hown ((Below.refl _ _).alloc (Nat.le_refl _) _) (Nat.le_refl _))
  have HN2 := Lib.hid (v4_new x w2)
  have hs2 := hb2.size
  have HB2 := Lib.hid hb2
  unfold v4 at HO2 HN2
  clear hown hown2 hgrow2 hb2 HE0 HNw
  go_wp2_with (at_builtin; refine wpList_append_any rfl _ _ 22 rfl w1.heap.size 5 Tryd.underlying22 info_byte rfl (by decide) (bytesV a) rfl HO2.out [.int .u8 ((x : Int) / 16777216), .int .u8 ((x : Int) / 65536 % 256), .int .u8 ((x : Int) / 256 % 256), .int .u8 ((x : Int) % 256)] rfl rfl (.inr ⟨_, _, rfl, HN2.out⟩) (by simp [Value.oneCell']) (by unfold maxLen; omega) (by omega) (by simp; omega) ?_)
  intro v3 w3 hown3 hgrow3 _
  have hb3 : Below w1.heap.size w1 w3 := Below.grown (HB2.out.alloc hs2 _) hgrow3 (by simp; omega) (fun k hk => (own_lt HO2.out hk).1)
  have hs3 := hb3.size
  obtain ⟨A3, c3, rfl, _⟩ := own_slice hown3
  have HP3 : Hid (ListOk Enc.byte w3 w1.heap.size w3.heap.size (.slice A3 (a.length + 4) c3) (a ++ be4 x)) := Lib.hid (bytes_of_row (n := a.length + 4) (by simp [be4]) (by rw [bytesV_append, ← v4_be4 x hx]; exact hown3) (Nat.le_refl _) (Nat.le_refl _))
  have HB3 := Lib.hid hb3
  have HE0 := Lib.hid (empty_own' w3 w3.heap.size (Nat.le_refl _))
  have HNw := Lib.hid (news_bytes' (HOk.out _ (hb3.trans (((Below.refl w3.heap.size w3).alloc (Nat.le_refl _) (.cells #[] 5)).mono hs3))) rfl)
  clear hown3 hgrow3 hb3 HO2 HN2 HB2
  go_wp2_with (at_builtin; refine wpList_append_any rfl _ _ 22 rfl w3.heap.size 5 Tryd.underlying22 info_byte rfl (by decide) [] rfl HE0.out (bytesV a) rfl (by rw [bytesV_length, Nat.mul_one]) HNw.out (bytesV_one' a) (by unfold maxLen; omega) (by omega) (by simp) ?_)
  intro v4' w4 hown4 hgrow4 _
  have hb4 : Below w3.heap.size w3 w4 := Below.grown ((Below.refl _ _).alloc (Nat.le_refl _) _) hgrow4 (by simp) (fun k hk => by simp [Value.ownBlock] at hk; omega)
  have hown : w4.ownsRow w3.heap.size 5 1 v4' a.length (bytesV a) := by simpa using hown4
  obtain ⟨A4, c4, rfl, _⟩ := own_slice hown
  have HO4 : Hid ((w4.alloc (.cells (v4 y) 5)).ownsRow w3.heap.size 5 1 (.slice A4 a.length c4) a.length (bytesV a)) := Lib.hid (own_below hown ((Below.refl _ _).alloc (Nat.le_refl _) _) (Nat.le_refl _))
  have HN4 := Lib.hid (v4_new y w4)
  have hs4 := hb4.size
  have HB4 := Lib.hid hb4
  unfold v4 at HO4 HN4
  clear hown hown4 hgrow4 hb4 HE0 HNw
  go_wp2_with (at_builtin; refine wpList_append_any rfl _ _ 22 rfl w3.heap.size 5 Tryd.underlying22 info_byte rfl (by decide) (bytesV a) rfl HO4.out [.int .u8 ((y : Int) / 16777216), .int .u8 ((y : Int) / 65536 % 256), .int .u8 ((y : Int) / 256 % 256), .int .u8 ((y : Int) % 256)] rfl rfl (.inr ⟨_, _, rfl, HN4.out⟩) (by simp [Value.oneCell']) (by unfold maxLen; omega) (by omega) (by simp; omega) ?_)
  intro v5 w5 hown5 hgrow5 _
  have hb5 : Below w3.heap.size w3 w5 := Below.grown (HB4.out.alloc hs4 _) hgrow5 (by simp; omega) (fun k hk => (own_lt HO4.out hk).1)
  obtain ⟨A5, c5, rfl, _⟩ := own_slice hown5
  have hs5 := hb5.size
  have HP5 : Hid (ListOk Enc.byte w5 w3.heap.size w5.heap.size (.slice A5 (a.length + 4) c5) (a ++ be4 y)) := Lib.hid (bytes_of_row (n := a.length + 4) (by simp [be4]) (by rw [bytesV_append, ← v4_be4 y hy]; exact hown5) (Nat.le_refl _) (Nat.le_refl _))
  have HS1 := Lib.hid (sum_any _ (a ++ be4 x) _ w5 ((HP3.out.below Enc.byte_laws hb5).mono Enc.byte_laws (Nat.le_refl _) hs5) (by simp [be4]; omega))
  have HB5 := Lib.hid (HB1.out.trans ((HB3.out.trans (hb5.mono hs3)).mono hs1))
  clear hown5 hgrow5 hb5 HO4 HN4 HB4
  go_wp2_with fail
  refine HS1.out.mono ?_
  clear HS1
  rintro e w6 ⟨rfl, hb6⟩
  have HS2 := Lib.hid (sum_any _ (a ++ be4 y) _ w6 ((HP5.out.below Enc.byte_laws hb6).mono Enc.byte_laws (Nat.le_refl _) hb6.size) (by simp [be4]; omega))
  have HB6 := Lib.hid (HB5.out.trans (hb6.mono HB5.out.size))
  clear hb6
  go_wp2_with fail
  refine HS2.out.mono ?_
  clear HS2
  rintro e w7 ⟨rfl, hb7⟩
  have HB7 := Lib.hid (HB6.out.trans (hb7.mono HB6.out.size))
  have hd : (sumOf (a ++ be4 x) = sumOf (a ++ be4 y)) = (x = y) := propext HIff.out
  generalize sumOf (a ++ be4 x) = S1 at *
  generalize sumOf (a ++ be4 y) = S2 at *
  by_cases hxy : x = y
  · have h12 : S1 = S2 := hd.mpr hxy
    subst hxy
    subst h12
    clear hd hb7
    go_wp2_with fail
    go_ret
    exact ⟨rfl, HB7.out⟩
  · have h12 : ¬ S1 = S2 := fun e => hxy (hd.mp e)
    have e1 : ((S1 : Int) == S2) = false := by rw [beq_eq_false_iff_ne]; omega
    have e2 : ((x : Int) == y) = false := by rw [beq_eq_false_iff_ne]; omega
    clear hd hb7
    go_wp2_with fail
    go_ret
    exact ⟨rfl, HB7.out⟩
end Go.Proofs.YtmpjfomfibkbnaaDoor
