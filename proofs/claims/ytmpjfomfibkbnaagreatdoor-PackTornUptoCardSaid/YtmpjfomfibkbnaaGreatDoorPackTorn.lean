/- The law PackTorn. -/
import Derived.Test.YtmpjfomfibkbnaaGreatDoorPackU
set_option linter.unusedSimpArgs false
set_option linter.unusedVariables false
namespace Go.Proofs.YtmpjfomfibkbnaaGreatDoor
open Go.RowKit

set_option maxHeartbeats 3200000 in
set_option maxRecDepth 100000 in
theorem packTorn_any (b : Bun) (v : Value) (k : Int) (w : World) (h : BunIn w b v) (hm : MaxVar w) (hg : ErrVar w) :
    Calls Tryz.prog 8 #[.agg #[.string b.tag, v], .int .i64 k] w fun e w' => e = .returned (.bool true) ∧ Below w.heap.size w w' := by
  obtain ⟨lo, hl⟩ := h.lo
  obtain ⟨A, c, rfl, _⟩ := hl.form
  have HI := Lib.hid h
  have HM := Lib.hid hm
  have HG := Lib.hid hg
  obtain ⟨bt, l⟩ := b
  dsimp only at *
  clear h hm hg hl
  go_enter Tryz.func8, Tryz.ntmps8
  go_wp2_with fail
  have hb1 : Below w.heap.size w (w.alloc (.cells #[.string bt, .slice A l.length c] 24)) := (Below.refl _ _).alloc (Nat.le_refl _) _
  refine (packed_any _ (HM.out.below hb1)).mono ?_
  rintro e w2 ⟨rfl, hb2⟩
  have HB2 := Lib.hid (hb1.trans (hb2.mono (by simp)))
  have m2 := (Blk.new w 24 #[.string bt, .slice A l.length c]).below hb2 (by simp)
  have c0 : w2.cell? ⟨w.heap.size, 0, none⟩ = some (.string bt) := (m2.cell 0).trans rfl
  have c1 : w2.cell? ⟨w.heap.size, 1, none⟩ = some (.slice A l.length c) := (m2.cell 1).trans rfl
  clear hb1 hb2 m2
  go_wp2_with fail
  refine (encode_any ⟨bt, l⟩ _ w2 (HI.out.below HB2.out) (HM.out.below HB2.out)).mono ?_
  rintro e w3 hr
  obtain ⟨hb3, ⟨hf, rfl⟩ | ⟨hR, A3, c3, rfl, hu⟩⟩ := enc_uni hr
  · have HB3 := Lib.hid (HB2.out.trans (hb3.mono HB2.out.size))
    rw [errV_ne hf]
    clear hr hb3 c0 c1
    go_wp2_with fail
    go_ret
    exact ⟨rfl, HB3.out⟩
  · have HB3 := Lib.hid (HB2.out.trans (hb3.mono HB2.out.size))
    have hlen := bytes_le hR
    have HR := Lib.hid hR
    have HU := Lib.hid hu
    clear hr hb3 c0 c1 hR hu
    generalize hL : bytesB ⟨bt, l⟩ = L at *
    have HL := Lib.hid hL
    clear hL
    by_cases hk0 : k < 0
    · go_wp2_with fail
      go_ret
      exact ⟨rfl, HB3.out⟩
    · obtain ⟨m, rfl⟩ := Int.eq_ofNat_of_zero_le (show 0 ≤ k by omega)
      by_cases hk1 : m < L.length
      · have hd : decide ((L.length : Int) ≤ m) = false := decide_eq_false (by omega)
        obtain ⟨b3, o3, rfl, _, _, _⟩ := (bytes_of_own HU.out (Nat.le_refl w2.heap.size) (Nat.le_refl _)).byteAt 0 (by omega)
        have hc3 : m ≤ c3 := by obtain ⟨_, _, he, h2⟩ := own_slice HU.out; injection he with _ _ he; omega
        have hls : ListOk Enc.byte w3 w2.heap.size w3.heap.size (.slice (some ⟨b3, o3, none⟩) m c3) (L.take m) := by
          have h1 := (bytes_of_own HU.out (Nat.le_refl w2.heap.size) (Nat.le_refl _)).mid rfl 0 m (by omega)
          rw [List.drop_zero] at h1
          simpa using h1
        have HD := Lib.hid (decode_at _ _ _ w3 hls (by rw [List.length_take]; omega) (HM.out.below HB3.out))
        have h6 : unpackE (L.take m) = 6 := by rw [← HL.out]; exact unpack_torn HR.out m (by rw [HL.out]; exact hk1)
        rw [h6] at HD
        clear hls h6
        go_wp2_with fail
        refine HD.out.mono ?_
        clear HD
        rintro e w4 ⟨u, rfl, hu4, hb4⟩
        obtain ⟨A4, c4, rfl, _⟩ := own_slice hu4
        generalize (unpackB (L.take m)).tag = t4 at *
        generalize (unpackB (L.take m)).ents.length = n4 at *
        have HB4 := Lib.hid (HB3.out.trans (hb4.mono HB3.out.size))
        have HB5 := Lib.hid (HB4.out.alloc HB4.out.size (.cells #[.string t4, .slice A4 n4 c4] 24))
        have HS := Lib.hid (serror_any 6 6 (w4.alloc (.cells #[.string t4, .slice A4 n4 c4] 24)) (HG.out.below HB5.out HG.out.lt))
        clear hu4 hb4
        go_wp2_with fail
        refine HS.out.mono ?_
        clear HS
        rintro e w5 ⟨rfl, hb5⟩
        have HB6 := Lib.hid (HB5.out.trans (hb5.mono HB5.out.size))
        clear hb5
        go_wp2_with fail
        go_ret
        exact ⟨rfl, HB6.out⟩
      · have hd : decide ((L.length : Int) ≤ m) = true := decide_eq_true (by omega)
        go_wp2_with fail
        go_ret
        exact ⟨rfl, HB3.out⟩
end Go.Proofs.YtmpjfomfibkbnaaGreatDoor
