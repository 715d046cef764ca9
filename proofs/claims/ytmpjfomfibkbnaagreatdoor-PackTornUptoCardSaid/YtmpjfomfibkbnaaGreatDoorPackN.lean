/- pack.Encode, at any bundle. -/
import Derived.Test.YtmpjfomfibkbnaaGreatDoorPackV
import Derived.Test.YtmpjfomfibkbnaaGreatDoorPackW
import Derived.Lib.SlBytesConst
set_option linter.unusedSimpArgs false
set_option linter.unusedVariables false
namespace Go.Proofs.YtmpjfomfibkbnaaGreatDoor
open Go.RowKit

theorem own_blk_ne' {w : World} {base : Nat} {e t : TypeId} {size : Nat} {v : Value} {n : Nat} {xs : List Value} {g : Nat} {cs : Array Value} (h : w.ownsRow base e size v n xs) (k : Blk w g t cs) (hne : e ≠ t) : v.ownBlock ≠ some g := by
  intro hg
  obtain ⟨_, ⟨h2, _⟩ | ⟨g1, cap, cur, hv, hb, hh, r⟩⟩ := h
  · rw [h2] at hg; cases hg
  · rw [hv] at hg; injection hg with hg; subst hg
    have k' := hh.symm.trans k
    injection k' with k'
    injection k' with _ k' _
    exact hne k'
/-- bytes in a row of the call's own -/
theorem bytes_of_own {w : World} {base lo hi : Nat} {v : Value} {l : List UInt8} (h : w.ownsRow base 5 1 v l.length (bytesV l)) (hb : lo ≤ base) (hs : w.heap.size ≤ hi) : ListOk Enc.byte w lo hi v l :=
  ListOk.of_own (E := Enc.byte) h hb hs fun i hl => by
    show ((bytesV l).drop (i * 1)).take 1 = [.int .u8 l[i].toNat]
    have hi' : i < (bytesV l).length := by rw [bytesV_length]; exact hl
    rw [Nat.mul_one, List.drop_eq_getElem_cons hi', List.take_succ_cons, List.take_zero]
    simp [bytesV]
/-- What Encode does, in plain words. -/
def EncRes (w : World) (b : Bun) (e : Ending) (w' : World) : Prop :=
  Below w.heap.size w w' ∧ ((bunFault b ≠ 0 ∧ e = .returned (.tuple #[.slice none 0 0, errV (bunFault b)])) ∨
    (bunFault b = 0 ∧ ∃ u, e = .returned (.tuple #[u, .nilIface]) ∧ w'.ownsRow w.heap.size 5 1 u (bytesB b).length (bytesV (bytesB b))))
/-- Between two entries. -/
structure EncSt (w wr : World) (p : Nat) (u : Value) (S : List Ent) (L : List UInt8) : Prop where
  wr_ : Wr w.heap.size wr p L
  row : wr.ownsRow w.heap.size 32 2 u S.length (flatE S)
  below : Below w.heap.size w wr
theorem Wr.lt {base p : Nat} {w : World} {L : List UInt8} (h : Wr base w p L) : p < w.heap.size := let ⟨_, h1, _⟩ := h.at_; h1.lt
theorem EncSt.wrote {w wr W : World} {p : Nat} {u : Value} {S : List Ent} {L L' : List UInt8} (h : EncSt w wr p u S L) (hw : Wr w.heap.size W p L') (hf : Fr wr W (WSet w.heap.size p wr)) : EncSt w W p u S L' :=
  ⟨hw, WSet.own hf h.row (let ⟨_, h1, _⟩ := h.wr_.at_; own_blk_ne' h.row h1 (by decide)) (by decide), h.below.trans (WSet.below hf h.below.size)⟩
theorem EncSt.keep {w wr W : World} {p : Nat} {u : Value} {S : List Ent} {L : List UInt8} (h : EncSt w wr p u S L) (hb : Below wr.heap.size wr W) : EncSt w W p u S L :=
  ⟨h.wr_.keep hb, own_below h.row hb (Nat.le_refl _), h.below.trans (hb.mono h.below.size)⟩
def preB (t : ByteArray) (n : Nat) (S : List Ent) (j : Nat) : List UInt8 := magicB ++ (numB t.size 1 ++ bts t) ++ numB n 2 ++ (S.take j).flatMap entB
theorem entB_len {e : Ent} (hk : keyOk e.key = true) (ht : e.text.size ≤ 2000) : (entB e).length ≤ 2043 := by
  have := key_40 hk
  unfold entB txt1 txt2 be2
  simp [bts_len]; omega
theorem flat_len : ∀ (S : List Ent), (∀ e ∈ S, keyOk e.key = true ∧ e.text.size ≤ 2000) → (S.flatMap entB).length ≤ S.length * 2043
  | [], _ => by simp
  | e :: r, h => by
    rw [List.flatMap_cons, List.length_append, List.length_cons]
    have h1 := entB_len (h e List.mem_cons_self).1 (h e List.mem_cons_self).2
    have h2 := flat_len r fun x hx => h x (List.mem_cons_of_mem _ hx)
    omega
theorem preB_len {t : ByteArray} {n : Nat} {S : List Ent} (ht : t.size ≤ 200) (hS : S.length ≤ 100) (h : ∀ e ∈ S, keyOk e.key = true ∧ e.text.size ≤ 2000) (j : Nat) : (preB t n S j).length ≤ 210000 := by
  have h1 := flat_len (S.take j) fun e he => h e (List.mem_of_mem_take he)
  have h2 : (S.take j).length ≤ 100 := by rw [List.length_take]; omega
  have h3 : (S.take j).length * 2043 ≤ 100 * 2043 := Nat.mul_le_mul_right _ h2
  unfold preB
  simp only [List.length_append, numB_length, bts_len]
  have : magicB.length = 4 := rfl
  omega
theorem preB_succ (t : ByteArray) (n : Nat) (S : List Ent) (j : Nat) (h : j < S.length) : preB t n S (j + 1) = preB t n S j ++ (numB S[j].key.size 1 ++ bts S[j].key) ++ (numB S[j].text.size 2 ++ bts S[j].text) := by
  unfold preB
  rw [List.take_succ_eq_append_getElem h, List.flatMap_append]
  simp only [List.append_assoc, List.flatMap_cons, List.flatMap_nil, List.append_nil, numB_one, numB_two, entB, txt1, txt2, List.cons_append, List.nil_append]
theorem preB_end (t : ByteArray) (S : List Ent) : preB t S.length S S.length = bodyB t S := by
  unfold preB bodyB
  rw [List.take_length, numB_one, numB_two]
  simp only [List.append_assoc]
  rfl

set_option maxHeartbeats 3200000 in
set_option maxRecDepth 100000 in
theorem encode_any (b : Bun) (v : Value) (w : World) (h : BunIn w b v) (hm : MaxVar w) :
    Calls Tryz.prog 10 #[.agg #[.string b.tag, v]] w fun e w' => EncRes w b e w' := by
  have HB := Lib.hid h
  have HM := Lib.hid hm
  obtain ⟨lo, hl⟩ := h.lo
  obtain ⟨A, c, rfl, _⟩ := hl.form
  have HL := Lib.hid hl
  have HCk : Hid (∀ W, Below w.heap.size w W → Calls Tryz.prog 22 #[.agg #[.string b.tag, .slice A b.ents.length c]] W fun e w' => e = .returned (errV (bunFault b)) ∧ Below W.heap.size W w') := Lib.hid fun W hW => bunCheck_any b _ W (h.below hW) (hm.below hW)
  obtain ⟨bt, l⟩ := b
  dsimp only at *
  clear h hm hl
  go_enter Tryz.func10, Tryz.ntmps10
  go_wp2_with fail
  refine (HCk.out _ ((Below.refl _ w).alloc (Nat.le_refl _) _)).mono ?_
  clear HCk
  rintro e w1 ⟨rfl, hb1⟩
  have HB1 := Lib.hid (((Below.refl w.heap.size w).alloc (Nat.le_refl _) (.cells #[.string bt, .slice A l.length c] 24)).trans (hb1.mono (by simp)))
  have m1 := (Blk.new w 24 #[.string bt, .slice A l.length c]).below hb1 (by simp)
  have hs1 : w.heap.size + 1 ≤ w1.heap.size := by have := hb1.size; simpa using this
  clear hb1
  by_cases hf : bunFault ⟨bt, l⟩ = 0
  · have HF := Lib.hid hf
    have hR := (right_iff ⟨bt, l⟩).1 hf
    rw [hf, errV_zero]
    have HR := Lib.hid hR
    have c0 : w1.cell? ⟨w.heap.size, 0, none⟩ = some (.string bt) := (m1.cell 0).trans rfl
    have M1 := Lib.hid m1
    have hconv := Lib.run_convert_bytes_const (P := Tryz.prog) w1 53 5 #[.int .u8 76, .int .u8 71, .int .u8 66, .int .u8 49] 4 4 Tryz.underlying53 Tryz.underlying5
    have hlt1 : w.heap.size < w1.heap.size := by omega
    clear hf hR m1
    go_wp2_with fail
    have hts : bt.size ≤ 200 := tag_short HR.out.tag
    obtain ⟨W2, eW2⟩ : ∃ W2, W2 = ((w1.alloc (.cells #[.int .u8 76, .int .u8 71, .int .u8 66, .int .u8 49] 5 (4, 5))).alloc (.cells #[.slice (some ⟨w1.heap.size, 0, none⟩) 4 4] 53)) := ⟨_, rfl⟩
    obtain ⟨p, hp⟩ : ∃ p, p = w1.heap.size + 1 := ⟨_, rfl⟩
    have hb2 : Below w1.heap.size w1 W2 := by rw [eW2]; exact ((Below.refl _ _).alloc (Nat.le_refl _) _).alloc (by simp) _
    have hpW : p < W2.heap.size := by rw [eW2, hp]; simp
    have hWm : Wm w.heap.size W2 p magicB := by
      refine ⟨by omega, w1.heap.size, by omega, ?_, fun j u hj => ?_⟩
      · rw [eW2, hp]
        have := Blk.new (w1.alloc (.cells #[.int .u8 76, .int .u8 71, .int .u8 66, .int .u8 49] 5 (4, 5))) 53 #[.slice (some ⟨w1.heap.size, 0, none⟩) 4 4]
        rw [World.size_alloc] at this; exact this
      · rw [eW2, World.cell?_alloc_lt _ _ _ (by simp), World.cell?_alloc_mark]
        have hmb : bytesV magicB = [.int .u8 76, .int .u8 71, .int .u8 66, .int .u8 49] := rfl
        rw [hmb] at hj
        simpa using hj
    rw [← eW2, ← hp]
    have m2 := M1.out.below hb2 hlt1
    have HF1 := Lib.hid (wtext_first w.heap.size p bt magicB W2 hWm (by have := hb2.size; omega) (by decide) (by omega))
    have HB2 := Lib.hid (HB1.out.trans (hb2.mono (by omega)))
    have M2 := Lib.hid m2
    have hpne : w.heap.size ≠ p := by omega
    have hp1 : w1.heap.size < p := by omega
    clear eW2 hWm m2 hconv c0 hb2 hp
    refine HF1.out.mono ?_
    clear HF1
    rintro e w3 ⟨rfl, hw3, hf3, hs3⟩
    have m3 := WSet.blk hf3 M2.out hpne (by decide)
    have HW3 := Lib.hid hw3
    have HB3 := Lib.hid (HB2.out.trans (WSet.below hf3 HB2.out.size))
    have M3 := Lib.hid m3
    have c1 : w3.cell? ⟨w.heap.size, 1, none⟩ = some (.slice A l.length c) := (m3.cell 1).trans rfl
    have hlen : l.length ≤ 100 := HR.out.len
    have hwr : IntKind.u32.wrap (l.length : Int) = l.length := by rw [IntKind.wrap_u32']; omega
    clear hw3 hf3 m3
    go_wp2_with fail
    have hL1 : (magicB ++ (numB bt.size 1 ++ bts bt)).length ≤ 1000000 := by
      rw [List.length_append, List.length_append, numB_length, bts_len]
      have : magicB.length = 4 := rfl
      omega
    generalize hLe : magicB ++ (numB bt.size 1 ++ bts bt) = L1 at *
    have HLe := Lib.hid hLe
    clear hLe
    refine (number_any w.heap.size p l.length 2 L1 w3 HW3.out hs3 hL1 (by decide) (by decide)).mono ?_
    rintro e w4 ⟨rfl, hw4, hf4, hs4⟩
    have m4 := WSet.blk hf4 M3.out hpne (by decide)
    have HW4 := Lib.hid hw4
    have HB4 := Lib.hid (HB3.out.trans (WSet.below hf4 HB3.out.size))
    have c2 : w4.cell? ⟨w.heap.size, 1, none⟩ = some (.slice A l.length c) := (m4.cell 1).trans rfl
    clear hw4 hf4 m4 c1 HW3 HB3 M3
    go_wp2_with fail
    refine (valuesE_any A l.length c w4).mono ?_
    rintro e w5 ⟨rfl, rfl⟩
    have hb5 : Below w4.heap.size w4 (w4.alloc (.cells #[.slice A l.length c] 22)) := (Below.refl _ _).alloc (Nat.le_refl _) _
    have hsE := sortedE_any lo w4.heap.size A c l (by omega) HR.out.uniq (w4.alloc (.cells #[.slice A l.length c] 22)) (by simp) (by simp) ((HL.out.below Enc.ent_laws (HB4.out.trans (hb5.mono HB4.out.size))).mono Enc.ent_laws (Nat.le_refl _) (HB4.out.trans (hb5.mono HB4.out.size)).size)
    have HSE := Lib.hid hsE
    clear hsE hb5 c2
    go_wp2_with fail
    refine HSE.out.mono ?_
    clear HSE
    rintro e w6 ⟨u, rfl, hu6, hb6⟩
    have hSl : (srt l).length = l.length := srt_length HR.out.uniq
    have hb46 : Below w4.heap.size w4 w6 := ((Below.refl _ _).alloc (Nat.le_refl _) _).trans (hb6.mono (by simp))
    have hu7 : w6.ownsRow w.heap.size 32 2 u (srt l).length (flatE (srt l)) := by
      rw [hSl]; exact own_mono hu6 (by have := HB4.out.size; simp; omega)
    have HLe2 : Hid (L1 ++ numB l.length 2 = preB bt l.length (srt l) 0) := Lib.hid (by rw [← HLe.out]; unfold preB; simp)
    have D6 : Hid (EncSt w w6 p u (srt l) (preB bt l.length (srt l) 0)) := Lib.hid ⟨by rw [← HLe2.out]; exact HW4.out.keep hb46, hu7, HB4.out.trans (hb46.mono HB4.out.size)⟩
    have HSe : Hid (∀ e ∈ srt l, keyOk e.key = true ∧ e.text.size ≤ 2000) := Lib.hid fun e he => HR.out.each e ((mem_srt HR.out.uniq).1 he)
    have HPre : Hid (∀ j, (preB bt l.length (srt l) j).length ≤ 210000) := Lib.hid (preB_len hts (by omega) HSe.out)
    have HEnd : Hid (preB bt l.length (srt l) (srt l).length ++ numB (sumOf (preB bt l.length (srt l) (srt l).length)) 4 = bytesB ⟨bt, l⟩) := Lib.hid (by rw [← hSl, preB_end, numB_four]; rfl)
    obtain ⟨Au, cu, rfl, _⟩ := own_slice hu7
    generalize hS : srt l = S at *
    clear hu6 hb6 hb46 hu7 HLe2 HW4 hS
    go_wp2_with fail
    go_loopw [7, 28] (fun _ i wr => ∃ j : Nat, j ≤ S.length ∧ i = .int .i64 j ∧ EncSt w wr p (.slice Au S.length cu) S (preB bt l.length S j)) (fun _ i _ => S.length - (intOf i).toNat)
    case atStart => exact ⟨0, Nat.zero_le _, rfl, D6.out⟩
    case round =>
      clear D6
      obtain ⟨j, hj, rfl, hd⟩ := hrel
      have D := Lib.hid hd
      have hbs := hd.below.size
      have hplt := hd.wr_.lt
      by_cases hlt : j < S.length
      · obtain ⟨b, o, rfl, _, hbl, x0, x1⟩ := (ents_of_own hd.row (Nat.le_refl w.heap.size) (Nat.le_refl _)).entAt j hlt
        have HPs := Lib.hid (preB_succ bt l.length S j hlt)
        have hk40 : S[j].key.size ≤ 40 := key_40 (HSe.out _ (List.getElem_mem hlt)).1
        have ht20 : S[j].text.size ≤ 2000 := (HSe.out _ (List.getElem_mem hlt)).2
        generalize S[j].key = ky at *
        generalize S[j].text = tx at *
        have hplen := HPre.out j
        clear hd
        generalize hP : preB bt l.length S j = P at *
        have HP := Lib.hid hP
        clear hP
        have D1 : Hid (EncSt w (wr.alloc (.cells #[.string ky, .string tx] 32)) p (.slice (some ⟨b, o, none⟩) S.length cu) S P) := Lib.hid (D.out.keep ((Below.refl _ _).alloc (Nat.le_refl _) _))
        have MB := Lib.hid (Blk.new wr 32 #[.string ky, .string tx])
        clear D
        go_wp2_with fail
        clear x0 x1
        refine (wtext_any w.heap.size p 1 ky P _ D1.out.wr_ D1.out.below.size (by omega) (by decide) (by decide) (by omega)).mono ?_
        rintro e w7 ⟨rfl, hw7, hf7, hs7⟩
        have D7 := Lib.hid (D1.out.wrote hw7 hf7)
        have mb7 := WSet.blk hf7 MB.out (by omega) (by decide)
        have x1 : w7.cell? ⟨wr.heap.size, 1, none⟩ = some (.string tx) := (mb7.cell 1).trans rfl
        have hlen7 : (P ++ (numB ky.size 1 ++ bts ky)).length ≤ 900000 := by rw [List.length_append, List.length_append, numB_length, bts_len]; omega
        clear hw7 hf7 D1 MB mb7
        go_wp2_with fail
        refine (wtext_any w.heap.size p 2 tx _ w7 D7.out.wr_ hs7 hlen7 (by decide) (by decide) (by omega)).mono ?_
        rintro e w8 ⟨rfl, hw8, hf8, hs8⟩
        have D8 : Hid (EncSt w w8 p (.slice (some ⟨b, o, none⟩) S.length cu) S (preB bt l.length S (j + 1))) := Lib.hid (by rw [HPs.out]; exact D7.out.wrote hw8 hf8)
        clear hw8 hf8 D7 x1 hlen7
        go_wp2_with fail
        exact ⟨⟨j + 1, by omega, by go_num, D8.out⟩, by simp [intOf]; omega⟩
      · obtain rfl : j = S.length := by omega
        obtain ⟨V, hbox, hrow⟩ := hd.wr_.at_
        have hplen := HPre.out S.length
        obtain ⟨Av, cv, rfl, _⟩ := own_slice hrow
        have b0 : wr.cell? ⟨p, 0, none⟩ = some (.slice Av (preB bt l.length S S.length).length cv) := (hbox.cell 0).trans rfl
        have HSum := Lib.hid (sum_any _ _ _ wr (bytes_of_own hrow (Nat.le_refl w.heap.size) (Nat.le_refl _)) (by omega))
        generalize hP : preB bt l.length S S.length = P at *
        clear hd hrow hbox
        go_wp2_with fail
        refine HSum.out.mono ?_
        clear HSum
        rintro e w7 ⟨rfl, hb7⟩
        have D7 := Lib.hid (D.out.keep hb7)
        clear hb7 b0 D
        go_wp2_with fail
        refine (number_any w.heap.size p (sumOf P) 4 P w7 D7.out.wr_ D7.out.below.size (by omega) (by decide) (by decide)).mono ?_
        rintro e w8 ⟨rfl, hw8, hf8, hs8⟩
        have D8 : Hid (EncSt w w8 p (.slice Au S.length cu) S (bytesB ⟨bt, l⟩)) := Lib.hid (by rw [← HEnd.out]; exact D7.out.wrote hw8 hf8)
        obtain ⟨V8, hbox8, hrow8⟩ := D8.out.wr_.at_
        obtain ⟨A8, c8, rfl, _⟩ := own_slice hrow8
        have b8 : w8.cell? ⟨p, 0, none⟩ = some (.slice A8 (bytesB ⟨bt, l⟩).length c8) := (hbox8.cell 0).trans rfl
        have HR8 := Lib.hid hrow8
        clear hw8 hf8 D7 hbox8 hrow8
        go_wp2_with fail
        go_ret2
        exact ⟨D8.out.below, .inr ⟨HF.out, _, rfl, HR8.out⟩⟩
  · rw [errV_ne hf]
    go_wp2_with fail
    go_ret2
    exact ⟨HB1.out, .inl ⟨hf, by rw [errV_ne hf]; rfl⟩⟩
end Go.Proofs.YtmpjfomfibkbnaaGreatDoor
