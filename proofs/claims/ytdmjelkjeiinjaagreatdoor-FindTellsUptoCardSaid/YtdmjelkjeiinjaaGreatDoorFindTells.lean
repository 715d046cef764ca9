/- The walk of linguisterlaw4.FindTells. -/
import Derived.Test.YtdmjelkjeiinjaaGreatDoorRefH
import Derived.Test.YtdmjelkjeiinjaaGreatDoorSmall
import Derived.Test.YtdmjelkjeiinjaaGreatDoorTold
namespace Go.Proofs.YtdmjelkjeiinjaaGreatDoor
open Go.RowKit

theorem chain_hit {l : List Bun} {t : Tg} {key : ByteArray} {k i : Nat} {s : ByteArray} (h : findChain l t key = some (k, i, s)) :
    ∃ (hi : i < l.length) (k5 : Nat) (_ : entIdx l[i].ents key = some k5) (h5 : k5 < l[i].ents.length), l[i].ents[k5].text = s := by
  obtain ⟨hk, _, h1⟩ := firstS_some h
  rw [tagAt_is k hk] at h1
  obtain ⟨hi, _, h2⟩ := firstS_some h1
  rw [hit_idx i hi] at h2
  split at h2
  · rw [Option.bind_eq_some_iff] at h2
    obtain ⟨k5, h3, h4⟩ := h2
    rw [Option.map_eq_some_iff] at h4
    obtain ⟨e, h5, h6⟩ := h4
    obtain ⟨h7, h8⟩ := List.getElem?_eq_some_iff.1 h5
    exact ⟨hi, k5, h3, h7, by rw [h8]; exact h6⟩
  · cases h2
theorem foundA {l : List Bun} {name key : ByteArray} (h : loadFault l ≠ 0) : findIn l name key = ⟨loadFault l, 0, ByteArray.empty⟩ := by unfold findIn; rw [if_neg h]
theorem foundB {l : List Bun} {name key : ByteArray} (h : loadFault l = 0) (h2 : isTag name = false) : findIn l name key = ⟨3, 0, ByteArray.empty⟩ := by unfold findIn; rw [if_pos h, h2]; rfl
theorem foundC {l : List Bun} {name key : ByteArray} (h : loadFault l = 0) (h2 : isTag name = true) {t : Tg} (ht : parseTag name = some t) :
    findIn l name key = match findChain l t key with | some (_, i, s) => ⟨0, i, s⟩ | none => ⟨2, 0, ByteArray.empty⟩ := by
  unfold findIn
  rw [if_pos h, if_pos h2, ht]
  rfl

set_option maxHeartbeats 6400000 in
set_option maxRecDepth 100000 in
theorem findTells_any (l : List Bun) (vl : Value) (tag key : ByteArray) (w : World) (h : BunsIn w vl l) (hn : tag.size < 4294967281) (hm : MaxVar w) (hg : ErrVar w) :
    Calls Tryz.prog 3 #[vl, .string tag, .string key] w fun e w' => e = .returned (.bool true) ∧ Below w.heap.size w w' := by
  have HL := Lib.hid h
  have HM := Lib.hid hm
  have HG := Lib.hid hg
  have hlen : l.length * 40 ≤ 140737488355328 := h.len
  have HSm := Lib.hid (small_any w)
  have HFin : Hid (∀ W, Below w.heap.size w W → Calls Tryz.prog 4 #[vl, .string tag, .string key] W fun e w' => Below W.heap.size W w' ∧ e = .returned (.tuple #[.int .i64 (findIn l tag key).at_, .string (findIn l tag key).text, errV (findIn l tag key).err])) := Lib.hid fun W hW => find_any l vl tag key W (HL.out.below hW) hn (HM.out.below hW)
  have HLoad : Hid (∀ W, Below w.heap.size w W → Calls Tryz.prog 6 #[vl] W fun e w' => e = .returned (.int .i64 (loadFault l)) ∧ Below W.heap.size W w') := Lib.hid fun W hW => qloadfault_any l vl W (HL.out.below hW)
  have HTag : Hid (∀ W, Calls Tryz.prog 7 #[.string tag] W fun e w' => e = .returned (.bool (!isTag tag)) ∧ Below W.heap.size W w') := Lib.hid fun W => qtagfault_any tag W hn
  have HTof : Hid (∀ W, Calls Tryz.prog 8 #[.string tag] W fun e w' => Below W.heap.size W w' ∧
      ((parseTag tag = none ∧ e = .returned (.tuple #[.agg #[.string ⟨#[]⟩, .string ⟨#[]⟩, .string ⟨#[]⟩, .slice none 0 0], .bool false])) ∨
        ∃ t v, parseTag tag = some t ∧ e = .returned (.tuple #[.agg #[.string t.lang, .string t.script, .string t.region, v], .bool true]) ∧ ListOk Enc.str w' W.heap.size w'.heap.size v t.vars)) := Lib.hid fun W => rtagof_any tag W hn
  have HSe : Hid (∀ n W, Below w.heap.size w W → Calls Tryz.prog 11 #[errV n, .int .i64 n] W fun e w' => e = .returned (.bool true) ∧ Below W.heap.size W w') := Lib.hid fun n W hW => by
    have h := serror_any n n W (hg.below hW hg.lt)
    rwa [show decide (n = n) = true from by simp] at h
  have HA : Hid (loadFault l ≠ 0 → findIn l tag key = ⟨loadFault l, 0, ByteArray.empty⟩) := Lib.hid fun h => foundA h
  have HB : Hid (loadFault l = 0 → isTag tag = false → findIn l tag key = ⟨3, 0, ByteArray.empty⟩) := Lib.hid fun h h2 => foundB h h2
  have HC : Hid (loadFault l = 0 → isTag tag = true → ∀ t, parseTag tag = some t → findIn l tag key = match findChain l t key with | some (_, i, s) => ⟨0, i, s⟩ | none => ⟨2, 0, ByteArray.empty⟩) := Lib.hid fun h h2 t ht => foundC h h2 ht
  have HIs : Hid (isTag tag = true → ∃ t, parseTag tag = some t ∧ tagFault t = 0) := Lib.hid fun h => let ⟨t, h1, _⟩ := isTag_some h; ⟨t, h1, parse_fault h1⟩
  obtain ⟨lo, hlo⟩ := h.lo
  obtain ⟨A, c, rfl, hlc⟩ := hlo.form
  generalize isTag tag = it at *
  generalize loadFault l = LF at *
  generalize hR : findIn l tag key = R at *
  clear hR h hm hg hlo hn
  obtain ⟨Re, Ra, Rt⟩ := R
  dsimp only at HFin
  go_enter Tryz.func3, Tryz.ntmps3
  go_wp2_with fail
  refine HSm.out.mono ?_
  clear HSm
  rintro e w1 ⟨hb1, A1, c1, rfl, hl1⟩
  have HS1 := Lib.hid (smallIn hl1)
  have HB1 := Lib.hid hb1
  have HBa : Hid (Below w.heap.size w (w1.alloc (.cells #[.string en, .slice A1 1 c1] 29))) := Lib.hid (hb1.alloc hb1.size _)
  have HF1 := Lib.hid (find_any [smallBun] _ deT hiK _ HS1.out (by decide +kernel) (HM.out.below HBa.out))
  rw [small_err, small_at, small_txt, errV_zero] at HF1
  clear hb1 hl1 HS1
  go_wp2_with fail
  refine HF1.out.mono ?_
  clear HF1
  rintro e w2 ⟨hb2, rfl⟩
  have HB2 := Lib.hid (HBa.out.trans (hb2.mono HBa.out.size))
  have hs2 := HB2.out.size
  clear hb2 HB1 HBa
  have hhello : (helloT.toList == [104, 101, 108, 108, 111, 32, 123, 110, 97, 109, 101, 125]) = true := by decide +kernel
  go_wp2_with fail
  refine (HLoad.out _ HB2.out).mono ?_
  clear HLoad
  rintro e w3 ⟨rfl, hb3⟩
  have HB3 := Lib.hid (HB2.out.trans (hb3.mono hs2))
  have hs3 := HB3.out.size
  clear hb3 HB2
  by_cases hL : LF = 0
  · subst hL
    have HB' := Lib.hid (HB.out rfl)
    have HC' := Lib.hid (HC.out rfl)
    clear HA HB HC
    go_wp2_with fail
    refine (HTag.out _).mono ?_
    clear HTag
    rintro e w4 ⟨rfl, hb4⟩
    have HB4 := Lib.hid (HB3.out.trans (hb4.mono hs3))
    have hs4 := HB4.out.size
    clear hb4 HB3
    cases it with
    | false =>
      have hR := HB'.out rfl
      injection hR with h1 h2 h3
      subst h1; subst h2; subst h3
      clear HB' HC' HIs HTof
      have HS := Lib.hid (HSe.out 3)
      generalize errV 3 = E at *
      go_wp2_with fail
      refine (HFin.out _ HB4.out).mono ?_
      rintro e w5 ⟨hb5, rfl⟩
      have HB5 := Lib.hid (HB4.out.trans (hb5.mono hs4))
      clear hb5
      go_wp2_with fail
      refine (HS.out _ HB5.out).mono ?_
      rintro e w6 ⟨rfl, hb6⟩
      have HB6 := Lib.hid (HB5.out.trans (hb6.mono HB5.out.size))
      clear hb6
      go_wp2_with fail
      go_ret
      exact ⟨rfl, HB6.out⟩
    | true =>
      obtain ⟨t, ht, hf⟩ := HIs.out rfl
      have HR := Lib.hid (HC'.out rfl t ht)
      clear HB' HC' HIs
      go_wp2_with fail
      refine (HTof.out _).mono ?_
      clear HTof
      rintro e w5 ⟨hb5, ⟨hnn, _⟩ | ⟨t', v, ht', rfl, hvl⟩⟩
      · rw [ht] at hnn; cases hnn
      · obtain rfl : t = t' := by rw [ht] at ht'; injection ht'
        have HB5 := Lib.hid (HB4.out.trans (hb5.mono hs4))
        have hs5 := HB5.out.size
        have HFi : Hid (∀ W, Below w5.heap.size w5 W → Calls Tryz.prog 9 #[.slice A l.length c, .agg #[.string t.lang, .string t.script, .string t.region, v], .string key] W fun e w' => e = .returned (.int .i64 (findI l t key)) ∧ Below W.heap.size W w') := Lib.hid fun W hW =>
          findin_any l _ t v key W w4.heap.size (HL.out.below (HB5.out.trans (hW.mono hs5))) hf ((hvl.below Enc.str_laws hW).mono Enc.str_laws (Nat.le_refl _) hW.size)
        obtain ⟨A7, c7, rfl, _⟩ := hvl.form
        clear hb5 hvl ht hf
        cases hfc : findChain l t key with
        | none =>
          have hF : findI l t key = -1 := by unfold findI; rw [hfc]
          rw [hF] at HFi
          have hR := HR.out
          rw [hfc] at hR
          injection hR with h1 h2 h3
          subst h1; subst h2; subst h3
          obtain ⟨tl, ts, tr, tv⟩ := t
          dsimp only at HFi ⊢
          clear hfc hF HR
          go_wp2_with fail
          refine (HFi.out _ ((Below.refl _ _).alloc (Nat.le_refl _) _)).mono ?_
          clear HFi
          rintro e w7 ⟨rfl, hb7⟩
          have HBx := Lib.hid (HB5.out.trans ((((Below.refl w5.heap.size w5).alloc (Nat.le_refl _) _).trans (hb7.mono (by simp))).mono hs5))
          clear hb7
          have HS := Lib.hid (HSe.out 2)
          generalize errV 2 = E at *
          go_wp2_with fail
          refine (HFin.out _ HBx.out).mono ?_
          rintro e w8 ⟨hb8, rfl⟩
          have HB8 := Lib.hid (HBx.out.trans (hb8.mono HBx.out.size))
          clear hb8
          go_wp2_with fail
          refine (HS.out _ HB8.out).mono ?_
          rintro e w9 ⟨rfl, hb9⟩
          have HB9 := Lib.hid (HB8.out.trans (hb9.mono HB8.out.size))
          clear hb9
          go_wp2_with fail
          go_ret
          exact ⟨rfl, HB9.out⟩
        | some r =>
          obtain ⟨k, i, s⟩ := r
          obtain ⟨hi, k5, hix, h5, hs⟩ := chain_hit hfc
          have hF : findI l t key = (i : Int) := by unfold findI; rw [hfc]
          rw [hF] at HFi
          have hR := HR.out
          rw [hfc] at hR
          injection hR with h1 h2 h3
          have h2 := h2.symm
          have h3 := h3.symm
          subst h1; subst h2; subst h3
          obtain ⟨tl, ts, tr, tv⟩ := t
          dsimp only at HFi ⊢
          have HIx := Lib.hid hix
          clear hfc hF HR hix
          go_wp2_with fail
          refine (HFi.out _ ((Below.refl _ _).alloc (Nat.le_refl _) _)).mono ?_
          clear HFi
          rintro e w7 ⟨rfl, hb7⟩
          have HBx := Lib.hid (HB5.out.trans ((((Below.refl w5.heap.size w5).alloc (Nat.le_refl _) _).trans (hb7.mono (by simp))).mono hs5))
          obtain ⟨b, o, V, rfl, hbl, y0, y1, hin⟩ := (HL.out.below HBx.out).bunAt i hi
          obtain ⟨elo, hel⟩ := hin.lo
          have hbll := hin.len
          obtain ⟨A10, c10, rfl, _⟩ := hel.form
          obtain ⟨b5, o5, rfl, _, _, z0, z1⟩ := hel.entAt k5 h5
          have HEn : Hid (∀ n, Calls Tryz.prog 10 #[.slice (some ⟨b5, o5, none⟩) l[i].ents.length c10, .string key] (w7.drewN n) fun e w' => e = .returned (.int .i64 k5) ∧ w7.drewN n = w') := Lib.hid fun n => by
            have h := entat_any _ _ key elo w7.heap.size (w7.drewN n) hel (by omega)
            rwa [HIx.out] at h
          rw [hs] at z1
          have i1 : (0 : Int) ≤ (i : Int) := Int.natCast_nonneg i
          have i2 : (i : Int) < (l.length : Int) := by omega
          have i3 : (0 : Int) ≤ (k5 : Int) := Int.natCast_nonneg k5
          have i4 : (k5 : Int) < (l[i].ents.length : Int) := by omega
          have hss : (s.toList == s.toList) = true := by simp
          clear hb7 hel hin HIx hs z0 y0
          generalize l[i].ents.length = m at *
          go_wp2_with fail
          go_quiet ((go_at_call 10; first | exact quiet_left (HEn.out _) | exact quiet_add_left (HEn.out _) | exact Calls.quiet_of_same (HEn.out 0)))
          have HBx := Lib.hid (below_drewN HBx.out nq)
          clear y1 z1 i1 i2 i3 i4
          have HS := Lib.hid (HSe.out 0)
          rw [errV_zero] at HS HFin
          go_wp2_with fail
          refine (HFin.out _ HBx.out).mono ?_
          rintro e w8 ⟨hb8, rfl⟩
          have HB8 := Lib.hid (HBx.out.trans (hb8.mono HBx.out.size))
          clear hb8
          go_wp2_with fail
          refine (HS.out _ HB8.out).mono ?_
          rintro e w9 ⟨rfl, hb9⟩
          have HB9 := Lib.hid (HB8.out.trans (hb9.mono HB8.out.size))
          clear hb9
          go_wp2_with fail
          go_ret
          exact ⟨rfl, HB9.out⟩
  · have hR := HA.out hL
    injection hR with h1 h2 h3
    subst h1; subst h2; subst h3
    clear HA HB HC HIs HTof HTag
    have HBx := Lib.hid HB3.out
    have hLF : (Re == 0) = false := by simpa using hL
    have HS := Lib.hid (HSe.out Re)
    generalize errV Re = E at *
    go_wp2_with fail
    refine (HFin.out _ HBx.out).mono ?_
    rintro e w8 ⟨hb8, rfl⟩
    have HB8 := Lib.hid (HBx.out.trans (hb8.mono HBx.out.size))
    clear hb8
    go_wp2_with fail
    refine (HS.out _ HB8.out).mono ?_
    rintro e w9 ⟨rfl, hb9⟩
    have HB9 := Lib.hid (HB8.out.trans (hb9.mono HB8.out.size))
    clear hb9
    go_wp2_with fail
    go_ret
    exact ⟨rfl, HB9.out⟩
end Go.Proofs.YtdmjelkjeiinjaaGreatDoor
