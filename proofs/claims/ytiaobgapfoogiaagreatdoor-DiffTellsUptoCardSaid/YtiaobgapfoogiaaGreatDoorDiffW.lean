/- The walk of package diff: words, both. -/
import Derived.Test.YtiaobgapfoogiaaGreatDoorMapW
set_option linter.unusedSimpArgs false
set_option linter.unusedVariables false
namespace Go.Proofs.YtiaobgapfoogiaaGreatDoor
open Go.RowKit Go.Maps

theorem foldPut_len : ∀ (l S : List Ent), (l.foldl putE S).length ≤ S.length + l.length
  | [], S => Nat.le_refl _
  | a :: r, S => by
    have h := foldPut_len r (putE S a)
    have h1 : (putE S a).length ≤ S.length + 1 := by
      unfold putE
      rw [(insE_perm a _).length_eq, List.length_cons]
      exact Nat.succ_le_succ (List.length_filter_le _ _)
    rw [List.foldl_cons, List.length_cons]; omega
def srtN (l : List Ent) (j : Nat) : List Ent := srt (l.take j)
theorem srtN_zero (l : List Ent) : toD (srtN l 0) = .map [] := rfl
theorem srtN_succ (l : List Ent) (j : Nat) (hj : j < l.length) : toD (srtN l (j + 1)) = (toD (srtN l j)).put (.string (bts l[j].key)) (.lit (.string (bts l[j].text))) := by
  rw [toD_put]
  unfold srtN srt
  rw [List.take_succ_eq_append_getElem hj, List.foldl_append]; rfl

set_option maxHeartbeats 1600000 in
set_option maxRecDepth 100000 in
theorem words_any (b : Bun) (v : Value) (w : World) (h : BunIn w b v) (hl : b.ents.length ≤ 1000000) (hs : ∀ e ∈ b.ents, e.key.size ≤ maxLen ∧ e.text.size ≤ maxLen) :
    Calls Tryz.prog 23 #[.agg #[.string b.tag, v]] w fun e w' => Below w.heap.size w w' ∧ ∃ mb, e = .returned (.map (some mb)) ∧ w.heap.size ≤ mb ∧ OwnsW w' mb b.ents.length (srt b.ents) := by
  have hmm := @run_makeMap Tryz.prog
  have HL : Hid (∀ W, Below w.heap.size w W → ListOk Enc.ent W (Classical.choose h.lo) w.heap.size v b.ents) := Lib.hid fun W hW => (Classical.choose_spec h.lo).keep Enc.ent_laws (Alk.mono (Alk.of_below hW) (Nat.zero_le _) (Nat.le_refl _))
  have HE := Lib.hid hs
  obtain ⟨A, c, hv, _⟩ := (Classical.choose_spec h.lo).form
  subst hv
  generalize Classical.choose h.lo = lo at HL
  obtain ⟨bt, l⟩ := b
  dsimp only at HL HE hl ⊢
  clear h hs
  go_enter Tryz.func23, Tryz.ntmps23
  go_wp2_with fail
  obtain ⟨W1, eW1⟩ : ∃ W1, W1 = (w.alloc (.cells #[.string bt, .slice A l.length c] 24)).alloc (.map #[] 0) := ⟨_, rfl⟩
  have HO0 : Hid (OwnsW W1 (w.heap.size + 1) 0 []) := Lib.hid (by
    have := World.ownsMap_made (H := Unit) (w.alloc (.cells #[.string bt, .slice A l.length c] 24)) Tryz.prog 9 (plainElem (H := Unit) Tryz.prog 9)
    rw [World.size_alloc] at this
    rw [eW1]; exact this)
  have HB1 : Hid (Below w.heap.size w W1) := Lib.hid (by rw [eW1]; exact ((Below.refl _ _).alloc (Nat.le_refl _) _).alloc (by simp) _)
  have hs1 : w.heap.size + 2 ≤ W1.heap.size := by rw [eW1]; simp
  rw [← eW1]
  clear eW1
  go_loopw [5, 10] (fun _ i wr => ∃ j : Nat, j ≤ l.length ∧ i = .int .i64 j ∧ OwnsW wr (w.heap.size + 1) j (srtN l j) ∧ Below w.heap.size w wr ∧ W1.heap.size ≤ wr.heap.size) (fun _ i _ => l.length - (intOf i).toNat)
  case atStart => exact ⟨0, Nat.zero_le _, rfl, HO0.out, HB1.out, Nat.le_refl _⟩
  case round =>
    obtain ⟨j, hj, rfl, hown, hbr, hsz⟩ := hrel
    have HO := Lib.hid hown
    have HBr := Lib.hid hbr
    have hbs := hbr.size
    clear hown hbr
    by_cases hlt : j < l.length
    · obtain ⟨eb, eo, rfl, p1, p2, x0, x1⟩ := (HL.out wr HBr.out).entAt j hlt
      have hes := HE.out _ (List.getElem_mem hlt)
      have HSu := Lib.hid (srtN_succ l j hlt)
      generalize l[j] = e at *
      obtain ⟨ky, tx⟩ := e
      dsimp only at x0 x1 hes HSu
      have HK := Lib.hid (key_str hes.1)
      have HT := Lib.hid (plainElem_string (H := Unit) (P := Tryz.prog) Tryz.underlying9 hes.2)
      go_wp2_with (at_mapUpdate; refine wpList_mapUpdate_own _ rfl _ _ _ 53 rfl 9 9 lawS Tryz.underlying53 (plainElem (H := Unit) Tryz.prog 9) (w.heap.size + 1) j _ rfl (HO.out.alloc _) (by unfold maxLen; omega) _ _ _ rfl rfl HK.out _ [] HT.out ?_)
      intro w4 hown4 hgrow4
      have HB4 : Hid (Below w.heap.size w w4) := Lib.hid ((HBr.out.alloc hbs _).grown hgrow4 (by simp; omega) (fun k hk => by cases hk; omega))
      have HO4 : Hid (OwnsW w4 (w.heap.size + 1) (j + 1) (srtN l (j + 1))) := Lib.hid (by
        show w4.ownsMap _ _ _ _ _ (toD (srtN l (j + 1)))
        rw [HSu.out]; exact hown4)
      have hs4 : W1.heap.size ≤ w4.heap.size := by have := hgrow4.size; simp only [World.size_alloc] at this; omega
      clear hown4 hgrow4
      go_wp2_with fail
      exact ⟨⟨j + 1, by omega, by go_num, HO4.out, HB4.out, hs4⟩, by simp [intOf]; omega⟩
    · obtain rfl : j = l.length := by omega
      go_wp2_with fail
      go_ret
      refine ⟨HBr.out, w.heap.size + 1, rfl, Nat.le_succ _, ?_⟩
      have := HO.out
      unfold srtN at this
      rwa [List.take_length] at this

def bothFault (a b : Bun) : Int := if bunFault a = 0 then bunFault b else bunFault a
set_option maxHeartbeats 800000 in
theorem bothBun_any (a b : Bun) (u v : Value) (w : World) (ha : BunIn w a u) (hb : BunIn w b v) (hm : MaxVar w) :
    Calls Tryz.prog 22 #[.agg #[.string a.tag, u], .agg #[.string b.tag, v]] w fun e w' => Below w.heap.size w w' ∧ e = .returned (errV (bothFault a b)) := by
  have HA : Hid (∀ W, Below w.heap.size w W → Calls Tryz.prog 35 #[.agg #[.string a.tag, u]] W fun e w' => e = .returned (errV (bunFault a)) ∧ Below W.heap.size W w') := Lib.hid fun W hW => bunCheck_any a u W (ha.below hW) (hm.below hW)
  have HB : Hid (∀ W, Below w.heap.size w W → Calls Tryz.prog 35 #[.agg #[.string b.tag, v]] W fun e w' => e = .returned (errV (bunFault b)) ∧ Below W.heap.size W w') := Lib.hid fun W hW => bunCheck_any b v W (hb.below hW) (hm.below hW)
  have HF : Hid (bothFault a b = if bunFault a = 0 then bunFault b else bunFault a) := Lib.hid rfl
  obtain ⟨_, hla⟩ := ha.lo
  obtain ⟨_, hlb⟩ := hb.lo
  obtain ⟨A, c, rfl, _⟩ := hla.form
  obtain ⟨B, d, rfl, _⟩ := hlb.form
  obtain ⟨at_, al⟩ := a
  obtain ⟨bt, bl⟩ := b
  dsimp only at HA HB ⊢
  generalize bunFault ⟨at_, al⟩ = fa at *
  generalize bunFault ⟨bt, bl⟩ = fb at *
  generalize bothFault ⟨at_, al⟩ ⟨bt, bl⟩ = F at *
  clear ha hb hla hlb hm
  go_enter Tryz.func22, Tryz.ntmps22
  go_wp2_with fail
  have hb2 : Below w.heap.size w ((w.alloc (.cells #[.string at_, .slice A al.length c] 24)).alloc (.cells #[.string bt, .slice B bl.length d] 24)) := ((Below.refl _ _).alloc (Nat.le_refl _) _).alloc (by simp) _
  have m2 : Blk ((w.alloc (.cells #[.string at_, .slice A al.length c] 24)).alloc (.cells #[.string bt, .slice B bl.length d] 24)) (w.heap.size + 1) 24 #[.string bt, .slice B bl.length d] := by
    have := Blk.new (w.alloc (.cells #[.string at_, .slice A al.length c] 24)) 24 #[.string bt, .slice B bl.length d]
    rwa [World.size_alloc] at this
  have HM2 := Lib.hid m2
  have HB2 := Lib.hid hb2
  clear m2 hb2
  refine (HA.out _ HB2.out).mono ?_
  clear HA
  rintro e w1 ⟨rfl, hb1⟩
  have HM1 := Lib.hid (HM2.out.below hb1 HM2.out.lt)
  have HB1 := Lib.hid (HB2.out.trans (hb1.mono HB2.out.size))
  clear hb1
  have k0 := HM1.out.cell 0
  have k1 := HM1.out.cell 1
  simp at k0 k1
  by_cases hf : fa = 0
  · subst hf
    rw [if_pos rfl] at HF
    rw [errV_zero]
    go_wp2_with fail
    refine (HB.out _ HB1.out).mono ?_
    rintro e w3 ⟨rfl, hb3⟩
    have HB3 := Lib.hid (HB1.out.trans (hb3.mono HB1.out.size))
    clear hb3
    go_wp2_with fail
    go_ret
    exact ⟨HB3.out, by rw [HF.out]; rfl⟩
  · rw [if_neg hf] at HF
    have HE := Lib.hid (errV_ne hf)
    rw [errV_ne hf]
    clear hf
    go_wp2_with fail
    go_ret
    exact ⟨HB1.out, by rw [HF.out, HE.out]; rfl⟩
end Go.Proofs.YtiaobgapfoogiaaGreatDoor
