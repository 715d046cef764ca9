/- The clock cache's Put, where the cache is full. -/
import Derived.Test.YtolgkepkdidjcaaDoorClockC
import Derived.Deep.LoopGhost
namespace Go.Proofs.YtolgkepkdidjcaaDoor
open Go.RowKit

theorem Cach.mark0 {w : World} {bc bp hand : Nat} {ps : List Plc} (h : Cach w bc bp ps hand) (hl : hand < ps.length) : Cach (w.setCell ⟨bp, hand * 4 + 3, none⟩ (.bool false)) bc bp (unmark ps hand) hand := by
  have e : unmark ps hand = ps.set hand (PlcMark ps[hand] false) := by unfold unmark; rw [List.getElem?_eq_getElem hl]
  rw [e]
  exact h.set1 hand 3 _ _ hl (by omega) rfl

set_option maxHeartbeats 1600000 in
theorem put_full (bc bp : Nat) (ps : List Plc) (hand : Nat) (k v : ByteArray) (w : World) (hc : Cach w bc bp ps hand) (hn : ps.length ≤ 50) (hh : hand < ps.length) (hs : spot ps k = none)
    (qs : List Plc) (h' : Nat) (hq : sweep (marks ps) ps hand = (qs, h')) (hl : h' < qs.length) (hql : qs.length = ps.length) :
    Calls Tryd.prog 9 #[.pointer (some ⟨bc, 0, none⟩), .string k, .string v] w fun e w' => e = .returned (.tuple #[.string qs[h'].key, .bool true]) ∧ Cach w' bc bp (qs.set h' (fresh k v)) ((h' + 1) % ps.length) ∧ Fr w w' (CS bc bp) := by
  have h := at_any bc bp ps hand k w hc hn
  unfold spot at hs
  obtain ⟨hf, hs⟩ := Option.or_eq_none_iff.1 hs
  rw [hf] at h
  have H := Lib.hid h
  have H2 : Hid (∀ w1, Below w.heap.size w w1 → Calls Tryd.prog 17 #[.pointer (some ⟨bc, 0, none⟩)] w1 fun e w' => e = .returned (.int .i64 (idx none)) ∧ Below w1.heap.size w1 w') := by
    intro w1 hb
    have := free_any bc bp ps hand w1 (hc.below hb hc.lt.1 hc.lt.2) hn
    rw [hs] at this
    exact this
  have HQ := Lib.hid hq
  have HL := Lib.hid hql
  clear h hf hs hq hql
  go_enter Tryd.func9, Tryd.ntmps9
  go_wp2_with (first | (go_at_call 16; refine H.out.mono ?_; rintro e w1 ⟨rfl, hb⟩; simp only [idx]) | (go_at_call 17; refine (H2.out _ (by assumption)).mono ?_; rintro e w2 ⟨rfl, hb2⟩; simp only [idx]; have hb3 := hb.trans (hb2.mono hb.size); have hc1 := hc.below hb3 hc.lt.1 hc.lt.2; clear hb hb2))
  go_loopg [] (marks ps) (fun g wr => ∃ (ps' : List Plc) (hd f : Nat), marks ps' = g ∧ g ≤ f ∧ ps'.length = ps.length ∧ hd < ps'.length ∧ sweep f ps' hd = (qs, h') ∧ Cach wr bc bp ps' hd ∧ Fr w wr (CS bc bp))
  case atStart => exact ⟨ps, hand, marks ps, rfl, Nat.le_refl _, rfl, hh, HQ.out, hc1, Fr.of_below hb3 _⟩
  case round =>
    obtain ⟨ps', hd, f, hg, hf, hlen, hhd, hsw, hcr, hfr⟩ := hrel
    obtain ⟨c0, d0⟩ := hcr.head
    obtain ⟨c1, c2, c3, c4⟩ := hcr.row hd hhd
    have f1 := hcr.frozen.2
    have f2 := hcr.frozen.1
    have hne := hcr.ne
    have e1 : ((hd : Int) + 1) % (ps.length : Int) = ((hd + 1) % ps.length : Nat) := by push_cast; rfl
    have E1 := Lib.hid e1
    rw [hlen] at c0
    have hhn : hd < ps.length := by omega
    have HG := Lib.hid hg
    have HW := Lib.hid hsw
    have HN := Lib.hid hlen
    clear hg hsw e1 hlen
    have hmk : markAt ps' hd = ps'[hd].mark := by unfold markAt; rw [List.getElem?_eq_getElem hhd]
    have HM := Lib.hid hmk
    clear hmk
    cases hm : ps'[hd].mark with
    | true =>
      rw [hm] at c4
      have hpos : 0 < gk := by rw [← HG.out]; exact List.countP_pos_iff.2 ⟨_, List.getElem_mem hhd, hm⟩
      go_wp2
      go_quiet (fail)
      go_wp2
      go_region
      go_wp2
      go_region
      go_wp2
      go_roundg (gk - 1)
      case rel =>
        have hu : unmark ps' hd = ps'.set hd (PlcMark ps'[hd] false) := by unfold unmark; rw [List.getElem?_eq_getElem hhd]
        refine ⟨unmark ps' hd, (hd + 1) % ps.length, f - 1, ?_, by omega, by rw [unmark_length]; exact HN.out, by rw [unmark_length]; have := HN.out; rw [this]; exact Nat.mod_lt _ (by omega), ?_, ?_, ?_⟩
        · have := marks_set ps' hd hhd hm
          rw [hu]; have := HG.out; omega
        · have := HW.out
          obtain ⟨f', rfl⟩ : ∃ f', f = f' + 1 := ⟨f - 1, by omega⟩
          unfold sweep at this
          rw [HM.out, hm, if_pos rfl, HN.out] at this
          exact this
        · rw [E1.out]
          exact ((hcr.drewN _).mark0 hhd).setHand _
        · exact (((hfr.drewN _).setCell (.inl (.inr rfl)) _).setCell (.inl (.inl rfl)) _).drew
      case measure => omega
    | false =>
      rw [hm] at c4
      have hst := HW.out
      rw [sweep_stop _ _ _ (HM.out.trans hm)] at hst
      injection hst with e1 e2
      subst e1; subst e2
      go_wp2
      go_quiet (fail)
      go_wp2
      go_quiet (fail)
      go_wp2
      go_region
      go_wp2
      go_region
      go_wp2
      go_ret2
      rw [E1.out]
      have A := fun n => (hcr.drewN n).put hd hhd (fresh k v)
      simp only [fresh] at A
      refine ⟨rfl, ?_, ?_⟩
      · exact ((A _).setHand _).drew
      · exact ((fr_put (hfr.drewN _) _ _ _ _ _ _ _ _).setCell (.inl (.inl rfl)) _).drew
end Go.Proofs.YtolgkepkdidjcaaDoor
