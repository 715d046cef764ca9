/- The walk of package store: Pin, Free. -/
import Derived.Test.YtboilcfeegigcaaGreatDoorStoreN
namespace Go.Proofs.YtboilcfeegigcaaGreatDoor
open Go.RowKit Go.Maps

/-- a version held otherwise -/
def holdV (vs : List VR) (i n : Nat) (h : i < vs.length) : List VR := vs.set i ⟨vs[i].blk, n, vs[i].buns⟩
theorem holdV_len (vs : List VR) (i n : Nat) (h : i < vs.length) : (holdV vs i n h).length = vs.length := by unfold holdV; rw [List.length_set]
theorem holdV_at (vs : List VR) (i n : Nat) (h : i < vs.length) (j : Nat) (hj : j < vs.length) (hj' : j < (holdV vs i n h).length) : (holdV vs i n h)[j] = if i = j then ⟨vs[i].blk, n, vs[i].buns⟩ else vs[j] := List.getElem_set hj'
theorem holdV_blk (vs : List VR) (i n : Nat) (h : i < vs.length) (j : Nat) (hj : j < vs.length) (hj' : j < (holdV vs i n h).length) : (holdV vs i n h)[j].blk = vs[j].blk := by
  rw [holdV_at vs i n h j hj]
  split
  · rename_i e; subst e; rfl
  · rfl
theorem apart_at {vs : List VR} (h : vs.Pairwise fun a b => a.blk ≠ b.blk) (i j : Nat) (hi : i < vs.length) (hj : j < vs.length) (hne : i ≠ j) : vs[i].blk ≠ vs[j].blk := by
  have h1 := List.pairwise_iff_getElem.1 h
  rcases Nat.lt_or_gt_of_ne hne with h2 | h2
  · exact h1 i j hi hj h2
  · exact fun e => h1 j i hj hi h2 e.symm
theorem StoreIn.hold {B b1 p M : Nat} {w : World} {vs : List VR} {S : List (Nat × Nat)} (h : StoreIn B b1 w p M vs S) (i n : Nat) (hi : i < vs.length) :
    StoreIn B b1 (w.setCell ⟨vs[i].blk, 1, none⟩ (.int .i64 n)) p M (holdV vs i n hi) S := by
  obtain ⟨wb, T, m, k1, _⟩ := (h.vers _ (List.getElem_mem hi)).rec_
  have hpb : p ≠ vs[i].blk := fun e => by
    have h2 := h.box
    rw [e] at h2
    have := h2.symm.trans k1
    injection this with this
    injection this with _ this _
    exact absurd this (by decide)
  obtain ⟨q, hq, hM⟩ := h.all
  have hf : Fr w (w.setCell ⟨vs[i].blk, 1, none⟩ (.int .i64 n)) (· = vs[i].blk) := (Fr.refl w (· = vs[i].blk)).setCell (p := ⟨vs[i].blk, 1, none⟩) (.inl rfl) _
  refine ⟨h.lp, h.lM, ?_, ⟨q, by rw [holdV_len]; exact hq, owns_fr hM hf (owns_ne_blk hM k1)⟩, fun r hr => ?_, ?_⟩
  · rw [holdV_len]
    exact h.box.far hpb _
  · obtain ⟨j, hj, rfl⟩ := List.mem_iff_getElem.1 hr
    have hj2 : j < vs.length := by rw [holdV_len] at hj; exact hj
    rw [holdV_at vs i n hi j hj2]
    split
    · exact (h.vers _ (List.getElem_mem hi)).hold n
    · rename_i hne
      exact (h.vers _ (List.getElem_mem hj2)).far k1 (apart_at h.apart j i hj2 hi fun e => hne e.symm) 1 _
  · rw [List.pairwise_iff_getElem]
    intro a b ha hb hab
    have ha2 : a < vs.length := by rw [holdV_len] at ha; exact ha
    have hb2 : b < vs.length := by rw [holdV_len] at hb; exact hb
    rw [holdV_blk vs i n hi a ha2, holdV_blk vs i n hi b hb2]
    exact apart_at h.apart a b ha2 hb2 (by omega)
theorem StX_ver {p M : Nat} {vs : List VR} (i : Nat) (hi : i < vs.length) : StX p M vs vs[i].blk := .inr (.inr ⟨_, List.getElem_mem hi, rfl⟩)

/- ## Pin -/
theorem kept_pin (vs : List VR) (i n : Nat) (hi : i < vs.length) (hl : i + 1 = vs.length) : keptV (holdV vs i n hi) = keptV vs := by
  unfold keptV
  rw [holdV_len]
  refine pickV_congr _ _ _ (holdV_len _ _ _ _) fun j h1 h2 => ⟨?_, holdV_blk vs i n hi j h2 h1⟩
  rw [holdV_at vs i n hi j h2]
  split
  · rename_i e
    subst e
    have : (1 + i == vs.length) = true := by rw [beq_iff_eq]; omega
    unfold live
    rw [this]; rfl
  · rfl
def PinRes (B b1 p M : Nat) (w : World) (vs : List VR) (e : Ending) (w' : World) : Prop :=
  (vs = [] ∧ e = .returned (.tuple #[.int .i64 0, errV 2]) ∧ StoreSt B b1 w' p M vs ∧ Fr w w' (StX p M vs)) ∨
  (∃ i, ∃ hi : i < vs.length, i + 1 = vs.length ∧ e = .returned (.tuple #[.int .i64 vs.length, errV 0]) ∧ StoreSt B b1 w' p M (holdV vs i (vs[i].held + 1) hi) ∧ Fr w w' (StX p M vs))
set_option maxHeartbeats 1600000 in
set_option maxRecDepth 100000 in
theorem pin_any {B b1 p M : Nat} {w : World} {vs : List VR} (h : StoreSt B b1 w p M vs) (hb : ∀ r ∈ vs, r.held ≤ 1000000000) (hl : vs.length ≤ 1300000) :
    Calls Tryz.prog 16 #[.pointer (some ⟨p, 0, none⟩)] w fun e w' => PinRes B b1 p M w vs e w' := by
  obtain ⟨m, _, hM⟩ := h.all
  have c0 : w.cell? ⟨p, 0, none⟩ = some (.int .i64 vs.length) := (h.box.cell 0).trans rfl
  have c1 : w.cell? ⟨p, 1, none⟩ = some (.map (some M)) := (h.box.cell 1).trans rfl
  have hr1 : ∀ n, (Instr.lookup 52 (.map (some M)) (.int .i64 vs.length) false).run Tryz.prog (w.drewN n) = .ok (verV ((verAt vs vs.length).map (·.blk))) (w.drewN n) := fun n => look_ver (w := w.drewN n) hM vs.length (by omega) (by omega)
  by_cases h0 : vs = []
  · subst h0
    have hr2 : ∀ n, (Instr.lookup 52 (.map (some M)) (.int .i64 0) false).run Tryz.prog (w.drewN n) = .ok (.pointer none) (w.drewN n) := hr1
    have c2 : w.cell? ⟨p, 0, none⟩ = some (.int .i64 0) := c0
    have HS := Lib.hid (fun n => h.keep (below_drewN (Below.refl _ w) n))
    clear hr1 c0 hM h hb hl
    go_enter Tryz.func16, Tryz.ntmps16
    go_wp2_with fail
    go_quiet (fail)
    go_wp2_with fail
    go_ret2
    exact .inl ⟨rfl, rfl, HS.out nq, Fr.of_below (below_drewN (Below.refl _ w) nq) _⟩
  · obtain ⟨i, hi1⟩ : ∃ i, i + 1 = vs.length := ⟨vs.length - 1, by have := List.length_pos_iff.2 h0; omega⟩
    have hi : i < vs.length := by omega
    have hva : verAt vs vs.length = some vs[i] := by
      have := verAt_at (vs := vs) i hi
      rw [← hi1, this, if_pos]
      unfold live; simp [hi1]
    rw [hva] at hr1
    obtain ⟨wb, T, q, k1, _⟩ := (h.vers _ (List.getElem_mem hi)).rec_
    have hheld := hb _ (List.getElem_mem hi)
    have k1x : ∀ W : World, W.heap = w.heap → W.cell? ⟨vs[i].blk, 1, none⟩ = some (.int .i64 vs[i].held) ∧ W.frozen? ⟨vs[i].blk, 1, none⟩ = false := fun W hW => by
      have k2 : Blk W vs[i].blk 58 #[.map (some wb), .int .i64 vs[i].held] := by show W.heap[_]? = _; rw [hW]; exact k1
      exact ⟨(k2.cell 1).trans rfl, k2.frozen 1⟩
    have HS : Hid (∀ W : World, W.heap = w.heap → W.os = w.os → W.tape = w.tape → W.output = w.output → StoreIn B b1 (W.setCell ⟨vs[i].blk, 1, none⟩ (.int .i64 ((vs[i].held + 1 : Nat) : Int))) p M (holdV vs i (vs[i].held + 1) hi) (keptV vs) ∧ Fr w (W.setCell ⟨vs[i].blk, 1, none⟩ (.int .i64 ((vs[i].held + 1 : Nat) : Int))) (StX p M vs)) := Lib.hid fun W h1 h2 h3 h4 => by
      have hf : Fr w W (fun _ => False) := ⟨h2, h3, h4, by rw [h1]; exact Nat.le_refl _, fun k _ _ => by rw [h1]⟩
      exact ⟨(h.fr hf fun k hk => hk.elim).hold i _ hi, (hf.mono fun k hk => hk.elim).setCell (.inl (StX_ver i hi)) _⟩
    have hk := kept_pin vs i (vs[i].held + 1) hi hi1
    have c2 : ∀ W : World, W.heap = (w.setCell ⟨vs[i].blk, 1, none⟩ (.int .i64 ((vs[i].held + 1 : Nat) : Int))).heap → W.cell? ⟨p, 0, none⟩ = some (.int .i64 vs.length) := fun W hW => by
      have h3 := ((h.hold i (vs[i].held + 1) hi).box)
      rw [holdV_len] at h3
      have h4 : Blk W p 54 #[.int .i64 vs.length, .map (some M)] := by show W.heap[_]? = _; rw [hW]; exact h3
      exact (h4.cell 0).trans rfl
    have hr2 : ∀ n, (Instr.lookup 52 (.map (some M)) (.int .i64 vs.length) false).run Tryz.prog (w.drewN n) = .ok (.pointer (some ⟨vs[i].blk, 0, none⟩)) (w.drewN n) := hr1
    generalize hhd : vs[i].held = hd at *
    have HHd := Lib.hid hhd
    generalize vs[i].blk = rb at *
    clear hr1 hva hM h hb hhd
    go_enter Tryz.func16, Tryz.ntmps16
    go_wp2_with fail
    go_quiet (fail)
    obtain ⟨x0, x1⟩ := k1x (w.drewN nq) rfl
    have hw : IntKind.i64.wrap ((hd : Int) + 1) = ((hd + 1 : Nat) : Int) := by rw [IntKind.wrap_i64]; omega
    have hw2 : wrap64 ((hd : Int) + 1) = ((hd + 1 : Nat) : Int) := by unfold wrap64; omega
    obtain ⟨y0, y1⟩ := HS.out (w.drewN nq) rfl rfl rfl rfl
    have z0 := c2 ((w.drewN nq).setCell ⟨rb, 1, none⟩ (.int .i64 ((hd + 1 : Nat) : Int))) rfl
    have HY0 := Lib.hid y0
    have HY1 := Lib.hid y1
    have hq : ((hd + 1 : Nat) : Int) = (hd : Int) + 1 := by omega
    rw [hq] at HY0 HY1 z0
    clear y0 y1 k1 k1x HS c2 hr2 hw hw2 hq
    go_wp2_with fail
    go_ret2
    refine .inr ⟨i, hi, hi1, rfl, ?_, HY1.out⟩
    rw [HHd.out]
    show StoreIn _ _ _ _ _ _ (keptV _)
    rw [hk]
    exact HY0.out

/- ## Free -/
theorem kept_free (vs : List VR) (i n : Nat) (hi : i < vs.length) : keptV vs = pickV (fun k x => live vs.length k (vs.getD (k - 1) x)) 1 (holdV vs i n hi) := by
  unfold keptV
  refine pickV_congr _ _ _ (holdV_len _ _ _ _).symm fun j h1 h2 => ⟨?_, (holdV_blk vs i n hi j h1 h2).symm⟩
  have e : 1 + j - 1 = j := by omega
  rw [e, List.getD_eq_getElem?_getD, List.getElem?_eq_getElem h1]; rfl
theorem free_live (vs : List VR) (i n : Nat) (hi : i < vs.length) (h0 : vs[i].held ≠ 0) : ∀ j (hj : j < (holdV vs i n hi).length), live (holdV vs i n hi).length (1 + j) (holdV vs i n hi)[j] = true → (fun k x => live vs.length k (vs.getD (k - 1) x)) (1 + j) (holdV vs i n hi)[j] = true := by
  intro j hj hl
  have h1 : j < vs.length := by rw [holdV_len] at hj; exact hj
  have e : 1 + j - 1 = j := by omega
  show live vs.length (1 + j) (vs.getD (1 + j - 1) _) = true
  rw [e, List.getD_eq_getElem?_getD, List.getElem?_eq_getElem h1]
  show live vs.length (1 + j) vs[j] = true
  rw [holdV_len, holdV_at vs i n hi j h1] at hl
  split at hl
  · rename_i e2
    subst e2
    unfold live
    have : (vs[i].held != 0) = true := by simpa using h0
    rw [this, Bool.or_true]
  · exact hl
def FreeRes (B b1 p M : Nat) (w : World) (vs : List VR) (n : Int) (e : Ending) (w' : World) : Prop :=
  ((verAt vs n = none ∨ ∃ r, verAt vs n = some r ∧ r.held = 0) ∧ e = .returned (errV 2) ∧ w = w') ∨
  (∃ i, ∃ hi : i < vs.length, verAt vs n = some vs[i] ∧ vs[i].held ≠ 0 ∧ n = ((i + 1 : Nat) : Int) ∧ e = .returned (errV 0) ∧ StoreSt B b1 w' p M (holdV vs i (vs[i].held - 1) hi) ∧ Fr w w' (StX p M vs))
set_option maxHeartbeats 1600000 in
set_option maxRecDepth 100000 in
theorem free_any {B b1 p M : Nat} {w : World} {vs : List VR} (h : StoreSt B b1 w p M vs) (n : Int) (h1 : -9223372036854775808 ≤ n) (h2 : n ≤ 9223372036854775807) (hb : ∀ r ∈ vs, r.held ≤ 1000000000) :
    Calls Tryz.prog 17 #[.pointer (some ⟨p, 0, none⟩), .int .i64 n] w fun e w' => FreeRes B b1 p M w vs n e w' := by
  obtain ⟨m, _, hM⟩ := h.all
  have c1 : w.cell? ⟨p, 1, none⟩ = some (.map (some M)) := (h.box.cell 1).trans rfl
  have hr1 := look_ver hM n h1 h2
  cases hv : verAt vs n with
  | none =>
    rw [hv] at hr1
    have hr2 : (Instr.lookup 52 (.map (some M)) (.int .i64 n) false).run Tryz.prog w = .ok (.pointer none) w := hr1
    have HV := Lib.hid hv
    clear hr1 h1 h2 hM h hb hv
    go_enter Tryz.func17, Tryz.ntmps17
    go_wp2_with fail
    go_ret
    exact .inl ⟨.inl HV.out, rfl, rfl⟩
  | some r =>
    have HV := Lib.hid hv
    have HI : Hid (∃ i, ∃ hi : i < vs.length, n = ((i + 1 : Nat) : Int) ∧ r = vs[i]) := Lib.hid (by
      obtain ⟨i, hi, e1, e2, _⟩ := verAt_some hv
      exact ⟨i, hi, e1, e2⟩)
    have hr : r ∈ vs := by obtain ⟨i, hi, _, e2⟩ := HI.out; rw [e2]; exact List.getElem_mem hi
    rw [hv] at hr1
    have hr2 : (Instr.lookup 52 (.map (some M)) (.int .i64 n) false).run Tryz.prog w = .ok (.pointer (some ⟨r.blk, 0, none⟩)) w := hr1
    obtain ⟨wb, S, k, k1, _⟩ := (h.vers r hr).rec_
    have d1 : w.cell? ⟨r.blk, 1, none⟩ = some (.int .i64 r.held) := (k1.cell 1).trans rfl
    have f1 := k1.frozen 1
    have hheld := hb r hr
    by_cases h0 : r.held = 0
    · have hz : ((r.held : Int) == 0) = true := by rw [h0]; rfl
      have H0 : Hid (∃ r, verAt vs n = some r ∧ r.held = 0) := Lib.hid ⟨r, hv, h0⟩
      generalize r.held = hd at *
      generalize r.blk = rb at *
      clear hr1 h1 h2 hM h hb hv k1 hr HI h0
      go_enter Tryz.func17, Tryz.ntmps17
      go_wp2_with fail
      go_ret
      exact .inl ⟨.inr H0.out, rfl, rfl⟩
    · have hz : ((r.held : Int) == 0) = false := by rw [beq_eq_false_iff_ne]; omega
      have HC : Hid (∃ i, ∃ hi : i < vs.length, n = ((i + 1 : Nat) : Int) ∧ r = vs[i] ∧ Calls Tryz.prog 21 #[.pointer (some ⟨p, 0, none⟩)] (w.setCell ⟨r.blk, 1, none⟩ (.int .i64 ((r.held : Int) - 1))) fun e w' => e = .returned (.tuple #[]) ∧ StoreSt B b1 w' p M (holdV vs i (vs[i].held - 1) hi) ∧ Fr w w' (StX p M vs)) := Lib.hid (by
        obtain ⟨i, hi, e1, rfl⟩ := HI.out
        refine ⟨i, hi, e1, rfl, ?_⟩
        have h3 := h.hold i (vs[i].held - 1) hi
        have e3 : ((vs[i].held - 1 : Nat) : Int) = (vs[i].held : Int) - 1 := by omega
        rw [e3, kept_free vs i (vs[i].held - 1) hi] at h3
        refine (clean_any h3 (free_live vs i _ hi h0)).mono fun e w' ⟨he, hs, hf⟩ => ⟨he, hs, ?_⟩
        have hf1 : Fr w (w.setCell ⟨vs[i].blk, 1, none⟩ (.int .i64 ((vs[i].held : Int) - 1))) (StX p M vs) := (Fr.refl w _).setCell (.inl (StX_ver i hi)) _
        exact hf1.trans (hf.mono fun k hk => .inr (.inl hk)))
      have H0 := Lib.hid h0
      obtain ⟨i, hi, e1, e2, hc⟩ := HC.out
      have HE1 := Lib.hid e1
      have HE2 := Lib.hid e2
      have HCl := Lib.hid hc
      generalize hhd : r.held = hd at *
      generalize r.blk = rb at *
      have HHd := Lib.hid hhd
      have hw : IntKind.i64.wrap ((hd : Int) - 1) = (hd : Int) - 1 := by rw [IntKind.wrap_i64]; omega
      have hw2 : wrap64 ((hd : Int) - 1) = (hd : Int) - 1 := by unfold wrap64; omega
      clear hr1 h1 h2 hM h hb hv k1 hr HI h0 HC e1 e2 hc hhd
      go_enter Tryz.func17, Tryz.ntmps17
      go_wp2_with fail
      refine HCl.out.mono ?_
      clear HCl
      rintro e w' ⟨rfl, hs, hf⟩
      have HS := Lib.hid hs
      have HF := Lib.hid hf
      clear hs hf
      go_wp2_with fail
      go_ret
      exact .inr ⟨i, hi, by rw [← HE2.out]; exact HV.out, by rw [← HE2.out, HHd.out]; exact H0.out, HE1.out, rfl, HS.out, HF.out⟩
end Go.Proofs.YtboilcfeegigcaaGreatDoor
