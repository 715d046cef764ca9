/- The walk of linguisterlaw5.spoil, over a block that has so many entries. -/
import Derived.Test.YtboilcfeegigcaaGreatDoorSpoil
import Derived.Test.YtboilcfeegigcaaGreatDoorStoreG
namespace Go.Proofs.YtboilcfeegigcaaGreatDoor
open Go.RowKit

def AtB (A : Option Addr) (n k : Nat) : Prop := 0 < n ∧ A = some ⟨k, 0, none⟩
theorem HasN.lt {w : World} {g m : Nat} {t : TypeId} (h : HasN w g t m) : g < w.heap.size := by
  obtain ⟨cur, hh, _⟩ := h
  exact Blk.lt (t := t) (cs := cur) hh
theorem HasN.fr {w w' : World} {g m : Nat} {t : TypeId} {X : Nat → Prop} (h : HasN w g t m) (hf : Fr w w' X) (hX : ¬ X g) : HasN w' g t m := by
  have hl := h.lt
  obtain ⟨cur, hh, hc⟩ := h
  exact ⟨cur, (hf.block g hl hX).trans hh, hc⟩
/-- a block keeps what may be written into where cells are written -/
theorem HasN.set' {W : World} {g k m q : Nat} {t : TypeId} (h : HasN W g t m) (u : Value) : HasN (W.setCell ⟨k, q, none⟩ u) g t m := by
  by_cases e : g = k
  · subst e; exact h.set q u
  · exact h.far e u
def Keeps (w w' : World) : Prop := ∀ g t m, HasN w g t m → HasN w' g t m
theorem Keeps.refl (w : World) : Keeps w w := fun _ _ _ h => h
theorem Keeps.trans {a b c : World} (h : Keeps a b) (k : Keeps b c) : Keeps a c := fun g t m x => k g t m (h g t m x)
theorem Keeps.set {a b : World} (h : Keeps a b) (k q : Nat) (u : Value) : Keeps a (b.setCell ⟨k, q, none⟩ u) := fun g t m x => (h g t m x).set' u
theorem Keeps.below {a b : World} (h : Below a.heap.size a b) : Keeps a b := fun _ _ _ x => x.below h x.lt
set_option maxHeartbeats 1600000 in
theorem spoil_has (tg x : ByteArray) (A : Option Addr) (n c : Nat) (w : World) (h : 0 < n → ∃ g, A = some ⟨g, 0, none⟩ ∧ g < w.heap.size ∧ HasN w g 62 (n * 2)) (hn : n ≤ 4398046511104) :
    Calls Tryz.prog 9 #[.agg #[.string tg, .slice A n c], .string x] w fun e w' => e = .returned (.tuple #[]) ∧ Fr w w' (AtB A n) ∧ Keeps w w' := by
  have HG := Lib.hid h
  have HNb : Hid (¬ AtB A n w.heap.size) := Lib.hid fun e => by obtain ⟨h0, e⟩ := e; obtain ⟨g, h1, h2, _⟩ := h h0; rw [e] at h1; injection h1 with h1; injection h1 with h1; omega
  clear h
  go_enter Tryz.func9, Tryz.ntmps9
  go_wp2_with fail
  obtain ⟨W1, eW1⟩ : ∃ W1, W1 = w.alloc (.cells #[.string tg, .slice A n c] 27) := ⟨_, rfl⟩
  have mb : Blk W1 w.heap.size 27 #[.string tg, .slice A n c] := by rw [eW1]; exact Blk.new _ _ _
  have hb1 : Below w.heap.size w W1 := by rw [eW1]; exact (Below.refl _ _).alloc (Nat.le_refl _) _
  have HM := Lib.hid mb
  have HB1 := Lib.hid hb1
  have HW1 := Lib.hid eW1
  rw [← HW1.out]
  clear eW1 mb hb1 HW1
  go_loopw [4] (fun i wr => ∃ j : Nat, j ≤ n ∧ i = .int .i64 j ∧ Fr W1 wr (AtB A n) ∧ Keeps W1 wr ∧ ∀ g, A = some ⟨g, 0, none⟩ → 0 < n → HasN wr g 62 (n * 2)) (fun i _ => n - (intOf i).toNat)
  case atStart => exact ⟨0, Nat.zero_le _, rfl, Fr.refl _ _, Keeps.refl _, fun g hg h0 => by
    obtain ⟨g', e, hlt, hh⟩ := HG.out h0
    have : g' = g := by rw [e] at hg; injection hg with hg; injection hg
    subst this
    exact hh.below HB1.out hlt⟩
  case round =>
    obtain ⟨j, hj, rfl, hF, hKp, hR⟩ := hrel
    have hml := HM.out.lt
    have hk : wr.cell? ⟨w.heap.size, 1, none⟩ = some (.slice A n c) := (hF.cell (p := ⟨w.heap.size, 1, none⟩) hml HNb.out).trans ((HM.out.cell 1).trans rfl)
    have HF := Lib.hid hF
    have HKp := Lib.hid hKp
    have HR := Lib.hid hR
    clear hF hR hKp
    by_cases hlt : j < n
    · obtain ⟨g, rfl, hgl, _⟩ := HG.out (by omega)
      have hh := HR.out g rfl (by omega)
      obtain ⟨⟨u0, h0⟩, f0⟩ := hh.cell (j * 2) (by omega)
      obtain ⟨⟨u1, h1⟩, f1⟩ := hh.cell (j * 2 + 1) (by omega)
      have HS : Hid (Fr W1 ((wr.setCell ⟨g, j * 2, none⟩ (.string x)).setCell ⟨g, j * 2 + 1, none⟩ (.string x)) (AtB (some ⟨g, 0, none⟩) n)) := Lib.hid ((HF.out.setCell (p := ⟨g, j * 2, none⟩) (.inl ⟨by omega, rfl⟩) _).setCell (p := ⟨g, j * 2 + 1, none⟩) (.inl ⟨by omega, rfl⟩) _)
      have HH := Lib.hid ((hh.set (j * 2) (.string x)).set (j * 2 + 1) (.string x))
      clear hh
      have i1 : (0 : Int) ≤ (j : Int) := Int.natCast_nonneg j
      have i2 : (j : Int) < (n : Int) := by omega
      go_wp2_with fail
      refine ⟨⟨j + 1, by omega, by go_num, HS.out, (HKp.out.set _ _ _).set _ _ _, fun g' hg' _ => ?_⟩, by simp [intOf]; omega⟩
      injection hg' with hg'
      injection hg' with hg'
      subst hg'
      exact HH.out
    · go_wp2_with fail
      go_end0
      exact ⟨rfl, (Fr.of_below HB1.out _).trans HF.out, (Keeps.below HB1.out).trans HKp.out⟩
end Go.Proofs.YtboilcfeegigcaaGreatDoor
/- What StoreOwn keeps: bundles of the asker's own that are written into behind a load. -/

namespace Go.Proofs.YtboilcfeegigcaaGreatDoor
open Go.RowKit Go.Maps

section
variable {w0 wr W : World} {b1 p M : Nat} {vs : List VR}
/-- the store stays where cells of other types are written -/
theorem Stk.farN (s : Stk w0 wr b1 p M vs) {X : Nat → Prop} (hX : ∀ k, X k → w0.heap.size ≤ k ∧ ∃ t m, HasN wr k t m ∧ 54 ≠ t ∧ 58 ≠ t) (hf : Fr wr W X) : Stk w0 W b1 p M vs := by
  have hne : ∀ {k : Nat} {t : TypeId} {cs : Array Value}, Blk wr k t cs → (t = 54 ∨ t = 58) → ¬ X k := fun {k t cs} hk ht hx => by
    obtain ⟨_, t', m, ⟨cur, hh, _⟩, n1, n2⟩ := hX k hx
    have := hh.symm.trans hk
    injection this with this
    injection this with _ this
    rcases ht with ht | ht
    · exact n1 (ht ▸ this.symm)
    · exact n2 (ht ▸ this.symm)
  have hnm : ∀ {H : Type} {k : TypeId} {R : Value → Option (DataW H × List MemPlace)} {b m : Nat} {D : DataW H}, wr.ownsMap Tryz.prog k R b m D → ¬ X b := fun {H k R b m D} hM hx => by
    obtain ⟨es, clock, hb, _⟩ := hM
    obtain ⟨_, t', m, ⟨cur, hh, _⟩, _⟩ := hX b hx
    have := hh.symm.trans hb
    injection this with this
    cases this
  refine ⟨⟨s.st.lp, s.st.lM, s.st.box.fr hf (hne s.st.box (.inl rfl)), let ⟨n, h1, h2⟩ := s.st.all; ⟨n, h1, owns_fr h2 hf (hnm h2)⟩, fun r hr => ?_, s.st.apart⟩, Fr.below s.below hf s.below.size fun i hi => (hX i hi).1, Nat.le_trans s.hi hf.size⟩
  obtain ⟨wb, S, m, k1, k2, k3, k4⟩ := (s.st.vers r hr).rec_
  exact ⟨(s.st.vers r hr).lo, (s.st.vers r hr).fine, wb, S, m, k1.fr hf (hne k1 (.inr rfl)), k2, owns_fr k3 hf (hnm k3), k4.fr hf fun mb k T _ hT => hnm hT⟩
end
/-- a slice of entries that may be written into -/
def EntN (B : Nat) (W : World) (V : Value) : Prop := ∃ A m c, V = .slice A m c ∧ m ≤ 4398046511104 ∧ (0 < m → ∃ k, A = some ⟨k, 0, none⟩ ∧ B ≤ k ∧ HasN W k 62 (m * 2))
/-- a row of bundles that may be written into -/
structure SpIn (B : Nat) (W : World) (g : Nat) (Vs : List Value) : Prop where
  lo : B ≤ g
  has : HasN W g 27 (Vs.length * 2)
  tags : ∀ i, i < Vs.length → ∃ s, W.cell? ⟨g, i * 2, none⟩ = some (.string s)
  ents : ∀ i (h : i < Vs.length), W.cell? ⟨g, i * 2 + 1, none⟩ = some Vs[i] ∧ EntN B W Vs[i]
theorem HasN.ne {W : World} {g k m n : Nat} {t t' : TypeId} (h : HasN W g t m) (h' : HasN W k t' n) (ht : t ≠ t') : g ≠ k := fun e => by
  subst e
  obtain ⟨cur, hh, _⟩ := h
  obtain ⟨cur', hh', _⟩ := h'
  rw [hh] at hh'
  injection hh' with hh'
  injection hh' with _ hh'
  exact ht hh'
theorem EntN.keeps {B : Nat} {W W' : World} {V : Value} (h : EntN B W V) (k : Keeps W W') : EntN B W' V := by
  obtain ⟨A, m, c, h1, h2, h3⟩ := h
  refine ⟨A, m, c, h1, h2, fun hm => ?_⟩
  obtain ⟨k', h4, h5, h6⟩ := h3 hm
  exact ⟨k', h4, h5, k _ _ _ h6⟩
/-- the tag of one is another one -/
theorem SpIn.tag {B : Nat} {W : World} {g : Nat} {Vs : List Value} (h : SpIn B W g Vs) (i : Nat) (s : ByteArray) : SpIn B (W.setCell ⟨g, i * 2, none⟩ (.string s)) g Vs :=
  ⟨h.lo, h.has.set _ _, fun j hj => by
    by_cases e : j = i
    · subst e
      obtain ⟨⟨u, hu⟩, _⟩ := h.has.cell (j * 2) (by omega)
      exact ⟨s, World.cell?_setCell_same _ _ _ hu⟩
    · obtain ⟨s', hs⟩ := h.tags j hj
      exact ⟨s', by rw [← hs]; exact World.cell?_setCell_other _ _ _ _ (fun e' => by injection e' with _ e'; omega)⟩,
   fun j hj => ⟨by
    rw [← (h.ents j hj).1]
    exact World.cell?_setCell_other _ _ _ _ (fun e => by injection e with _ e; omega), (h.ents j hj).2.keeps ((Keeps.refl _).set _ _ _)⟩⟩
theorem SpIn.fr {B : Nat} {W W' : World} {X : Nat → Prop} {g : Nat} {Vs : List Value} (h : SpIn B W g Vs) (hf : Fr W W' X) (hX : ¬ X g) (k : Keeps W W') : SpIn B W' g Vs :=
  ⟨h.lo, k _ _ _ h.has, fun j hj => by
    obtain ⟨s, hs⟩ := h.tags j hj
    exact ⟨s, (hf.cell (p := ⟨g, j * 2, none⟩) h.has.lt hX).trans hs⟩, fun j hj => ⟨(hf.cell (p := ⟨g, j * 2 + 1, none⟩) h.has.lt hX).trans (h.ents j hj).1, (h.ents j hj).2.keeps k⟩⟩
theorem SpIn.below {B : Nat} {W W' : World} {g : Nat} {Vs : List Value} (h : SpIn B W g Vs) (hb : Below W.heap.size W W') : SpIn B W' g Vs :=
  h.fr (X := fun _ => False) (Fr.of_below hb _) (fun e => e) (Keeps.below hb)
/-- behind a spoiling of one of them -/
theorem SpIn.spoil {B : Nat} {W W' : World} {g : Nat} {Vs : List Value} {A : Option Addr} {m c i : Nat} (h : SpIn B W g Vs) (hi : i < Vs.length) (hv : Vs[i] = .slice A m c) (hf : Fr W W' (AtB A m)) (k : Keeps W W') : SpIn B W' g Vs := by
  refine h.fr hf (fun ⟨h0, hA⟩ => ?_) k
  obtain ⟨A', m', c', e, _, h3⟩ := (h.ents i hi).2
  rw [hv] at e
  injection e with e1 e2 _
  subst e1; subst e2
  obtain ⟨k', h4, _, h6⟩ := h3 h0
  rw [hA] at h4
  injection h4 with h4
  injection h4 with h4
  subst h4
  exact h.has.ne h6 (by decide) rfl
theorem Stk.spoil {w0 W W' : World} {b1 p M g : Nat} {vs : List VR} (s : Stk w0 W b1 p M vs) {Vs : List Value} {A : Option Addr} {m c i : Nat} (h : SpIn w0.heap.size W g Vs) (hi : i < Vs.length) (hv : Vs[i] = .slice A m c) (hf : Fr W W' (AtB A m)) : Stk w0 W' b1 p M vs :=
  s.farN (fun k ⟨h0, hA⟩ => by
    obtain ⟨A', m', c', e, _, h3⟩ := (h.ents i hi).2
    rw [hv] at e
    injection e with e1 e2 _
    subst e1; subst e2
    obtain ⟨k', h4, h5, h6⟩ := h3 h0
    rw [hA] at h4
    injection h4 with h4
    injection h4 with h4
    subst h4
    exact ⟨h5, _, _, h6, by decide, by decide⟩) hf
theorem Stk.tag {w0 W : World} {b1 p M g q : Nat} {vs : List VR} {u : Value} (s : Stk w0 W b1 p M vs) {Vs : List Value} (h : SpIn w0.heap.size W g Vs) : Stk w0 (W.setCell ⟨g, q, none⟩ u) b1 p M vs :=
  s.farN (X := fun k => k = g) (fun k hk => by subst hk; exact ⟨h.lo, _, _, h.has, by decide, by decide⟩) (Fr.setCell (w := W) (S := fun k => k = g) (p := ⟨g, q, none⟩) (Fr.refl W _) (.inl rfl) u)
theorem SpIn.of {B : Nat} {W : World} {A : Option Addr} {n c : Nat} {ps : List (Bun × Value)} (h : RowedB B W (.slice A n c) ps) (hn : 0 < ps.length) (hl : ∀ p ∈ ps, p.1.ents.length ≤ 4398046511104) : ∃ g, A = some ⟨g, 0, none⟩ ∧ SpIn B W g (ps.map Prod.snd) := by
  have ho := h.own
  obtain ⟨A', c', he, _⟩ := own_slice ho
  injection he with e1 e2 e3
  subst e1; subst e2; subst e3
  obtain ⟨g, rfl, hg, _, hN⟩ := HasN.of_own ho hn
  refine ⟨g, rfl, hg, by simpa using hN, fun i hi => ?_, fun i hi => ⟨?_, ?_⟩⟩
  · have hi' : i < ps.length := by simpa using hi
    obtain ⟨_, ⟨h0, _⟩ | ⟨g', cap, cur, hv, hb, hh, hc, hm, hcs, ht⟩⟩ := ho
    · cases h0
    · injection hv with hv _ _
      injection hv with hv
      injection hv with hv
      subst hv
      rw [cell_of_row W g (i * 2) cur 27 (0, 0) hh]
      have hb := congrArg (fun l : List Value => l[0]?) (flatB_at ps i hi')
      (first | dsimp only at hb | skip)
      rw [List.getElem?_take, if_pos (by omega), List.getElem?_drop, ← ht, List.getElem?_take] at hb
      split at hb
      · rw [Array.getElem?_toList] at hb
        have hb' : cur[i * 2]? = (bunCells ps[i])[0]? := hb
        rw [hb']
        exact ⟨(ps[i]).1.tag, by simp [bunCells]⟩
      · simp [bunCells] at hb
  · have hi' : i < ps.length := by simpa using hi
    obtain ⟨_, ⟨h0, _⟩ | ⟨g', cap, cur, hv, hb, hh, hc, hm, hcs, ht⟩⟩ := ho
    · cases h0
    · injection hv with hv _ _
      injection hv with hv
      injection hv with hv
      subst hv
      rw [cell_of_row W g (i * 2 + 1) cur 27 (0, 0) hh]
      have hb := congrArg (fun l : List Value => l[1]?) (flatB_at ps i hi')
      (first | dsimp only at hb | skip)
      rw [List.getElem?_take, if_pos (by omega), List.getElem?_drop, ← ht, List.getElem?_take] at hb
      split at hb
      · rw [Array.getElem?_toList] at hb
        rw [hb]
        simp [bunCells]
      · simp [bunCells] at hb
  · have hi' : i < ps.length := by simpa using hi
    have hE := h.ents _ (List.getElem_mem hi')
    obtain ⟨A', c', he, _⟩ := own_slice hE
    rw [List.getElem_map, he]
    refine ⟨A', _, c', rfl, hl _ (List.getElem_mem hi'), fun hm => ?_⟩
    unfold EntRow at hE
    rw [he] at hE
    obtain ⟨k, h1, h2, _, h3⟩ := HasN.of_own hE hm
    exact ⟨k, h1, h2, h3⟩
end Go.Proofs.YtboilcfeegigcaaGreatDoor
