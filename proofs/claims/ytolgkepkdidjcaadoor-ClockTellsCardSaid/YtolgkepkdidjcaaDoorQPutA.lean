/- For the reference's PutIn. -/
import Derived.Test.YtolgkepkdidjcaaDoorQClock
import Derived.Deep.AppendLies
import Derived.Deep.LoopGhost
import Derived.Deep.RegionLaw
import Derived.Deep.DeepCutAuto
namespace Go.Proofs.YtolgkepkdidjcaaDoor
open Go.RowKit

theorem info_qplace : (Tryd.prog.info? 40).map (fun i => (i.zero, i.size, i.bytes)) = some (some (.agg #[.string ByteArray.empty, .string ByteArray.empty, .bool false, .bool false]), 4, 40) := by kernel_rfl
theorem cellsOf_one (ps : List Plc) : ∀ u ∈ cellsOf ps, u.oneCell' = true := by
  intro u hu
  unfold cellsOf at hu
  obtain ⟨p, _, hp⟩ := List.mem_flatMap.1 hu
  unfold Plc.cells at hp
  simp at hp
  rcases hp with rfl | rfl | rfl | rfl <;> rfl
theorem RowP.cellsAt {w : World} {pb : Nat} {ps : List Plc} (h : RowP w pb ps) : ∀ j u, (cellsOf ps)[j]? = some u → w.cell? ((⟨pb, 0, none⟩ : Addr).add j) = some u := by
  intro j u hj
  obtain ⟨cur, hb, ht⟩ := h
  have e : (⟨pb, 0, none⟩ : Addr).add j = ⟨pb, j, none⟩ := by unfold Addr.add; split <;> simp_all
  rw [e, hb.cell]
  rw [← ht, List.getElem?_take] at hj
  split at hj
  · simpa using hj
  · cases hj

theorem own_empty {w : World} {base g size : Nat} {e : TypeId} (h : Blk w g e #[]) (hb : base ≤ g) : w.ownsRow base e size (.slice (some ⟨g, 0, none⟩) 0 0) 0 [] :=
  ⟨by simp, .inr ⟨g, 0, #[], rfl, hb, h, Nat.le_refl _, by unfold maxLen; omega, by simp, by simp⟩⟩
theorem Blk.grown {w w' : World} {g : Nat} {t : TypeId} {cs : Array Value} {row : Option Nat} (h : Blk w g t cs) (hb : w.grownBy w' row) (hg : some g ≠ row) : Blk w' g t cs := (hb.block g h.lt hg).trans h
theorem grown_new {W w1 : World} {cs : Array Value} {t : TypeId} {row : Option Nat} (h : ((W.alloc (.cells cs t)).drew).grownBy w1 row) (hne : some W.heap.size ≠ row) :
    Blk w1 W.heap.size t cs :=
  (h.block W.heap.size (by simp) hne).trans (Blk.new W t cs)
/-- what PutIn's first rows leave: the result's place, the copy of the places, the variable 'out' -/
structure Out (w : World) (rb gg cap ob : Nat) (ps : List Plc) (hand : Nat) (wr : World) : Prop where
  rb0 : w.heap.size ≤ rb
  g0 : w.heap.size ≤ gg
  o0 : w.heap.size ≤ ob
  hcap : ps.length ≤ cap
  res : ∃ a b, Blk wr rb 33 #[a, b]
  out : Blk wr ob 33 #[.slice (some ⟨gg, 0, none⟩) ps.length cap, .int .i64 hand]
  row : RowP wr gg ps
  ne : rb ≠ ob
  below : Below w.heap.size w wr

theorem Blk.ne_row {w : World} {g pb : Nat} {cs : Array Value} {ps : List Plc} (h : Blk w g 33 cs) (hr : RowP w pb ps) : g ≠ pb := by
  rintro rfl
  obtain ⟨cur, h2, _⟩ := hr
  unfold Blk at h h2
  rw [h] at h2
  injection h2 with h2
  injection h2 with _ h2
  exact absurd h2 (by decide)
theorem out_any {w w0 w1 wr : World} {x y : Value} {gg cap ob hand : Nat} {ps : List Plc} (hsz : w0.heap.size = w.heap.size + 1) (hB0 : Below w.heap.size w w0) (hbw : Below (w.heap.size + 1 + 1) (w0.alloc (.cells #[x, y] 33)) w1)
    (hown1 : w1.ownsRow w.heap.size 40 4 (.slice (some ⟨gg, 0, none⟩) ps.length cap) ps.length (cellsOf ps)) (hpos : 0 < ps.length)
    (hob : w.heap.size + 1 + 1 ≤ ob) (hfr : Fr w1 wr (fun b => b = ob)) (hout : Blk wr ob 33 #[.slice (some ⟨gg, 0, none⟩) ps.length cap, .int .i64 hand]) (hne : ob ≠ gg) : Out w (w.heap.size + 1) gg cap ob ps hand wr := by
  have hres : Blk w1 (w.heap.size + 1) 33 #[x, y] := by
    have := Blk.new w0 33 #[x, y]
    rw [hsz] at this
    exact this.below hbw (by omega)
  have hcap : ps.length ≤ cap := by
    rcases hown1.2 with ⟨h, _⟩ | ⟨g, cap', cur, hv, _, _, h, _⟩
    · cases h
    · injection hv with _ _ h3; omega
  have hg : w.heap.size ≤ gg := (hown1.lt gg rfl).1
  exact ⟨by omega, hg, by omega, hcap, ⟨x, y, hres.fr hfr (by omega)⟩, hout, (RowP.of_own hown1).fr hfr (fun h => hne h.symm), by omega,
    Fr.below ((hB0.alloc (by omega) _).trans (hbw.mono (by omega))) hfr (by have := hbw.size; simp only [World.size_alloc] at this; omega) (by rintro k rfl; omega)⟩
theorem out_new {w w0 w1 : World} {x y : Value} {gg cap hand : Nat} {ps : List Plc} (hsz : w0.heap.size = w.heap.size + 1) (hB0 : Below w.heap.size w w0) (hbw : Below (w.heap.size + 1 + 1) (w0.alloc (.cells #[x, y] 33)) w1)
    (hown1 : w1.ownsRow w.heap.size 40 4 (.slice (some ⟨gg, 0, none⟩) ps.length cap) ps.length (cellsOf ps)) (hpos : 0 < ps.length) :
    Out w (w.heap.size + 1) gg cap w1.heap.size ps hand (w1.alloc (.cells #[.slice (some ⟨gg, 0, none⟩) ps.length cap, .int .i64 hand] 33)) :=
  out_any hsz hB0 hbw hown1 hpos (by have := hbw.size; simp only [World.size_alloc] at this; omega) ((Fr.refl _ _).alloc _) (Blk.new _ _ _) (by have := (hown1.lt gg rfl).2; omega)
theorem out_old {w w0 w1 : World} {x y a b : Value} {gg cap ob hand : Nat} {ps : List Plc} (hsz : w0.heap.size = w.heap.size + 1) (hB0 : Below w.heap.size w w0) (hbw : Below (w.heap.size + 1 + 1) (w0.alloc (.cells #[x, y] 33)) w1)
    (hown1 : w1.ownsRow w.heap.size 40 4 (.slice (some ⟨gg, 0, none⟩) ps.length cap) ps.length (cellsOf ps)) (hpos : 0 < ps.length) (hob : w.heap.size + 1 + 1 ≤ ob) (hA : Blk w1 ob 33 #[a, b]) :
    Out w (w.heap.size + 1) gg cap ob ps hand ((w1.setCell ⟨ob, 0, none⟩ (.slice (some ⟨gg, 0, none⟩) ps.length cap)).setCell ⟨ob, 1, none⟩ (.int .i64 hand)) :=
  out_any hsz hB0 hbw hown1 hpos hob (((Fr.refl w1 (fun b => b = ob)).setCell (p := ⟨ob, 0, none⟩) (.inl rfl) _).setCell (p := ⟨ob, 1, none⟩) (.inl rfl) _) ((hA.set_ 0 (.slice (some ⟨gg, 0, none⟩) ps.length cap)).set_ 1 (.int .i64 hand)) (hA.ne_row (RowP.of_own hown1))

theorem Fr.store {w w1 : World} {g : Nat} (h : Fr w w1 (fun b => b = g)) (i : Nat) (u : Value) : Fr w (w1.setCell ⟨g, i, none⟩ u) (fun b => b = g) := h.setCell (p := ⟨g, i, none⟩) (.inl rfl) u
section
variable {w wr w' : World} {rb gg cap ob hand : Nat} {ps ps' : List Plc}
theorem Out.setRow (O : Out w rb gg cap ob ps hand wr) (hrow : RowP w' gg ps') (hlen : ps'.length = ps.length) (hfr : Fr wr w' (fun b => b = gg)) : Out w rb gg cap ob ps' hand w' := by
  obtain ⟨a, b, hres⟩ := O.res
  exact ⟨O.rb0, O.g0, O.o0, by rw [hlen]; exact O.hcap, ⟨a, b, hres.fr hfr (hres.ne_row O.row)⟩, by rw [hlen]; exact O.out.fr hfr (O.out.ne_row O.row), hrow, O.ne, Fr.below O.below hfr O.below.size (by rintro k rfl; exact O.g0)⟩
theorem Out.below' (O : Out w rb gg cap ob ps hand wr) (hb : Below wr.heap.size wr w') : Out w rb gg cap ob ps hand w' := by
  obtain ⟨a, b, hres⟩ := O.res
  exact ⟨O.rb0, O.g0, O.o0, O.hcap, ⟨a, b, hres.below hb hres.lt⟩, O.out.below hb O.out.lt, O.row.below hb O.row.lt, O.ne, O.below.trans (hb.mono O.below.size)⟩
theorem Out.setHand (O : Out w rb gg cap ob ps hand wr) (n : Nat) : Out w rb gg cap ob ps n (wr.setCell ⟨ob, 1, none⟩ (.int .i64 n)) := by
  obtain ⟨a, b, hres⟩ := O.res
  have hf : Fr wr (wr.setCell ⟨ob, 1, none⟩ (.int .i64 n)) (fun b => b = ob) := (Fr.refl wr _).store 1 _
  exact ⟨O.rb0, O.g0, O.o0, O.hcap, ⟨a, b, hres.fr hf O.ne⟩, O.out.set_ 1 _, O.row.fr hf (fun h => O.out.ne_row O.row h.symm), O.ne, Fr.below O.below hf O.below.size (by rintro k rfl; exact O.o0)⟩
theorem Out.put (O : Out w rb gg cap ob ps hand wr) (j : Nat) (hj : j < ps.length) (p : Plc) :
    Out w rb gg cap ob (ps.set j p) hand ((((wr.setCell ⟨gg, j * 4, none⟩ (.string p.key)).setCell ⟨gg, j * 4 + 1, none⟩ (.string p.val)).setCell ⟨gg, j * 4 + 2, none⟩ (.bool p.used)).setCell ⟨gg, j * 4 + 3, none⟩ (.bool p.mark)) :=
  O.setRow (O.row.put j hj p) (by simp) (((((Fr.refl wr _).store _ _).store _ _).store _ _).store _ _)
theorem Out.mark0 (O : Out w rb gg cap ob ps hand wr) (hl : hand < ps.length) : Out w rb gg cap ob (unmark ps hand) hand (wr.setCell ⟨gg, hand * 4 + 3, none⟩ (.bool false)) :=
  O.setRow (O.row.mark0 hl) (unmark_length _ _) ((Fr.refl wr _).store _ _)
/-- what is stored into the result's place changes nothing of the rest -/
theorem Out.last (O : Out w rb gg cap ob ps hand wr) (x y : Value) : RowP ((wr.setCell ⟨rb, 0, none⟩ x).setCell ⟨rb, 1, none⟩ y) gg ps ∧ Below w.heap.size w ((wr.setCell ⟨rb, 0, none⟩ x).setCell ⟨rb, 1, none⟩ y) := by
  obtain ⟨a, b, hres⟩ := O.res
  have hf : Fr wr ((wr.setCell ⟨rb, 0, none⟩ x).setCell ⟨rb, 1, none⟩ y) (fun b => b = rb) := ((Fr.refl wr (fun b => b = rb)).setCell (p := ⟨rb, 0, none⟩) (.inl rfl) _).setCell (p := ⟨rb, 1, none⟩) (.inl rfl) _
  exact ⟨O.row.fr hf (fun h => hres.ne_row O.row h.symm), Fr.below O.below hf O.below.size (by rintro k rfl; exact O.rb0)⟩
end
theorem putR_at {ps : List Plc} {hand : Nat} {k v : ByteArray} {i : Nat} (h : spot ps k = some i) : putR ps hand k v = ⟨ps.set i (fresh k v), hand, none⟩ := by unfold putR; rw [h]
theorem putR_full {ps : List Plc} {hand : Nat} {k v : ByteArray} (h : spot ps k = none) {qs : List Plc} {h' : Nat} (hq : sweep (marks ps) ps hand = (qs, h')) (hl : h' < qs.length) : putR ps hand k v = ⟨qs.set h' (fresh k v), (h' + 1) % ps.length, some qs[h'].key⟩ := by
  unfold putR
  rw [h, hq]
  simp only [keyAt, List.getElem?_eq_getElem hl]
end Go.Proofs.YtolgkepkdidjcaaDoor
