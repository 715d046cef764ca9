/- The walks of the writer: numbers and texts behind what is written. -/
import Derived.Test.YtmpjfomfibkbnaaGreatDoorPackP
import Derived.Test.YtmpjfomfibkbnaaGreatDoorPackS
import Derived.Test.YtmpjfomfibkbnaaGreatDoorBunRow
import Derived.Deep.AppendSrc
import Derived.Lib.AppendStr
set_option linter.unusedSimpArgs false
set_option linter.unusedVariables false
namespace Go.Proofs.YtmpjfomfibkbnaaGreatDoor
open Go.RowKit

def bytesV (l : List UInt8) : List Value := l.map fun x => .int .u8 x.toNat
theorem bytesV_length (l : List UInt8) : (bytesV l).length = l.length := List.length_map _
theorem bytesV_append (l m : List UInt8) : bytesV (l ++ m) = bytesV l ++ bytesV m := List.map_append
theorem info_byte : (Tryz.prog.info? 5).map (fun i => (i.zero, i.size, i.bytes)) = some (some (.int .u8 0), 1, 1) := by kernel_rfl
/-- What a writer has written. -/
structure Wr (base : Nat) (w : World) (p : Nat) (l : List UInt8) : Prop where
  lo : base ≤ p
  at_ : ∃ V, Blk w p 53 #[V] ∧ w.ownsRow base 5 1 V l.length (bytesV l)
theorem Wr.keep {base p : Nat} {w W : World} {l : List UInt8} (h : Wr base w p l) (hb : Below w.heap.size w W) : Wr base W p l :=
  ⟨h.lo, let ⟨V, h1, h2⟩ := h.at_; ⟨V, h1.below hb h1.lt, own_below h2 hb (Nat.le_refl _)⟩⟩
theorem wr_blk_ne {w : World} {base : Nat} {V : Value} {n p : Nat} {xs : List Value} {cs : Array Value} (h : w.ownsRow base 5 1 V n xs) (k : Blk w p 53 cs) : V.ownBlock ≠ some p := by
  intro hg
  obtain ⟨_, ⟨h2, _⟩ | ⟨g1, cap, cur, hv, hb, hh, r⟩⟩ := h
  · rw [h2] at hg; cases hg
  · rw [hv] at hg; injection hg with hg; subst hg
    unfold Blk at k
    rw [hh] at k; injection k with k; injection k with _ k
    exact absurd k (by decide)
theorem Wr.put {base p : Nat} {w W w4 : World} {l m : List UInt8} {V v4 : Value} (h : Wr base w p l) (hbox : Blk w p 53 #[V]) (hrow : w.ownsRow base 5 1 V l.length (bytesV l)) (hb : Below w.heap.size w W) (hg : W.grownBy w4 V.ownBlock)
    (hown : w4.ownsRow base 5 1 v4 (l.length + m.length) (bytesV l ++ bytesV m)) : Wr base (w4.setCell ⟨p, 0, none⟩ v4) p (l ++ m) := by
  have hbx : Blk w4 p 53 #[V] := (hg.block p (Nat.lt_of_lt_of_le hbox.lt hb.size) (fun e => wr_blk_ne hrow hbox e.symm)).trans (hbox.below hb hbox.lt)
  refine ⟨h.lo, v4, hbx.set_ 0 v4, ?_⟩
  rw [List.length_append, bytesV_append]
  refine own_keep hown fun k hk _ => Below.heap_setCell _ _ _ _ fun e => ?_
  subst e
  exact wr_blk_ne hown hbx hk
/-- What a writer may turn: its box, and rows of bytes, beyond base. -/
def WSet (base p : Nat) (w : World) (k : Nat) : Prop := base ≤ k ∧ (k = p ∨ ∃ cur fr, w.heap[k]? = some (.cells cur 5 fr))
theorem WSet.trans {base p : Nat} {w w1 w' : World} (h : Fr w w1 (WSet base p w)) (k : Fr w1 w' (WSet base p w1)) : Fr w w' (WSet base p w) :=
  h.and k fun i hi => by
    by_cases hs : WSet base p w i
    · exact .inl hs
    · by_cases hlt : w.heap.size ≤ i
      · exact .inr hlt
      · refine absurd ?_ hs
        have hb := h.block i (by omega) hs
        obtain ⟨h1, h2 | ⟨cur, fr, h2⟩⟩ := hi
        · exact ⟨h1, .inl h2⟩
        · exact ⟨h1, .inr ⟨cur, fr, hb ▸ h2⟩⟩
theorem WSet.below {base p : Nat} {w w' : World} (h : Fr w w' (WSet base p w)) (hs : base ≤ w.heap.size) : Below base w w' := Fr.below (Below.refl base w) h hs fun _ hi => hi.1
theorem WSet.blk {base p : Nat} {w w' : World} (h : Fr w w' (WSet base p w)) {g : Nat} {t : TypeId} {cs : Array Value} (hb : Blk w g t cs) (hne : g ≠ p) (ht : t ≠ 5) : Blk w' g t cs :=
  hb.fr h fun hw => by
    obtain ⟨_, h2 | ⟨cur, fr, h2⟩⟩ := hw
    · exact hne h2
    · have h3 := (show w.heap[g]? = _ from hb).symm.trans h2
      injection h3 with h3; injection h3 with _ h3
      exact ht h3
theorem WSet.own {base p : Nat} {w w' : World} (h : Fr w w' (WSet base p w)) {b0 : Nat} {e : TypeId} {size n : Nat} {v : Value} {xs : List Value} (ho : w.ownsRow b0 e size v n xs) (hne : v.ownBlock ≠ some p) (ht : e ≠ 5) : w'.ownsRow b0 e size v n xs :=
  own_keep ho fun g hg hlt => h.block g hlt fun hw => by
    obtain ⟨_, h2 | ⟨cur, fr, h2⟩⟩ := hw
    · exact hne (by rw [hg, h2])
    · obtain ⟨_, ⟨hv, _⟩ | ⟨g1, cap, cur1, hv, hb, hh, r⟩⟩ := ho
      · rw [hv] at hg; cases hg
      · rw [hv] at hg; injection hg with hg; subst hg
        rw [hh] at h2; injection h2 with h2; injection h2 with _ h2
        exact ht h2
theorem Wr.set_ {base p : Nat} {w W w4 : World} {l : List UInt8} {V v4 : Value} (h : Wr base w p l) (hrow : w.ownsRow base 5 1 V l.length (bytesV l)) (hs : base ≤ w.heap.size) (hb : Below w.heap.size w W) (hg : W.grownBy w4 V.ownBlock) : Fr w (w4.setCell ⟨p, 0, none⟩ v4) (WSet base p w) := by
  refine ((Fr.of_below hb _).grown hg fun k hk => .inl ?_).setCell (p := ⟨p, 0, none⟩) (.inl ⟨h.lo, .inl rfl⟩) v4
  obtain ⟨_, ⟨hv, _⟩ | ⟨g1, cap, cur1, hv, hb1, hh, r⟩⟩ := hrow
  · rw [hv] at hk; cases hk
  · rw [hv] at hk; injection hk with hk; subst hk
    exact ⟨hb1, .inr ⟨_, _, hh⟩⟩

theorem wgrown_from {w0 W w' : World} {row : Option Nat} (hg : W.grownBy w' row) (hb : Below w0.heap.size w0 W) : Below w0.heap.size w0 W ∧ W.grownBy w' row := ⟨hb, hg⟩
def numB (n size : Nat) : List UInt8 := (List.range size).map fun k => b1 (n >>> (8 * (size - 1 - k)))
theorem numB_one (n : Nat) : numB n 1 = [b1 n] := rfl
theorem numB_two (n : Nat) : numB n 2 = be2 n := by unfold numB be2; simp [List.range_succ, Nat.shiftRight_eq_div_pow]
theorem numB_four (n : Nat) : numB n 4 = be4 n := by unfold numB be4; simp [List.range_succ, Nat.shiftRight_eq_div_pow]
theorem numB_length (n size : Nat) : (numB n size).length = size := by unfold numB; simp
theorem numB_succ (n size k : Nat) (hk : k < size) : (numB n size).take (k + 1) = (numB n size).take k ++ [b1 (n >>> (8 * (size - 1 - k)))] := by
  rw [List.take_succ_eq_append_getElem (by rw [numB_length]; exact hk)]
  congr 2
  unfold numB; simp

set_option maxHeartbeats 3200000 in
set_option maxRecDepth 100000 in
theorem number_any (base p n size : Nat) (l : List UInt8) (w : World) (h : Wr base w p l) (hs : base ≤ w.heap.size) (hl : l.length ≤ 1000000) (hsz : size ≤ 4) (h1 : 1 ≤ size) :
    Calls Tryz.prog 24 #[.pointer (some ⟨p, 0, none⟩), .int .u32 n, .int .i64 size] w fun e w' => e = .returned (.tuple #[]) ∧ Wr base w' p (l ++ numB n size) ∧ Fr w w' (WSet base p w) ∧ base ≤ w'.heap.size := by
  have HW := Lib.hid h
  clear h
  go_enter Tryz.func24, Tryz.ntmps24
  have s0 : (1 : Int) ≤ (size : Int) := by omega
  have s1 : (size : Int) ≤ 4 := by omega
  go_wp2_with fail
  go_loopw [6] (fun s wr => ∃ (k : Nat) (z : Int), k ≤ size ∧ z = 8 * ((size : Int) - 1 - k) ∧ s = .int .i64 z ∧ Wr base wr p (l ++ (numB n size).take k) ∧ Fr w wr (WSet base p w) ∧ base ≤ wr.heap.size) (fun s _ => (intOf s + 8).toNat)
  case atStart => exact ⟨0, _, Nat.zero_le _, by omega, rfl, by rw [List.take_zero, List.append_nil]; exact HW.out, Fr.refl _ _, hs⟩
  case round =>
    obtain ⟨k, z, hk, hz, rfl, hwr, hb, hbs⟩ := hrel
    have HWr := Lib.hid hwr
    have HB := Lib.hid hb
    have HZ := Lib.hid hz
    have z0 : z ≤ 24 := by omega
    have z1 : -8 ≤ z := by omega
    clear hwr hb
    by_cases hlt : k < size
    · have z2 : (0 : Int) ≤ z := by omega
      have z3 : z.toNat = 8 * (size - 1 - k) := by omega
      have HSu := Lib.hid (numB_succ n size k hlt)
      obtain ⟨V, hbox, hrow⟩ := HWr.out.at_
      obtain ⟨Av, cv, rfl, _⟩ := own_slice hrow
      have hlen : (l ++ (numB n size).take k).length ≤ 1000004 := by rw [List.length_append, List.length_take, numB_length]; omega
      have HBy : Hid (IntKind.u8.wrap ((n : Int) / 2 ^ z.toNat) = ((b1 (n >>> (8 * (size - 1 - k)))).toNat : Int)) := Lib.hid (by
        rw [IntKind.wrap_u8', z3, b1_toNat, Nat.shiftRight_eq_div_pow]; simp)
      generalize b1 (n >>> (8 * (size - 1 - k))) = x at *
      generalize hLe : l ++ (numB n size).take k = L at *
      have HLe := Lib.hid hLe
      have HBox := Lib.hid hbox
      have HRow := Lib.hid hrow
      have b0 : wr.cell? ⟨p, 0, none⟩ = some (.slice Av L.length cv) := (hbox.cell 0).trans rfl
      have f0 := hbox.frozen 0
      have hpl := hbox.lt
      have HnX : Hid (∀ (W : World), Below wr.heap.size wr W → ∀ q u, ([Value.int .u8 x.toNat] : List Value)[q]? = some u → (W.alloc (.cells #[.int .u8 x.toNat] 5)).cell? ⟨W.heap.size, 0 + q, none⟩ = some u) := Lib.hid fun W hW q u hq => by
        rw [Nat.zero_add, (Blk.new W 5 #[.int .u8 x.toNat]).cell q]; simpa using hq
      have hby := HBy.out
      clear hbox hrow hLe hz z3 HBy
      go_wp2_with fail
      go_region_law
        ((refine step_append_any (by rfl) _ _ 53 (by rfl) base 5 Tryz.underlying53 info_byte rfl (by decide) (bytesV L) (by rfl) (own_below HRow.out (by repeat (first | exact Below.refl _ _ | refine Below.drew ?_ | refine below_drewN ?_ _ | refine Below.alloc ?_ (by simp) _)) (Nat.le_refl _)) [Value.int .u8 x.toNat] (by rfl) (by rfl) (.inr ⟨_, _, rfl, HnX.out _ (by repeat (first | exact Below.refl _ _ | refine Below.drew ?_ | refine below_drewN ?_ _))⟩) (by simp [Value.oneCell']) (by unfold maxLen; omega) (by omega) (by simp; omega) ?_
          intro v4 w4 hown4 hgrow4
          have hbW := (wgrown_from hgrow4 (w0 := wr) (by repeat (first | exact Below.refl _ _ | refine Below.drew ?_ | refine below_drewN ?_ _ | refine Below.alloc ?_ (by simp) _))).1
          have hbx4 : Blk w4 p 53 #[.slice Av L.length cv] := (hgrow4.block p (Nat.lt_of_lt_of_le hpl hbW.size) (fun e => wr_blk_ne HRow.out HBox.out e.symm)).trans (HBox.out.below hbW hpl)
          have c0 : w4.cell? ⟨p, 0, none⟩ = some (.slice Av L.length cv) := (hbx4.cell 0).trans rfl
          have c1 := hbx4.frozen 0
          have HN := Lib.hid (HWr.out.put (m := [x]) HBox.out HRow.out hbW hgrow4 hown4)
          have HN2 := Lib.hid (WSet.trans HB.out (HWr.out.set_ (v4 := v4) HRow.out hbs hbW hgrow4))
          have hs4 : base ≤ w4.heap.size := by have := hbW.size; have := hgrow4.size; omega
          obtain ⟨A4, c4, hv4, _⟩ := own_slice hown4
          have hv5 : v4 = .slice A4 (L.length + 1) c4 := by rw [hv4]
          subst hv5
          clear hbW hbx4 hgrow4 hown4 b0 f0 hv4))
      all_goals
        have HN3 : Hid (Wr base (w4.setCell ⟨p, 0, none⟩ (.slice A4 (L.length + 1) c4)) p (l ++ (numB n size).take (k + 1))) := Lib.hid (by
          rw [HSu.out, ← List.append_assoc, HLe.out]; exact HN.out)
        clear HN
        go_wp2_with fail
        exact ⟨⟨k + 1, z - 8, by omega, by have := HZ.out; omega, by first | rfl | go_num, HN3.out, HN2.out, by simpa using hs4⟩, by simp [intOf]; omega⟩
    · have z2 : z < 0 := by omega
      have hd : decide ((0 : Int) ≤ z) = false := decide_eq_false (by omega)
      have hke : Hid ((numB n size).take k = numB n size) := Lib.hid (List.take_of_length_le (by rw [numB_length]; omega))
      clear hz
      go_wp2_with fail
      go_end0
      exact ⟨rfl, by have := HWr.out; rwa [hke.out] at this, HB.out, hbs⟩

theorem step_append_full {P : Program} {w : World} {ops : Array Oper} {o : Oper} {a : Act} {K : Act → World → Prop} {Q : Exit → Act → World → Prop} {E : Prop} (hgd : o.guard = none) (s x : Operand) (t : TypeId)
    (ho : o.op = .call { callee := .builtin .append, args := #[s, x], argTypes := #[t, t] })
    (e : TypeId) {z : Value} {size bytes : Nat} (ht : P.underlying t = some (.slice e)) (hi : (P.info? e).map (fun i => (i.zero, i.size, i.bytes)) = some (some z, size, bytes))
    (hzs : z.cells.size = size) (hsz : 0 < size)
    (g n : Nat) (olds : List Value) (hs : a.eval s = .slice (some ⟨g, 0, none⟩) n n) (hlo : olds.length = n * size) (holds : ∀ j u, olds[j]? = some u → w.cell? ⟨g, j, none⟩ = some u)
    (b m c : Nat) (news : List Value) (hx : a.eval x = .slice (some ⟨b, 0, none⟩) m c) (hl : news.length = m * size) (hnews : ∀ j u, news[j]? = some u → w.cell? ⟨b, 0 + j, none⟩ = some u) (hm : 0 < m)
    (h63 : n + m ≤ maxLen) (hbytes : (n + m) * bytes ≤ 140737488355328)
    (h : ∀ v' w', w'.ownsRow w.heap.size e size v' (n + m) (olds ++ news) → w.grownBy w' none → K (a.put o.dst v') w') :
    if Region.wanted o (yielded ops a.tmps) = true then Oper.wp P o a w K Q else E := by
  have hw : Region.wanted o (yielded ops a.tmps) = true := by simp [Region.wanted, hgd]
  rw [if_pos hw]
  obtain ⟨i, hi, hz0, hz1, hz2⟩ := info_parts hi
  have had : ∀ (q j : Nat), ((⟨q, 0, none⟩ : Addr).add j) = ⟨q, j, none⟩ := fun q j => by
    unfold Addr.add
    split
    · rename_i h0
      have h0' : j = 0 := by simpa using h0
      subst h0'; rfl
    · simp
  obtain ⟨v', w', hr, h2, h3⟩ := run_append_arg_grows (P := P) (w := w) t o.type e i z size bytes ht hi hz0 hz1 hz2 hzs hsz ⟨g, 0, none⟩ n n olds hlo (fun j u hj => by rw [had]; exact holds j u hj) ⟨b, 0, none⟩ m c news hl (fun j u hj => by rw [had]; simpa using hnews j u hj) (by omega) h63 hbytes
  unfold Oper.wp execOp
  simp only [ho, resolve, invoke, builtin, Sem.run_bind, Sem.run_pure, Result.andThen_ok, List.map_toArray, List.map_cons, List.map_nil, hs, hx, hr]
  exact h v' w' h2 h3
/-- A writer that holds a literal's bytes. -/
structure Wm (base : Nat) (w : World) (p : Nat) (l : List UInt8) : Prop where
  lo : base ≤ p
  at_ : ∃ g, g ≠ p ∧ Blk w p 53 #[.slice (some ⟨g, 0, none⟩) l.length l.length] ∧ ∀ j u, (bytesV l)[j]? = some u → w.cell? ⟨g, j, none⟩ = some u

set_option maxHeartbeats 3200000 in
set_option maxRecDepth 100000 in
theorem number_first (base p n : Nat) (l : List UInt8) (w : World) (h : Wm base w p l) (hs : base ≤ w.heap.size) (hl : l.length ≤ 1000000) :
    Calls Tryz.prog 24 #[.pointer (some ⟨p, 0, none⟩), .int .u32 n, .int .i64 1] w fun e w' => e = .returned (.tuple #[]) ∧ Wr base w' p (l ++ numB n 1) ∧ Fr w w' (WSet base p w) ∧ base ≤ w'.heap.size := by
  obtain ⟨g, hgp, hbox, hcells⟩ := h.at_
  have hlo := h.lo
  have HBox := Lib.hid hbox
  have HC : Hid (∀ W, Below w.heap.size w W → ∀ j u, (bytesV l)[j]? = some u → W.cell? ⟨g, j, none⟩ = some u) := Lib.hid fun W hW j u hj => by
    have hx := hcells j u hj
    exact (hW.cell (p := ⟨g, j, none⟩) (World.block_lt_of_cell? w _ hx)).trans hx
  have HBy : Hid (IntKind.u8.wrap (n : Int) = ((b1 n).toNat : Int)) := Lib.hid (by rw [IntKind.wrap_u8', b1_toNat]; simp)
  have b0 : w.cell? ⟨p, 0, none⟩ = some (.slice (some ⟨g, 0, none⟩) l.length l.length) := (hbox.cell 0).trans rfl
  have f0 := hbox.frozen 0
  have hpl := hbox.lt
  have HX : Hid (numB n 1 = [b1 n]) := Lib.hid rfl
  generalize b1 n = x at *
  have HnX : Hid (∀ (W : World), ∀ q u, ([Value.int .u8 x.toNat] : List Value)[q]? = some u → (W.alloc (.cells #[.int .u8 x.toNat] 5)).cell? ⟨W.heap.size, 0 + q, none⟩ = some u) := Lib.hid fun W q u hq => by
    rw [Nat.zero_add, (Blk.new W 5 #[.int .u8 x.toNat]).cell q]; simpa using hq
  clear h hbox hcells
  go_enter Tryz.func24, Tryz.ntmps24
  go_wp2_with fail
  go_loopw [6] (fun s wr => ∃ z : Int, s = .int .i64 z ∧ ((z = 0 ∧ wr = w) ∨ (z = -8 ∧ Wr base wr p (l ++ numB n 1) ∧ Fr w wr (WSet base p w) ∧ base ≤ wr.heap.size))) (fun s _ => (intOf s + 8).toNat)
  case atStart => exact ⟨0, by first | rfl | go_num, .inl ⟨rfl, rfl⟩⟩
  case round =>
    obtain ⟨z, rfl, ⟨rfl, rfl⟩ | ⟨rfl, h1, h2, h3⟩⟩ := hrel
    · have hby := HBy.out
      go_wp2_with fail
      go_region_law
        ((refine step_append_full (by rfl) _ _ 53 (by rfl) 5 Tryz.underlying53 info_byte rfl (by decide) g l.length (bytesV l) (by rfl) (by rw [bytesV_length, Nat.mul_one]) (HC.out _ (by repeat (first | exact Below.refl _ _ | refine Below.drew ?_ | refine below_drewN ?_ _ | refine Below.alloc ?_ (by simp) _))) _ 1 1 [Value.int .u8 x.toNat] (by rfl) (by rfl) (by first | exact HnX.out _ | exact HnX.out wr | exact HnX.out wr.drew) (by decide) (by unfold maxLen; omega) (by omega) ?_
          intro v4 w4 hown4 hgrow4
          have hb4 : Below wr.heap.size wr w4 := Below.grown (by repeat (first | exact Below.refl _ _ | refine Below.drew ?_ | refine below_drewN ?_ _ | refine Below.alloc ?_ (by simp) _)) hgrow4 (by simp) (fun k hk => by cases hk)
          have hbx4 := HBox.out.below hb4 hpl
          have c0 : w4.cell? ⟨p, 0, none⟩ = some (.slice (some ⟨g, 0, none⟩) l.length l.length) := (hbx4.cell 0).trans rfl
          have c1 := hbx4.frozen 0
          have HB4 := Lib.hid hb4
          have HBx4 := Lib.hid hbx4
          have HO4 := Lib.hid (own_mono hown4 (base' := base) (by simp; omega))
          have HNe : Hid (v4.ownBlock ≠ some p) := Lib.hid fun e => by have := (own_lt hown4 e).1; simp at this; omega
          obtain ⟨A4, c4, hv4, _⟩ := own_slice hown4
          have hv5 : v4 = .slice A4 (l.length + 1) c4 := by rw [hv4]
          subst hv5
          clear hb4 hbx4 hown4 hgrow4 hv4 b0 f0))
      all_goals
        have HW4 : Hid (Wr base (w4.setCell ⟨p, 0, none⟩ (.slice A4 (l.length + 1) c4)) p (l ++ numB n 1)) := Lib.hid ⟨hlo, _, HBx4.out.set_ 0 _, by
          rw [HX.out, List.length_append, bytesV_append]
          exact own_keep HO4.out fun k hk _ => Below.heap_setCell _ _ _ _ fun (e : k = p) => HNe.out (by rw [hk, e])⟩
        have HF4 : Hid (Fr wr (w4.setCell ⟨p, 0, none⟩ (.slice A4 (l.length + 1) c4)) (WSet base p wr)) := Lib.hid ((Fr.of_below HB4.out _).setCell (p := ⟨p, 0, none⟩) (.inl ⟨hlo, .inl rfl⟩) _)
        have hs4 : base ≤ w4.heap.size := Nat.le_trans hs HB4.out.size
        go_wp2_with fail
        exact ⟨⟨-8, by first | rfl | go_num, .inr ⟨rfl, HW4.out, HF4.out, by simpa using hs4⟩⟩, by simp [intOf]⟩
    · have H1 := Lib.hid h1
      have H2 := Lib.hid h2
      clear h1 h2
      go_wp2_with fail
      go_end0
      exact ⟨rfl, H1.out, H2.out, h3⟩

set_option maxHeartbeats 3200000 in
set_option maxRecDepth 100000 in
theorem wtext_of (base p size : Nat) (s : ByteArray) (l : List UInt8) (w : World) (hl : l.length ≤ 900000) (hsz : size ≤ 4) (hn : s.size ≤ 100000)
    (hnum : Calls Tryz.prog 24 #[.pointer (some ⟨p, 0, none⟩), .int .u32 s.size, .int .i64 size] w fun e w' => e = .returned (.tuple #[]) ∧ Wr base w' p (l ++ numB s.size size) ∧ Fr w w' (WSet base p w) ∧ base ≤ w'.heap.size) :
    Calls Tryz.prog 23 #[.pointer (some ⟨p, 0, none⟩), .string s, .int .i64 size] w fun e w' => e = .returned (.tuple #[]) ∧ Wr base w' p (l ++ (numB s.size size ++ bts s)) ∧ Fr w w' (WSet base p w) ∧ base ≤ w'.heap.size := by
  have HN := Lib.hid hnum
  clear hnum
  go_enter Tryz.func23, Tryz.ntmps23
  go_wp2_with fail
  refine HN.out.mono ?_
  clear HN
  rintro e w1 ⟨rfl, hw1, hb1, hs1⟩
  have HW1 := Lib.hid hw1
  have HB1 := Lib.hid hb1
  obtain ⟨V, hbox, hrow⟩ := hw1.at_
  obtain ⟨Av, cv, rfl, _⟩ := own_slice hrow
  have hlen : (l ++ numB s.size size).length ≤ 900004 := by rw [List.length_append, numB_length]; omega
  generalize hLe : l ++ numB s.size size = L at *
  have HLe := Lib.hid hLe
  have HBox := Lib.hid hbox
  have HRow := Lib.hid hrow
  have b0 : w1.cell? ⟨p, 0, none⟩ = some (.slice Av L.length cv) := (hbox.cell 0).trans rfl
  have f0 := hbox.frozen 0
  have hpl := hbox.lt
  clear hbox hrow hLe hw1 hb1
  obtain ⟨i0, hi0, hz0, hz1, hz2⟩ := info_parts info_byte
  go_wp2_with (at_builtin; refine Lib.wpList_append_own_string _ rfl _ _ 53 9 rfl base 5 i0 Tryz.underlying53 Tryz.underlying9 hi0 hz0 hz1 hz2 _ L.length (bytesV L) rfl HRow.out s rfl (by unfold maxLen; omega) (by omega) hs1 ?_)
  intro v4 w4 hown4 hgrow4 _
  have hbx4 : Blk w4 p 53 #[.slice Av L.length cv] := (hgrow4.block p hpl (fun e => wr_blk_ne HRow.out HBox.out e.symm)).trans HBox.out
  have c0 : w4.cell? ⟨p, 0, none⟩ = some (.slice Av L.length cv) := (hbx4.cell 0).trans rfl
  have c1 := hbx4.frozen 0
  have hown5 : w4.ownsRow base 5 1 v4 (L.length + (bts s).length) (bytesV L ++ bytesV (bts s)) := by rw [bts_len]; exact hown4
  have HN := Lib.hid (HW1.out.put HBox.out HRow.out (Below.refl _ _) hgrow4 hown5)
  have HN2 := Lib.hid (WSet.trans HB1.out (HW1.out.set_ (v4 := v4) HRow.out hs1 (Below.refl _ _) hgrow4))
  have hs4 : base ≤ w4.heap.size := by have := hgrow4.size; omega
  obtain ⟨A4, c4, hv4, _⟩ := own_slice hown4
  have hv5 : v4 = .slice A4 (L.length + s.size) c4 := by rw [hv4]
  subst hv5
  clear hbx4 hgrow4 hown4 hown5 b0 f0 hv4
  go_wp2_with fail
  go_end0
  refine ⟨rfl, ?_, HN2.out, by simpa using hs4⟩
  rw [← List.append_assoc, HLe.out]
  exact HN.out
theorem wtext_any (base p size : Nat) (s : ByteArray) (l : List UInt8) (w : World) (h : Wr base w p l) (hs : base ≤ w.heap.size) (hl : l.length ≤ 900000) (hsz : size ≤ 4) (h1 : 1 ≤ size) (hn : s.size ≤ 100000) :
    Calls Tryz.prog 23 #[.pointer (some ⟨p, 0, none⟩), .string s, .int .i64 size] w fun e w' => e = .returned (.tuple #[]) ∧ Wr base w' p (l ++ (numB s.size size ++ bts s)) ∧ Fr w w' (WSet base p w) ∧ base ≤ w'.heap.size :=
  wtext_of base p size s l w hl hsz hn (number_any base p s.size size l w h hs (by omega) hsz h1)
theorem wtext_first (base p : Nat) (s : ByteArray) (l : List UInt8) (w : World) (h : Wm base w p l) (hs : base ≤ w.heap.size) (hl : l.length ≤ 900000) (hn : s.size ≤ 100000) :
    Calls Tryz.prog 23 #[.pointer (some ⟨p, 0, none⟩), .string s, .int .i64 1] w fun e w' => e = .returned (.tuple #[]) ∧ Wr base w' p (l ++ (numB s.size 1 ++ bts s)) ∧ Fr w w' (WSet base p w) ∧ base ≤ w'.heap.size :=
  wtext_of base p 1 s l w hl (by decide) hn (number_first base p s.size l w h hs (by omega))
end Go.Proofs.YtmpjfomfibkbnaaGreatDoor
