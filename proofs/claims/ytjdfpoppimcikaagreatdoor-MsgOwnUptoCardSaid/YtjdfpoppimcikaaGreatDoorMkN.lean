/- The reader's cut, need, word. -/
import Derived.Test.YtjdfpoppimcikaaGreatDoorShelfH
import Derived.Test.YtjdfpoppimcikaaGreatDoorIdxA
import Derived.Test.YtjdfpoppimcikaaGreatDoorLexB
import Derived.Test.YtjdfpoppimcikaaGreatDoorGrpB
namespace Go.Proofs.YtjdfpoppimcikaaGreatDoor
open Go.RowKit

/-- a reader: what is left, how deep it is -/
def Rdr (W : World) (k : Nat) (l : List UInt8) (d : Int) : Prop := Blk W k 72 #[.string (str l), .int .i64 d]
def formP : List PanicEntry := [{ v := .iface 67 (.int .i64 3), recovered := false }]
/-- only the reader's block has turned -/
abbrev FrK (k : Nat) (w w' : World) : Prop := Fr w w' (· = k)
theorem Rdr.lt {W : World} {k : Nat} {l : List UInt8} {d : Int} (h : Rdr W k l d) : k < W.heap.size := Blk.lt (t := 72) h
theorem Rdr.on {W W' : World} {k : Nat} {l : List UInt8} {d : Int} (h : Rdr W k l d) (hb : Below W.heap.size W W') : Rdr W' k l d := Blk.below (t := 72) h hb h.lt
theorem Rdr.put {W : World} {k : Nat} {l : List UInt8} {d : Int} (h : Rdr W k l d) (r : List UInt8) : Rdr (W.setCell ⟨k, 0, none⟩ (.string (str r))) k r d := Blk.set_ (t := 72) h 0 (.string (str r))
theorem str_data (l : List UInt8) : (str l).data.toList = l := rfl
theorem str_of (l : List UInt8) : (⟨l.toArray⟩ : ByteArray) = str l := rfl
theorem trim_cut {p l r : List UInt8} (h : cutL p l = some r) : Lib.trimPrefix l p = r ∧ Lib.hasPrefix l p = true := by
  unfold cutL at h
  split at h
  · rename_i h1
    injection h with h
    refine ⟨?_, h1⟩
    unfold Lib.trimPrefix
    rw [if_pos h1, h]
  · cases h
theorem trim_no {p l : List UInt8} (h : cutL p l = none) : Lib.hasPrefix l p = false := by
  unfold cutL at h
  split at h
  · cases h
  · rename_i h1; simpa using h1
set_option maxHeartbeats 1600000 in
set_option maxRecDepth 100000 in
theorem cut_any (k : Nat) (l : List UInt8) (d : Int) (head : ByteArray) (w : World) (h : Rdr w k l d) :
    Calls Tryz.prog 40 #[.pointer (some ⟨k, 0, none⟩), .string head] w fun e w' => e = .returned (.bool (cutL (bts head) l).isSome) ∧ Rdr w' k ((cutL (bts head) l).getD l) d ∧ FrK k w w' := by
  have HC := Lib.hid (Tryz.strings_CutPrefix (str l) head w)
  rw [str_data, str_of] at HC
  have c0 := (Blk.cell (t := 72) h 0).trans (show _ = some (.string (str l)) from rfl)
  have f0 := Blk.frozen (t := 72) h 0
  have H := Lib.hid h
  have HH : Hid (head.data.toList = bts head) := Lib.hid rfl
  rw [HH.out] at HC
  cases ho : cutL (bts head) l with
  | some r =>
    obtain ⟨e1, e2⟩ := trim_cut ho
    rw [e1, e2] at HC
    clear h ho e1 e2
    generalize str l = L at *
    go_enter Tryz.func40, Tryz.ntmps40
    go_wp2_with fail
    refine HC.out.mono ?_
    clear HC
    rintro e w1 ⟨rfl, rfl⟩
    go_wp2_with fail
    go_ret
    exact ⟨rfl, H.out.put r, (Fr.refl w1 (· = k)).setCell (p := ⟨k, 0, none⟩) (.inl rfl) _⟩
  | none =>
    have e2 := trim_no ho
    rw [e2] at HC
    generalize str (Lib.trimPrefix l (bts head)) = T0 at *
    clear h ho e2
    go_enter Tryz.func40, Tryz.ntmps40
    go_wp2_with fail
    refine HC.out.mono ?_
    clear HC
    rintro e w1 ⟨rfl, rfl⟩
    go_wp2_with fail
    go_ret
    exact ⟨rfl, H.out, Fr.refl _ _⟩
/-- what need leaves -/
def NeedR (k : Nat) (d : Int) (l : List UInt8) (o : Option (List UInt8)) (w : World) (e : Ending) (w' : World) : Prop :=
  FrK k w w' ∧ match o with
    | none => e = .panicked formP ∧ Rdr w' k l d
    | some r => e = .returned (.tuple #[]) ∧ Rdr w' k r d
set_option maxHeartbeats 1600000 in
set_option maxRecDepth 100000 in
theorem need_any (k : Nat) (l : List UInt8) (d : Int) (head : ByteArray) (w : World) (h : Rdr w k l d) :
    Calls Tryz.prog 73 #[.pointer (some ⟨k, 0, none⟩), .string head] w fun e w' => NeedR k d l (cutL (bts head) l) w e w' := by
  have HC := Lib.hid (cut_any k l d head w h)
  clear h
  cases ho : cutL (bts head) l with
  | some r =>
    rw [ho] at HC
    clear ho
    go_enter Tryz.func73, Tryz.ntmps73
    go_wp2_with fail
    refine HC.out.mono ?_
    clear HC
    rintro e w1 ⟨rfl, hR, hF⟩
    have HR := Lib.hid (And.intro hR hF)
    clear hR hF
    go_wp2_with fail
    go_end0
    exact ⟨HR.out.2, rfl, HR.out.1⟩
  | none =>
    rw [ho] at HC
    clear ho
    go_enter Tryz.func73, Tryz.ntmps73
    go_wp2_with fail
    refine HC.out.mono ?_
    clear HC
    rintro e w1 ⟨rfl, hR, hF⟩
    have HR := Lib.hid (And.intro hR hF)
    clear hR hF
    go_wp2_with fail
    exact ⟨rfl, HR.out.2, rfl, HR.out.1⟩
def WordR (k : Nat) (d : Int) (l : List UInt8) (o : Option (List UInt8 × List UInt8)) (w : World) (e : Ending) (w' : World) : Prop :=
  FrK k w w' ∧ match o with
    | none => e = .panicked formP ∧ Rdr w' k l d
    | some p => e = .returned (.string (str p.1)) ∧ Rdr w' k p.2 d
/-- what strings.IndexAny does at these signs -/
def IdxOk (ends : ByteArray) : Prop := ∀ (l : List UInt8) (W : World), l.length ≤ 1000000000 → Calls Tryz.prog 111 #[.string (str l), .string ends] W fun e w' => e = .returned (.int .i64 (Lib.indexAny l (bts ends))) ∧ Below W.heap.size W w'
theorem idx_two (X : ByteArray) (hX : X.size = 2) (hlo : ∀ x ∈ X.data.toList, x.toNat < 128) : IdxOk X := fun l W hl => by
  have h := indexAny_two (str l) X hX hlo (by rw [str_size]; omega) W
  rw [str_data] at h
  exact h
theorem idx_one : IdxOk ⟨#[32]⟩ := fun l W _ => by
  have h := Tryz.strings_IndexAny_one (str l) ⟨#[32]⟩ W rfl (fun j b hb => by
    have := List.mem_of_getElem? hb
    simp at this
    rw [this]; decide)
  rw [str_data] at h
  exact h.mono fun e w' ⟨h1, h2⟩ => ⟨h1, h2 ▸ Below.refl _ _⟩
theorem idx_ends : IdxOk ⟨#[44, 125]⟩ := idx_two _ rfl (by decide)
theorem idx_off : IdxOk ⟨#[32, 125]⟩ := idx_two _ rfl (by decide)
theorem indexAny_lt {l e : List UInt8} (h : 0 ≤ Lib.indexAny l e) : (Lib.indexAny l e).toNat ≤ l.length := by
  induction l with
  | nil => exact absurd h (by show ¬ (0 : Int) ≤ -1; decide)
  | cons b l ih =>
    unfold Lib.indexAny at h ⊢
    split
    · exact Nat.zero_le _
    · rename_i h1
      rw [if_neg h1] at h
      split
      · rename_i h2; rw [if_pos h2] at h; exact absurd h (by decide)
      · rename_i h2
        rw [if_neg h2] at h
        have h3 := Lib.indexAny_ge e l
        have h4 : Lib.indexAny l e ≠ -1 := fun e1 => h2 (by rw [e1]; rfl)
        have := ih (by omega)
        rw [List.length_cons]
        omega
set_option maxHeartbeats 1600000 in
set_option maxRecDepth 100000 in
theorem word_any (k : Nat) (l : List UInt8) (d : Int) (ends : ByteArray) (w : World) (h : Rdr w k l d) (hl : l.length ≤ 1000000000) (HX : IdxOk ends) :
    Calls Tryz.prog 71 #[.pointer (some ⟨k, 0, none⟩), .string ends] w fun e w' => WordR k d l (wordL (bts ends) l) w e w' := by
  have HC := Lib.hid (HX l w hl)
  have c0 := (Blk.cell (t := 72) h 0).trans (show _ = some (.string (str l)) from rfl)
  have H := Lib.hid h
  have hge := Lib.indexAny_ge (bts ends) l
  have hls := str_size l
  by_cases h0 : 0 ≤ Lib.indexAny l (bts ends)
  · have hlt := indexAny_lt h0
    have HE : Hid (wordL (bts ends) l = some (l.take (Lib.indexAny l (bts ends)).toNat, l.drop (Lib.indexAny l (bts ends)).toNat)) := Lib.hid (if_pos h0)
    obtain ⟨n, hn⟩ := Int.eq_ofNat_of_zero_le h0
    rw [hn] at HC hlt HE
    rw [Int.toNat_natCast] at hlt HE
    have htk : (str l).extract 0 n = str (l.take n) := bts_inj (by rw [bts_extract, bts_str, bts_str, List.drop_zero])
    have hdr : (str l).extract n l.length = str (l.drop n) := bts_inj (by rw [bts_extract, bts_str, bts_str, List.take_length])
    have i1 : (0 : Int) ≤ (n : Int) := Int.natCast_nonneg n
    have i2 : (n : Int) ≤ ((str l).size : Int) := by omega
    have i3 : ¬ ((n : Int) < 0) := by omega
    have i4 : n ≤ (str l).size := by omega
    unfold WordR
    rw [HE.out]
    dsimp only
    generalize str (l.take n) = T1 at *
    clear h h0 hn hge
    have HD := Lib.hid hdr
    have HW : Hid (∀ W, Below w.heap.size w W → FrK k w (W.setCell ⟨k, 0, none⟩ (.string (str (l.drop n)))) ∧ Rdr (W.setCell ⟨k, 0, none⟩ (.string (str (l.drop n)))) k (l.drop n) d) := Lib.hid fun W hW =>
      ⟨(Fr.of_below hW (· = k)).setCell (p := ⟨k, 0, none⟩) (.inl rfl) _, (H.out.on hW).put _⟩
    generalize str (l.drop n) = T2 at *
    go_enter Tryz.func71, Tryz.ntmps71
    go_wp2_with fail
    refine HC.out.mono ?_
    clear HC
    rintro e w1 ⟨rfl, hb⟩
    have h1 := H.out.on hb
    have c1 := (Blk.cell (t := 72) h1 0).trans (show _ = some (.string (str l)) from rfl)
    have f1 := Blk.frozen (t := 72) h1 0
    have HW1 := Lib.hid (HW.out w1 hb)
    clear hb h1 c0
    go_wp2_with fail
    go_ret
    exact ⟨HW1.out.1, rfl, HW1.out.2⟩
  · have HE : Hid (wordL (bts ends) l = none) := Lib.hid (if_neg h0)
    have h1 : Lib.indexAny l (bts ends) = -1 := by omega
    rw [h1] at HC
    rw [HE.out]
    clear h hge h0 h1
    go_enter Tryz.func71, Tryz.ntmps71
    go_wp2_with fail
    refine HC.out.mono ?_
    clear HC
    rintro e w1 ⟨rfl, hb⟩
    have HR := Lib.hid (And.intro (H.out.on hb) (Fr.of_below hb (· = k)))
    clear hb
    go_wp2_with fail
    exact ⟨rfl, HR.out.2, rfl, HR.out.1⟩
end Go.Proofs.YtjdfpoppimcikaaGreatDoor
/- Messages that a call made: none of their cells is frozen; where their blocks lie; rows that grow, each element with a part of its own. -/

namespace Go.Proofs.YtjdfpoppimcikaaGreatDoor
open Go.RowKit

structure PLaws {α : Type} (P : Nat → Nat → World → Value → α → Prop) : Prop where
  keep : ∀ {lo hi : Nat} {W W' : World} {v : Value} {x : α}, P lo hi W v x → (∀ g, lo ≤ g → g < hi → W'.heap[g]? = W.heap[g]?) → P lo hi W' v x
  mono : ∀ {lo hi lo' hi' : Nat} {W : World} {v : Value} {x : α}, P lo hi W v x → lo' ≤ lo → hi ≤ hi' → P lo' hi' W v x
/-- an element, its part's value, where the part's blocks lie -/
structure Prt (α : Type) where
  x : α
  u : Value
  s : Nat
  e : Nat
section
variable {α : Type} (cel : α → Value → List Value) (sz : Nat) (P : Nat → Nat → World → Value → α → Prop)
def RowOk (lo hi : Nat) (W : World) (v : Value) (l : List α) : Prop :=
  ∃ A cap, v = .slice A l.length cap ∧ l.length ≤ cap ∧ ∀ i (h : i < l.length), ∃ b o u, A = some ⟨b, o, none⟩ ∧ lo ≤ b ∧ b < hi ∧ (∀ j y, (cel l[i] u)[j]? = some y → W.cell? ⟨b, o + i * sz + j, none⟩ = some y ∧ W.frozen? ⟨b, o + i * sz + j, none⟩ = false) ∧ P lo hi W u l[i]
theorem RowOk.laws (hP : PLaws P) : PLaws (RowOk cel sz P) := by
  constructor
  · intro lo hi W W' v l h hk
    obtain ⟨A, cap, hv, hc, hi'⟩ := h
    refine ⟨A, cap, hv, hc, fun i hi => ?_⟩
    obtain ⟨b, o, u, hA, h1, h2, h3, h4⟩ := hi' i hi
    have hb := hk b h1 h2
    exact ⟨b, o, u, hA, h1, h2, fun j y hj => ⟨(World.cell?_of_block (w := W) hb).trans (h3 j y hj).1, (World.frozen?_of_block (w := W) hb).trans (h3 j y hj).2⟩, hP.keep h4 hk⟩
  · intro lo hi lo' hi' W v l h h1 h2
    obtain ⟨A, cap, hv, hc, hi''⟩ := h
    refine ⟨A, cap, hv, hc, fun i hi => ?_⟩
    obtain ⟨b, o, u, hA, k1, k2, k3, k4⟩ := hi'' i hi
    exact ⟨b, o, u, hA, by omega, by omega, k3, hP.mono k4 h1 h2⟩
theorem RowOk.nil (lo hi : Nat) (W : World) (A : Option Addr) (c : Nat) : RowOk cel sz P lo hi W (.slice A 0 c) ([] : List α) := ⟨A, c, rfl, Nat.zero_le _, fun i hi => by cases hi⟩
def flatW (l : List (Prt α)) : List Value := l.flatMap fun p => cel p.x p.u
theorem flatW_snoc (l : List (Prt α)) (p : Prt α) : flatW cel (l ++ [p]) = flatW cel l ++ cel p.x p.u := by simp [flatW]
theorem flatW_length (hz : ∀ x u, (cel x u).length = sz) (l : List (Prt α)) : (flatW cel l).length = l.length * sz := by
  induction l with
  | nil => simp [flatW]
  | cons p l ih => show (cel p.x p.u ++ flatW cel l).length = _; rw [List.length_append, ih, hz, List.length_cons, Nat.add_mul]; omega
theorem flatW_at (hz : ∀ x u, (cel x u).length = sz) : ∀ (l : List (Prt α)) (i : Nat) (h : i < l.length) (j : Nat), j < sz → (flatW cel l)[i * sz + j]? = (cel l[i].x l[i].u)[j]?
  | [], i, h, _, _ => by cases h
  | p :: l, 0, _, j, hj => by
    show (cel p.x p.u ++ flatW cel l)[0 * sz + j]? = _
    rw [Nat.zero_mul, Nat.zero_add, List.getElem?_append_left (by rw [hz]; exact hj)]; rfl
  | p :: l, i + 1, h, j, hj => by
    have ih := flatW_at hz l i (by simpa using h) j hj
    show (cel p.x p.u ++ flatW cel l)[(i + 1) * sz + j]? = _
    rw [show (i + 1) * sz + j = (cel p.x p.u).length + (i * sz + j) from by rw [hz, Nat.add_mul, Nat.one_mul]; omega, List.getElem?_append_right (Nat.le_add_right _ _), Nat.add_sub_cancel_left]
    exact ih
structure Rws (t : TypeId) (base : Nat) (W : World) (out : Value) (xs : List (Prt α)) : Prop where
  row : W.ownsRow base t sz out xs.length (flatW cel xs)
  part : ∀ p ∈ xs, base ≤ p.s ∧ P p.s p.e W p.u p.x ∧ p.e ≤ W.heap.size ∧ away out p.s p.e
variable {cel sz P} {t : TypeId} {base : Nat} {W W' w7 : World} {out out7 : Value} {xs : List (Prt α)}
theorem Rws.nil : Rws cel sz P t base W (.slice none 0 0) [] := ⟨own_nil, fun p hp => nomatch hp⟩
theorem Rws.keep (hP : PLaws P) (h : Rws cel sz P t base W out xs) (hk : ∀ g, base ≤ g → g < W.heap.size → W'.heap[g]? = W.heap[g]?) (hs : W.heap.size ≤ W'.heap.size) : Rws cel sz P t base W' out xs :=
  ⟨own_keep h.row fun g hg hl => hk g (own_lt h.row hg).1 hl, fun p hp => by
    obtain ⟨h1, h2, h3, h4⟩ := h.part p hp
    exact ⟨h1, hP.keep h2 fun g g1 g2 => hk g (by omega) (by omega), by omega, h4⟩⟩
theorem Rws.push (hP : PLaws P) (h : Rws cel sz P t base W out xs) (p : Prt α) (h1 : base ≤ p.s) (h2 : P p.s p.e W p.u p.x) (h3 : p.e ≤ W.heap.size) (h4 : away out p.s p.e)
    (hg : W.grownBy w7 out.ownBlock) (hown : w7.ownsRow base t sz out7 (xs.length + 1) (flatW cel xs ++ cel p.x p.u)) (ho : out7.ownBlock = out.ownBlock ∨ out7.ownBlock = some W.heap.size) : Rws cel sz P t base w7 out7 (xs ++ [p]) := by
  have aw : ∀ q : Prt α, base ≤ q.s → P q.s q.e W q.u q.x → q.e ≤ W.heap.size → away out q.s q.e → base ≤ q.s ∧ P q.s q.e w7 q.u q.x ∧ q.e ≤ w7.heap.size ∧ away out7 q.s q.e := fun q k1 k2 k3 k4 => by
    refine ⟨k1, hP.keep k2 fun g g1 g2 => hg.block g (by omega) fun e => ?_, Nat.le_trans k3 hg.size, fun r hr => ?_⟩
    · have := k4 g e.symm; omega
    · rcases ho with ho | ho
      · exact k4 r (by rw [← ho]; exact hr)
      · rw [ho] at hr; injection hr with hr; omega
  refine ⟨by rw [flatW_snoc, List.length_append]; exact hown, fun q hq => ?_⟩
  rcases List.mem_append.1 hq with hq | hq
  · obtain ⟨k1, k2, k3, k4⟩ := h.part q hq
    exact aw q k1 k2 k3 k4
  · obtain rfl := List.mem_singleton.1 hq
    exact aw q h1 h2 h3 h4
theorem Rws.ok (hP : PLaws P) (hz : ∀ x u, (cel x u).length = sz) (h : Rws cel sz P t base W out xs) {lo hi : Nat} (hb : lo ≤ base) (hs : W.heap.size ≤ hi) : RowOk cel sz P lo hi W out (xs.map Prt.x) := by
  obtain ⟨A, cap, rfl, hc⟩ := own_slice h.row
  refine ⟨A, cap, by rw [List.length_map], by rw [List.length_map]; exact hc, fun i hi' => ?_⟩
  have hl : i < xs.length := by simpa using hi'
  obtain ⟨k1, k2, k3, k4⟩ := h.part _ (List.getElem_mem hl)
  rw [List.getElem_map]
  rcases Nat.eq_zero_or_pos sz with h0 | h0
  · obtain ⟨_, ⟨_, h5⟩ | ⟨g, cap', cur, hv, hbb, hh, _⟩⟩ := h.row
    · omega
    · injection hv with hv1 _ _
      refine ⟨g, 0, xs[i].u, hv1, by omega, Nat.lt_of_lt_of_le (Blk.lt (t := t) (cs := cur) hh) hs, fun j y hj => ?_, hP.mono k2 (by omega) (by omega)⟩
      have := hz xs[i].x xs[i].u
      have hjl := (List.getElem?_eq_some_iff.1 hj).1
      omega
  · have hlt : i * sz + 0 < xs.length * sz := by
      have := Nat.mul_lt_mul_of_pos_right hl h0
      omega
    obtain ⟨g, hA, g1, g2, _, _⟩ := own_at h.row (i * sz + 0) hlt
    refine ⟨g, 0, xs[i].u, hA, by omega, by omega, fun j y hj => ?_, hP.mono k2 (by omega) (by omega)⟩
    have hjz : j < sz := by rw [← hz xs[i].x xs[i].u]; exact (List.getElem?_eq_some_iff.1 hj).1
    have hjl : i * sz + j < xs.length * sz := by
      have h5 : (i + 1) * sz ≤ xs.length * sz := Nat.mul_le_mul_right _ hl
      rw [Nat.add_mul, Nat.one_mul] at h5
      omega
    obtain ⟨g', hA', _, _, hc', hf'⟩ := own_at h.row (i * sz + j) hjl
    rw [hA] at hA'
    injection hA' with hA'
    injection hA' with hA'
    subst hA'
    rw [Nat.zero_add]
    exact ⟨by rw [hc', flatW_at cel sz hz xs i hl j hjz]; exact hj, hf'⟩
end
/- ## Nodes and cases -/
section
variable {β : Type}
def nodC (x : NdF β) (u : Value) : List Value := [.int .i64 x.kind, .string x.text, .int .i64 x.off, u]
def casC (c : ByteArray × List β) (u : Value) : List Value := [.string c.1, u]
theorem nodC_len (x : NdF β) (u : Value) : (nodC x u).length = 4 := rfl
theorem casC_len (c : ByteArray × List β) (u : Value) : (casC c u).length = 2 := rfl
/-- what a list of bodies is in memory -/
def MkB (M : Nat → Nat → World → Value → List β → Prop) : Nat → Nat → World → Value → (ByteArray × List β) → Prop := fun lo hi W u c => M lo hi W u c.2
def MkC (M : Nat → Nat → World → Value → List β → Prop) : Nat → Nat → World → Value → NdF β → Prop := fun lo hi W u x => RowOk casC 2 (MkB M) lo hi W u x.cases
theorem mkB_laws {M : Nat → Nat → World → Value → List β → Prop} (h : PLaws M) : PLaws (MkB M) := ⟨fun k e => h.keep k e, fun k a b => h.mono k a b⟩
theorem mkC_laws {M : Nat → Nat → World → Value → List β → Prop} (h : PLaws M) : PLaws (MkC M) := ⟨fun k e => (RowOk.laws casC 2 _ (mkB_laws h)).keep k e, fun k a b => (RowOk.laws casC 2 _ (mkB_laws h)).mono k a b⟩
abbrev MkM (M : Nat → Nat → World → Value → List β → Prop) : Nat → Nat → World → Value → List (NdF β) → Prop := RowOk nodC 4 (MkC M)
theorem mkM_laws {M : Nat → Nat → World → Value → List β → Prop} (h : PLaws M) : PLaws (MkM M) := RowOk.laws nodC 4 _ (mkC_laws h)
theorem MkC.list {E : Enc β} {M : Nat → Nat → World → Value → List β → Prop} (hM : ∀ {lo hi W v l}, M lo hi W v l → ListOk E W lo hi v l) {lo hi : Nat} {W : World} {u : Value} {x : NdF β} (h : MkC M lo hi W u x) : ListOk (Enc.cas E) W lo hi u x.cases := by
  obtain ⟨A, cap, hv, hc, hi'⟩ := h
  refine ⟨A, cap, hv, hc, fun i hi => ?_⟩
  obtain ⟨b, o, u', hA, h1, h2, h3, h4⟩ := hi' i hi
  exact ⟨b, o, casC x.cases[i] u', hA, h1, h2, fun j y hj => (h3 j y hj).1, u', rfl, hM h4⟩
theorem MkM.list {E : Enc β} {M : Nat → Nat → World → Value → List β → Prop} (hM : ∀ {lo hi W v l}, M lo hi W v l → ListOk E W lo hi v l) {lo hi : Nat} {W : World} {v : Value} {m : List (NdF β)} (h : MkM M lo hi W v m) : ListOk (Enc.nodeF E) W lo hi v m := by
  obtain ⟨A, cap, hv, hc, hi'⟩ := h
  refine ⟨A, cap, hv, hc, fun i hi => ?_⟩
  obtain ⟨b, o, u', hA, h1, h2, h3, h4⟩ := hi' i hi
  exact ⟨b, o, nodC m[i] u', hA, h1, h2, fun j y hj => (h3 j y hj).1, u', rfl, MkC.list hM h4⟩
end
def MkN : (n : Nat) → Nat → Nat → World → Value → List (Nd n) → Prop
  | 0 => fun _ _ _ v m => ∃ A c, v = .slice A m.length c
  | n + 1 => fun lo hi W v m => MkM (MkN n) lo hi W v (m : List (NdF (Nd n)))
theorem mkN_laws : (n : Nat) → PLaws (MkN n)
  | 0 => ⟨fun h _ => h, fun h _ _ => h⟩
  | n + 1 => ⟨fun h k => (mkM_laws (mkN_laws n)).keep h k, fun h a b => (mkM_laws (mkN_laws n)).mono h a b⟩
theorem MkN.list : (n : Nat) → {lo hi : Nat} → {W : World} → {v : Value} → {m : List (Nd n)} → MkN n lo hi W v m → ListOk (Enc.node n) W lo hi v m
  | 0, lo, hi, W, v, m, h => by
    obtain ⟨A, c, rfl⟩ := h
    obtain rfl := empty_list m
    exact ListOk.nil c A
  | n + 1, lo, hi, W, v, m, h => MkM.list (E := Enc.node n) (M := MkN n) (fun h => MkN.list n h) h
theorem MkN.form : (n : Nat) → {lo hi : Nat} → {W : World} → {v : Value} → {m : List (Nd n)} → MkN n lo hi W v m → ∃ A c, v = .slice A m.length c
  | 0, _, _, _, _, _, h => h
  | _ + 1, _, _, _, _, _, ⟨A, c, hv, _, _⟩ => ⟨A, c, hv⟩
end Go.Proofs.YtjdfpoppimcikaaGreatDoor
