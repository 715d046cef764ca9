/- Words for memory and small lemmas, over no program: frames, encodings of data in cells, slices that read as lists. -/
import Derived.Test.YtiaobgapfoogiaaGreatDoorRows
import Derived.WalkKit
import Derived.WalkSpells
import Derived.WalkLawsBesides
import Derived.Lib.Hide
set_option linter.unusedSimpArgs false
set_option linter.unusedVariables false
namespace Go.Proofs.YtiaobgapfoogiaaGreatDoor
open Go.RowKit

/- ## Lists -/
theorem findIdx_at {α : Type} (l : List α) (p : α → Bool) (j : Nat) (h : j < l.length) (hp : p l[j] = true) (hno : ∀ q (h : q < l.length), q < j → p l[q] = false) : l.findIdx? p = some j := by
  rw [List.findIdx?_eq_some_iff_getElem]
  exact ⟨h, hp, fun q hq => by simpa using hno q (by omega) hq⟩
theorem findIdx_none {α : Type} (l : List α) (p : α → Bool) (hno : ∀ q (h : q < l.length), p l[q] = false) : l.findIdx? p = none := by
  rw [List.findIdx?_eq_none_iff]
  intro x hx
  obtain ⟨q, h, rfl⟩ := List.getElem_of_mem hx
  exact hno q h
theorem step_no {α : Type} (l : List α) (p : α → Bool) (j : Nat) (hno : ∀ q (h : q < l.length), q < j → p l[q] = false) (hj : ∀ h : j < l.length, p l[j] = false) :
    ∀ q (h : q < l.length), q < j + 1 → p l[q] = false := fun q h hq => by
  rcases Nat.lt_or_eq_of_le (Nat.le_of_lt_succ hq) with h1 | h1
  · exact hno q h h1
  · subst h1; exact hj h
theorem any_of_at {α : Type} (l : List α) (p : α → Bool) (j : Nat) (h : j < l.length) (hp : p l[j] = true) : l.any p = true := List.any_eq_true.2 ⟨_, List.getElem_mem h, hp⟩
theorem any_of_no {α : Type} (l : List α) (p : α → Bool) (hno : ∀ q (h : q < l.length), p l[q] = false) : l.any p = false := by
  rw [List.any_eq_false]
  intro x hx
  obtain ⟨q, h, rfl⟩ := List.getElem_of_mem hx
  simp [hno q h]

/- ## Strings -/
def eqs (a b : ByteArray) : Bool := a.toList == b.toList
theorem eqs_iff (a b : ByteArray) : eqs a b = true ↔ a = b := by
  unfold eqs
  rw [ByteArray.toList_eq, ByteArray.toList_eq, beq_iff_eq, Array.toList_inj]
  constructor
  · intro h; cases a; cases b; simp_all
  · intro h; rw [h]
theorem eqs_self (a : ByteArray) : eqs a a = true := (eqs_iff a a).2 rfl
theorem eqs_false (a b : ByteArray) : eqs a b = false ↔ a ≠ b := by
  rw [← Bool.not_eq_true, eqs_iff]

/- ## Endings -/
theorem ret_int {k : IntKind} {a b : Int} (h : a = b) : Ending.returned (.int k a) = .returned (.int k b) := by rw [h]
theorem ret_bool {a b : Bool} (h : a = b) : Ending.returned (.bool a) = .returned (.bool b) := by rw [h]

/- ## Read-only callees inside a quiet region -/
theorem quiet_left {P : Program} {f : FuncId} {args : Array Value} {w : World} {n : Nat} {v : Value}
    (h : Calls P f args (w.drewN n) fun e w' => e = .returned v ∧ w.drewN n = w') : Calls P f args (w.drewN n) fun e w'' => e = .returned v ∧ ∃ m, w'' = w.drewN m :=
  h.mono fun _ _ ⟨he, hm⟩ => ⟨he, n, hm.symm⟩
theorem quiet_add_left {P : Program} {f : FuncId} {args : Array Value} {w : World} {a n : Nat} {v : Value}
    (h : Calls P f args (w.drewN (a + n)) fun e w' => e = .returned v ∧ w.drewN (a + n) = w') : Calls P f args (w.drewN (a + n)) fun e w'' => e = .returned v ∧ ∃ m, w'' = w.drewN (a + m) :=
  h.mono fun _ _ ⟨he, hm⟩ => ⟨he, n, hm.symm⟩
theorem quiet_drew {P : Program} {f : FuncId} {args : Array Value} {w : World} {n : Nat} {v : Value}
    (h : Calls P f args (w.drewN n) fun e w' => e = .returned v ∧ ∃ m, w' = (w.drewN n).drewN m) : Calls P f args (w.drewN n) fun e w'' => e = .returned v ∧ ∃ m, w'' = w.drewN m :=
  h.mono fun _ _ ⟨he, m, hm⟩ => ⟨he, n + m, by rw [hm, World.drewN_drewN]⟩
theorem quiet_add_drew {P : Program} {f : FuncId} {args : Array Value} {w : World} {a n : Nat} {v : Value}
    (h : Calls P f args (w.drewN (a + n)) fun e w' => e = .returned v ∧ ∃ m, w' = (w.drewN (a + n)).drewN m) : Calls P f args (w.drewN (a + n)) fun e w'' => e = .returned v ∧ ∃ m, w'' = w.drewN (a + m) :=
  h.mono fun _ _ ⟨he, m, hm⟩ => ⟨he, n + m, by rw [hm, World.drewN_drewN, Nat.add_assoc]⟩

/- ## Frames: only blocks in S have turned -/
structure Fr (w w' : World) (S : Nat → Prop) : Prop where
  os : w'.os = w.os
  tape : w'.tape = w.tape
  output : w'.output = w.output
  size : w.heap.size ≤ w'.heap.size
  block : ∀ k, k < w.heap.size → ¬ S k → w'.heap[k]? = w.heap[k]?
section
variable {w w' w0 w1 : World} {S S' : Nat → Prop}
theorem Fr.refl (w : World) (S : Nat → Prop) : Fr w w S := ⟨rfl, rfl, rfl, Nat.le_refl _, fun _ _ _ => rfl⟩
theorem Fr.trans (h : Fr w w1 S) (k : Fr w1 w' S) : Fr w w' S :=
  ⟨k.os.trans h.os, k.tape.trans h.tape, k.output.trans h.output, Nat.le_trans h.size k.size, fun i hi hn => (k.block i (Nat.lt_of_lt_of_le hi h.size) hn).trans (h.block i hi hn)⟩
theorem Fr.mono (h : Fr w w' S) (hs : ∀ k, S k → S' k) : Fr w w' S' := ⟨h.os, h.tape, h.output, h.size, fun i hi hn => h.block i hi fun hk => hn (hs i hk)⟩
theorem Fr.of_below (h : Below w.heap.size w w') (S : Nat → Prop) : Fr w w' S := ⟨h.os, h.tape, h.output, h.size, fun i hi _ => h.block i hi⟩
theorem Fr.below {B : Nat} (h : Below B w0 w) (k : Fr w w' S) (hB : B ≤ w.heap.size) (hs : ∀ i, S i → B ≤ i) : Below B w0 w' :=
  h.trans ⟨k.os, k.tape, k.output, k.size, fun i hi => k.block i (by omega) fun hk => by have := hs i hk; omega⟩
theorem Fr.then_below (h : Fr w w1 S) (k : Below w1.heap.size w1 w') : Fr w w' S := h.trans (Fr.of_below k S)
theorem Fr.drewN (h : Fr w w1 S) (n : Nat) : Fr w (w1.drewN n) S := ⟨h.os, h.tape, h.output, h.size, h.block⟩
theorem Fr.drew (h : Fr w w1 S) : Fr w w1.drew S := ⟨h.os, h.tape, h.output, h.size, h.block⟩
theorem Fr.alloc (h : Fr w w1 S) (o : Obj) : Fr w (w1.alloc o) S := h.trans (Fr.of_below ((Below.refl _ _).alloc (Nat.le_refl _) o) S)
theorem Fr.setCell (h : Fr w w1 S) {p : Addr} (hp : S p.block ∨ w.heap.size ≤ p.block) (u : Value) : Fr w (w1.setCell p u) S :=
  ⟨h.os, h.tape, h.output, by simpa [World.setCell] using h.size, fun i hi hn => (Below.heap_setCell w1 p u i (by
    rintro rfl
    rcases hp with hp | hp
    · exact hn hp
    · omega)).trans (h.block i hi hn)⟩
theorem Fr.grown {row : Option Nat} (h : Fr w w1 S) (hg : w1.grownBy w' row) (hr : ∀ k, row = some k → S k ∨ w.heap.size ≤ k) : Fr w w' S :=
  ⟨hg.os.trans h.os, hg.tape.trans h.tape, hg.output.trans h.output, Nat.le_trans h.size hg.size, fun i hi hn => (hg.block i (Nat.lt_of_lt_of_le hi h.size) fun e => by
    rcases hr i e.symm with h1 | h1
    · exact hn h1
    · omega).trans (h.block i hi hn)⟩
theorem Fr.and (h : Fr w w1 S) (k : Fr w1 w' S') (hs : ∀ k, S' k → S k ∨ w.heap.size ≤ k) : Fr w w' S :=
  ⟨k.os.trans h.os, k.tape.trans h.tape, k.output.trans h.output, Nat.le_trans h.size k.size, fun i hi hn => (k.block i (Nat.lt_of_lt_of_le hi h.size) fun e => by
    rcases hs i e with h1 | h1
    · exact hn h1
    · omega).trans (h.block i hi hn)⟩
theorem Fr.to_below (h : Fr w w' S) (hs : ∀ k, k < w.heap.size → ¬ S k) : Below w.heap.size w w' := ⟨h.os, h.tape, h.output, h.size, fun i hi => h.block i hi (hs i hi)⟩
theorem Fr.cell (h : Fr w w' S) {p : Addr} (hp : p.block < w.heap.size) (hn : ¬ S p.block) : w'.cell? p = w.cell? p := World.cell?_of_block (w := w) (h.block p.block hp hn)
theorem Fr.frozen (h : Fr w w' S) {p : Addr} (hp : p.block < w.heap.size) (hn : ¬ S p.block) : w'.frozen? p = w.frozen? p := World.frozen?_of_block (w := w) (h.block p.block hp hn)
end

/- ## A block that is known whole -/
def Blk (w : World) (g : Nat) (t : TypeId) (cs : Array Value) : Prop := w.heap[g]? = some (.cells cs t (0, 0))
section
variable {w w' : World} {g : Nat} {t : TypeId} {cs : Array Value}
theorem Blk.lt (h : Blk w g t cs) : g < w.heap.size := by
  rcases Nat.lt_or_ge g w.heap.size with hlt | hge
  · exact hlt
  · unfold Blk at h; rw [Array.getElem?_eq_none hge] at h; cases h
theorem Blk.cell (h : Blk w g t cs) (i : Nat) : w.cell? ⟨g, i, none⟩ = cs[i]? := cell_of_row w g i cs t (0, 0) h
theorem Blk.frozen (h : Blk w g t cs) (i : Nat) : w.frozen? ⟨g, i, none⟩ = false := by
  unfold Blk at h
  simp [World.frozen?, h]
theorem Blk.new (w : World) (t : TypeId) (cs : Array Value) : Blk (w.alloc (.cells cs t)) w.heap.size t cs := heap_alloc_new w _
theorem Blk.drew (h : Blk w g t cs) : Blk w.drew g t cs := h
theorem Blk.drewN (h : Blk w g t cs) (n : Nat) : Blk (w.drewN n) g t cs := h
theorem Blk.alloc (h : Blk w g t cs) (o : Obj) : Blk (w.alloc o) g t cs := (Below.heap_alloc w o g h.lt).trans h
theorem Blk.set_ (h : Blk w g t cs) (i : Nat) (u : Value) : Blk (w.setCell ⟨g, i, none⟩ u) g t (cs.setIfInBounds i u) := by
  unfold Blk at h ⊢
  simp [World.setCell, Array.getElem?_modify, h]
theorem Blk.far (h : Blk w g t cs) {p : Addr} (hp : g ≠ p.block) (u : Value) : Blk (w.setCell p u) g t cs := (Below.heap_setCell w p u g hp).trans h
theorem Blk.below {B : Nat} (h : Blk w g t cs) (hb : Below B w w') (hg : g < B) : Blk w' g t cs := (hb.block g hg).trans h
theorem Blk.fr {S : Nat → Prop} (h : Blk w g t cs) (hb : Fr w w' S) (hg : ¬ S g) : Blk w' g t cs := (hb.block g h.lt hg).trans h
end

theorem block_of_add (a : Addr) (n : Nat) : (a.add n).block = a.block := by unfold Addr.add; split <;> rfl
theorem own_form {w : World} {base : Nat} {e : TypeId} {size : Nat} {v : Value} {n : Nat} {xs : List Value} (h : w.ownsRow base e size v n xs) (hn : 0 < n) :
    ∃ g cap, v = .slice (some ⟨g, 0, none⟩) n cap ∧ base ≤ g ∧ g < w.heap.size := by
  rcases h.2 with ⟨_, h0⟩ | ⟨g, cap, cur, hv, hb, hg, _⟩
  · omega
  · exact ⟨g, cap, hv, hb, Blk.lt (t := e) (cs := cur) hg⟩

theorem own_mono {w : World} {base base' : Nat} {e : TypeId} {size : Nat} {v : Value} {n : Nat} {xs : List Value} (h : w.ownsRow base e size v n xs) (hb : base' ≤ base) : w.ownsRow base' e size v n xs := by
  obtain ⟨h1, h2 | ⟨g, cap, cur, hv, hg, r⟩⟩ := h
  · exact ⟨h1, .inl h2⟩
  · exact ⟨h1, .inr ⟨g, cap, cur, hv, by omega, r⟩⟩

/- ## Encodings -/
/-- How an element of α lies in 'sz' cells: all that is reached from them lies in blocks from lo on, below hi. -/
structure Enc (α : Type) where
  sz : Nat
  bytes : Nat
  ok : World → Nat → Nat → List Value → α → Prop
  /-- each string and each slice in it takes at most so many bytes -/
  fits : Nat → α → Prop
  bulk : α → Nat
/-- two worlds read alike from lo on, below hi -/
def Alk (lo hi : Nat) (w w' : World) : Prop := ∀ p : Addr, lo ≤ p.block → p.block < hi → w'.cell? p = w.cell? p
structure Enc.Laws {α : Type} (E : Enc α) : Prop where
  len : ∀ {w lo hi cs a}, E.ok w lo hi cs a → cs.length = E.sz
  keep : ∀ {w w' lo hi cs a}, E.ok w lo hi cs a → Alk lo hi w w' → E.ok w' lo hi cs a
  mono : ∀ {w lo hi lo' hi' cs a}, E.ok w lo hi cs a → lo' ≤ lo → hi ≤ hi' → E.ok w lo' hi' cs a
theorem Alk.of_below {B lo : Nat} {w w' : World} (h : Below B w w') : Alk lo B w w' := fun _ _ hp => h.cell hp
theorem Alk.trans {lo hi : Nat} {w w1 w' : World} (h : Alk lo hi w w1) (k : Alk lo hi w1 w') : Alk lo hi w w' := fun p hp hq => (k p hp hq).trans (h p hp hq)
theorem Alk.mono {lo hi lo' hi' : Nat} {w w' : World} (h : Alk lo hi w w') (h1 : lo ≤ lo') (h2 : hi' ≤ hi) : Alk lo' hi' w w' := fun p hp hq => h p (by omega) (by omega)
theorem Alk.of_fr {S : Nat → Prop} {lo hi : Nat} {w w' : World} (h : Fr w w' S) (hi1 : hi ≤ w.heap.size) (hs : ∀ k, lo ≤ k → k < hi → ¬ S k) : Alk lo hi w w' := fun p hp hq => h.cell (by omega) (hs _ hp hq)

def CellsAt (w : World) (b o : Nat) (cs : List Value) : Prop := ∀ j u, cs[j]? = some u → w.cell? ⟨b, o + j, none⟩ = some u
theorem CellsAt.keep {w w' : World} {b o lo hi : Nat} {cs : List Value} (h : CellsAt w b o cs) (k : Alk lo hi w w') (h1 : lo ≤ b) (h2 : b < hi) : CellsAt w' b o cs := fun j u hj => (k ⟨b, o + j, none⟩ h1 h2).trans (h j u hj)

def Enc.str : Enc ByteArray := ⟨1, 16, fun _ _ _ cs s => cs = [.string s], fun B s => s.size ≤ B, fun s => s.size + 1⟩
def Enc.int : Enc Int := ⟨1, 8, fun _ _ _ cs n => cs = [.int .i64 n], fun _ n => (Lit.int .i64 n).wf = true, fun _ => 1⟩
def Enc.byte : Enc UInt8 := ⟨1, 1, fun _ _ _ cs n => cs = [.int .u8 n.toNat], fun _ _ => True, fun _ => 1⟩
theorem Enc.str_laws : Enc.str.Laws := ⟨fun h => by cases h; rfl, fun h _ => h, fun h _ _ => h⟩
theorem Enc.int_laws : Enc.int.Laws := ⟨fun h => by cases h; rfl, fun h _ => h, fun h _ _ => h⟩
theorem Enc.byte_laws : Enc.byte.Laws := ⟨fun h => by cases h; rfl, fun h _ => h, fun h _ _ => h⟩

/-- The slice value v reads as the list l. -/
def ListOk {α : Type} (E : Enc α) (w : World) (lo hi : Nat) (v : Value) (l : List α) : Prop :=
  ∃ A c, v = .slice A l.length c ∧ l.length ≤ c ∧ ∀ i (h : i < l.length), ∃ b o cs, A = some ⟨b, o, none⟩ ∧ lo ≤ b ∧ b < hi ∧ CellsAt w b (o + i * E.sz) cs ∧ E.ok w lo hi cs l[i]
def Enc.list {α : Type} (E : Enc α) : Enc (List α) := ⟨1, 24, fun w lo hi cs l => ∃ v, cs = [v] ∧ ListOk E w lo hi v l, fun B l => l.length * E.bytes ≤ B ∧ ∀ a ∈ l, E.fits B a, fun l => (l.map E.bulk).sum + 1⟩
section
variable {α : Type} {E : Enc α} {w w' : World} {lo hi lo' hi' : Nat} {v : Value} {l : List α}
theorem ListOk.keep (hE : E.Laws) (h : ListOk E w lo hi v l) (k : Alk lo hi w w') : ListOk E w' lo hi v l := by
  obtain ⟨A, c, hv, hc, hi⟩ := h
  refine ⟨A, c, hv, hc, fun i h => ?_⟩
  obtain ⟨b, o, cs, hA, h1, h2, h3, h4⟩ := hi i h
  exact ⟨b, o, cs, hA, h1, h2, h3.keep k h1 h2, hE.keep h4 k⟩
theorem ListOk.mono (hE : E.Laws) (h : ListOk E w lo hi v l) (h1 : lo' ≤ lo) (h2 : hi ≤ hi') : ListOk E w lo' hi' v l := by
  obtain ⟨A, c, hv, hc, hi⟩ := h
  refine ⟨A, c, hv, hc, fun i h => ?_⟩
  obtain ⟨b, o, cs, hA, g1, g2, g3, g4⟩ := hi i h
  exact ⟨b, o, cs, hA, by omega, by omega, g3, hE.mono g4 h1 h2⟩
theorem Enc.list_laws (hE : E.Laws) : E.list.Laws :=
  ⟨fun ⟨_, h, _⟩ => by cases h; rfl, fun ⟨v, h, k⟩ ha => ⟨v, h, k.keep hE ha⟩, fun ⟨v, h, k⟩ h1 h2 => ⟨v, h, k.mono hE h1 h2⟩⟩
theorem ListOk.below (hE : E.Laws) {B : Nat} (h : ListOk E w lo B v l) (hb : Below B w w') : ListOk E w' lo B v l := h.keep hE (Alk.of_below hb)
theorem ListOk.nil (c : Nat) (A : Option Addr) : ListOk E w lo hi (.slice A 0 c) [] := ⟨A, c, rfl, Nat.zero_le _, fun i h => absurd h (by simp)⟩
/-- element i of a list of strings -/
theorem ListOk.strAt {A : Option Addr} {n c : Nat} {l : List ByteArray} (h : ListOk Enc.str w lo hi (.slice A n c) l) (i : Nat) (hl : i < l.length) : ∃ b o, A = some ⟨b, o, none⟩ ∧ lo ≤ b ∧ b < hi ∧ w.cell? ⟨b, o + i, none⟩ = some (.string l[i]) := by
  obtain ⟨A', c', hv, _, hi⟩ := h
  obtain ⟨b, o, cs, hA, h1, h2, h3, h4⟩ := hi i hl
  injection hv with hv1
  refine ⟨b, o, hv1.trans hA, h1, h2, ?_⟩
  have h4' : cs = [.string l[i]] := h4
  subst h4'
  simpa [Enc.str] using h3 0 _ rfl
theorem ListOk.intAt {A : Option Addr} {n c : Nat} {l : List Int} (h : ListOk Enc.int w lo hi (.slice A n c) l) (i : Nat) (hl : i < l.length) : ∃ b o, A = some ⟨b, o, none⟩ ∧ lo ≤ b ∧ b < hi ∧ w.cell? ⟨b, o + i, none⟩ = some (.int .i64 l[i]) := by
  obtain ⟨A', c', hv, _, hi⟩ := h
  obtain ⟨b, o, cs, hA, h1, h2, h3, h4⟩ := hi i hl
  injection hv with hv1
  refine ⟨b, o, hv1.trans hA, h1, h2, ?_⟩
  have h4' : cs = [.int .i64 l[i]] := h4
  subst h4'
  simpa [Enc.int] using h3 0 _ rfl
theorem ListOk.form (h : ListOk E w lo hi v l) : ∃ A c, v = .slice A l.length c ∧ l.length ≤ c := let ⟨A, c, h1, h2, _⟩ := h; ⟨A, c, h1, h2⟩
/-- 'x[:k]' -/
theorem ListOk.take {A : Option Addr} {n c : Nat} (h : ListOk E w lo hi (.slice A n c) l) (k : Nat) (hk : k ≤ l.length) : ListOk E w lo hi (.slice A k c) (l.take k) := by
  obtain ⟨A', c', hv, hc, hi⟩ := h
  injection hv with hv1 hv2 hv3
  subst hv1; subst hv3
  have hl : (l.take k).length = k := by simp; omega
  refine ⟨A, c, by rw [hl], by omega, fun i h => ?_⟩
  obtain ⟨b, o, cs, hA, g1, g2, g3, g4⟩ := hi i (by omega)
  exact ⟨b, o, cs, hA, g1, g2, g3, by simpa using g4⟩
/-- a row of the call's own, filled by append -/
theorem ListOk.of_own {base : Nat} {e : TypeId} {xs : List Value} (h : w.ownsRow base e E.sz v l.length xs) (hb : lo ≤ base) (hs : w.heap.size ≤ hi) (hx : ∀ i (hl : i < l.length), E.ok w lo hi ((xs.drop (i * E.sz)).take E.sz) l[i]) : ListOk E w lo hi v l := by
  obtain ⟨hlen, h1 | ⟨g, cap, cur, hv, hg, hh, hc, hm, hcs, ht⟩⟩ := h
  · obtain ⟨hv, hn⟩ := h1
    exact ⟨none, 0, by rw [hv, hn], by omega, fun i hl => absurd hl (by omega)⟩
  · refine ⟨some ⟨g, 0, none⟩, cap, hv, hc, fun i hl => ?_⟩
    have hlt : g < w.heap.size := Blk.lt (t := e) (cs := cur) hh
    refine ⟨g, 0, _, rfl, by omega, by omega, ?_, hx i hl⟩
    intro j u hj
    rw [cell_of_row w g _ cur e (0, 0) hh]
    rw [List.getElem?_take] at hj
    split at hj
    · rw [List.getElem?_drop, ← ht, List.getElem?_take] at hj
      split at hj
      · simpa using hj
      · cases hj
    · cases hj
theorem ListOk.strs_of_own {base : Nat} {e : TypeId} {l : List ByteArray} (h : w.ownsRow base e 1 v l.length (l.map .string)) (hb : lo ≤ base) (hs : w.heap.size ≤ hi) : ListOk Enc.str w lo hi v l :=
  ListOk.of_own (E := Enc.str) h hb hs fun i hl => by
    show _ = _
    have e1 : Enc.str.sz = 1 := rfl
    rw [e1, Nat.mul_one, ← List.map_drop, ← List.map_take, List.drop_eq_getElem_cons hl]
    rfl
end
end Go.Proofs.YtiaobgapfoogiaaGreatDoor
