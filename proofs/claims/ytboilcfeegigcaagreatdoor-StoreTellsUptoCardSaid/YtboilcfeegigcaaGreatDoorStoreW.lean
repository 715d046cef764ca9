/- Versions in the heap: how they lie, what is found. -/
import Derived.Test.YtboilcfeegigcaaGreatDoorOwnW
import Derived.Test.YtboilcfeegigcaaGreatDoorMapV
import Derived.Test.YtboilcfeegigcaaGreatDoorFind
import Derived.Test.YtboilcfeegigcaaGreatDoorTagRow
namespace Go.Proofs.YtboilcfeegigcaaGreatDoor
open Go.RowKit Go.Maps

abbrev OwnsA (w : World) (b n : Nat) (S : List Ent) : Prop := w.ownsMap Tryz.prog 9 mapR b n (toD S)
abbrev OwnsN (w : World) (b n : Nat) (S : List (Nat × Nat)) : Prop := w.ownsMap Tryz.prog 3 ptrR b n (toV S)
theorem lawI : Keyed Tryz.prog 3 := int_keyed Tryz.underlying3
theorem key_num {n : Int} (h1 : -9223372036854775808 ≤ n) (h2 : n ≤ 9223372036854775807) : keyOf Tryz.prog 3 (.int .i64 n) = some (.int .i64 n) := keyOf_int_mk Tryz.underlying3 (by
  have e1 : IntKind.i64.min = -9223372036854775808 := by decide
  have e2 : IntKind.i64.max = 9223372036854775807 := by decide
  show (decide (IntKind.i64.min ≤ n) && decide (n ≤ IntKind.i64.max)) = true
  rw [e1, e2, decide_eq_true h1, decide_eq_true h2]; rfl)
theorem zero_map (w : World) : (zeroValue 60).run Tryz.prog w = .ok (.map none) w := by kernel_rfl
theorem zero_ver (w : World) : (zeroValue 55).run Tryz.prog w = .ok (.pointer none) w := by kernel_rfl
theorem owns_lt {H : Type} {P : Program} {k : TypeId} {R : Value → Option (DataW H × List MemPlace)} {w : World} {b n : Nat} {D : DataW H} (h : w.ownsMap P k R b n D) : b < w.heap.size := h.lt
theorem owns_fr {H : Type} {P : Program} {k : TypeId} {R : Value → Option (DataW H × List MemPlace)} {w w' : World} {b n : Nat} {D : DataW H} {X : Nat → Prop} (h : w.ownsMap P k R b n D) (hf : Fr w w' X) (hX : ¬ X b) : w'.ownsMap P k R b n D := by
  have hlt := h.lt
  obtain ⟨es, clock, hb, F, hs, hD⟩ := h
  exact ⟨es, clock, (hf.block b hlt hX).trans hb, F, hs, hD⟩
theorem owns_ne_blk {H : Type} {P : Program} {k : TypeId} {R : Value → Option (DataW H × List MemPlace)} {w : World} {b n g : Nat} {t : TypeId} {cs : Array Value} {D : DataW H} (h : w.ownsMap P k R b n D) (hk : Blk w g t cs) : b ≠ g := by
  intro e
  obtain ⟨es, clock, hb, _⟩ := h
  rw [e] at hb
  have := hb.symm.trans hk
  injection this with this
  cases this
theorem look_no {w : World} {b n : Nat} {S : List Ent} (h : OwnsA w b n S) (k : ByteArray) (hk : k.size ≤ maxLen) (hn : hasK S k = false) :
    (Instr.lookup 56 (.map (some b)) (.string k) false).run Tryz.prog w = .ok (.map none) w := by
  obtain ⟨v, ps, hrun, hv⟩ := h.lookup lawS Tryz.underlying56 (zero_map w) (zd := .lit (.string [])) (zp := []) rfl (key_str hk)
  rw [toD_at, textK_none.2 hn] at hv
  rcases mapR_inv hv with ⟨_, rfl⟩ | ⟨b', e, _⟩
  · exact hrun
  · rw [bts_adr] at e; cases e
theorem look_yes {w : World} {b n mb : Nat} {S : List Ent} (h : OwnsA w b n S) (k : ByteArray) (hk : k.size ≤ maxLen) (ht : textK S k = some (adr mb)) :
    (Instr.lookup 56 (.map (some b)) (.string k) false).run Tryz.prog w = .ok (.map (some mb)) w := by
  obtain ⟨v, ps, hrun, hv⟩ := h.lookup lawS Tryz.underlying56 (zero_map w) (zd := .lit (.string [])) (zp := []) rfl (key_str hk)
  rw [toD_at, ht] at hv
  rcases mapR_inv hv with ⟨e, _⟩ | ⟨b', e, rfl⟩
  · rw [bts_adr] at e; cases e
  · obtain rfl : mb = b' := adr_inj (bts_inj e)
    exact hrun
def verV (o : Option Nat) : Value := .pointer (o.map fun a => ⟨a, 0, none⟩)
theorem look_ver {w : World} {b n : Nat} {vs : List VR} (h : OwnsN w b n (keptV vs)) (m : Int) (h1 : -9223372036854775808 ≤ m) (h2 : m ≤ 9223372036854775807) :
    (Instr.lookup 52 (.map (some b)) (.int .i64 m) false).run Tryz.prog w = .ok (verV ((verAt vs m).map (·.blk))) w := by
  obtain ⟨v, ps, hrun, hv⟩ := h.lookup lawI Tryz.underlying52 (zero_ver w) (zd := .nil) (zp := []) rfl (key_num h1 h2)
  rw [toV_at, kept_find] at hv
  cases hx : (verAt vs m).map (·.blk) with
  | none =>
    rw [hx] at hv
    rw [ptrR_nil hv] at hrun
    exact hrun
  | some a =>
    rw [hx] at hv
    rw [ptrR_held hv] at hrun
    exact hrun

theorem row_ne_blk {w : World} {base : Nat} {e t : TypeId} {size : Nat} {v : Value} {n : Nat} {xs : List Value} {g : Nat} {cs : Array Value} (h : w.ownsRow base e size v n xs) (k : Blk w g t cs) (hne : e ≠ t) : v.ownBlock ≠ some g := by
  intro hg
  obtain ⟨_, ⟨h2, _⟩ | ⟨g1, cap, cur, hv, hb, hh, r⟩⟩ := h
  · rw [h2] at hg; cases hg
  · rw [hv] at hg; injection hg with hg; subst hg
    have k' := hh.symm.trans k
    injection k' with k'
    injection k' with _ k' _
    exact hne k'

/- ## A version -/
structure Words (w : World) (base : Nat) (S : List Ent) (buns : List Bun) : Prop where
  yes : ∀ b ∈ buns, ∃ mb k, textK S b.tag = some (adr mb) ∧ base ≤ mb ∧ OwnsW w mb k (srt b.ents)
  no : ∀ tag, (∀ b ∈ buns, b.tag ≠ tag) → hasK S tag = false
theorem Words.fr {w w' : World} {base : Nat} {S : List Ent} {buns : List Bun} {X : Nat → Prop} (h : Words w base S buns) (hf : Fr w w' X) (hX : ∀ mb k T, base ≤ mb → OwnsW w mb k T → ¬ X mb) : Words w' base S buns :=
  ⟨fun b hb => let ⟨mb, k, h1, h2, h3⟩ := h.yes b hb; ⟨mb, k, h1, h2, owns_fr h3 hf (hX mb k _ h2 h3)⟩, h.no⟩
structure VerOk (w : World) (base : Nat) (r : VR) : Prop where
  lo : base ≤ r.blk
  fine : loadFault r.buns = 0
  rec_ : ∃ wb S n, Blk w r.blk 58 #[.map (some wb), .int .i64 r.held] ∧ base ≤ wb ∧ OwnsA w wb n S ∧ Words w base S r.buns
theorem VerOk.lt {w : World} {base : Nat} {r : VR} (h : VerOk w base r) : r.blk < w.heap.size := let ⟨_, _, _, h1, _⟩ := h.rec_; h1.lt
/-- what is written below the versions leaves them -/
theorem VerOk.fr {w w' : World} {base : Nat} {r : VR} {X : Nat → Prop} (h : VerOk w base r) (hf : Fr w w' X) (hX : ∀ k, X k → k < base) : VerOk w' base r := by
  obtain ⟨wb, S, n, h1, h2, h3, h4⟩ := h.rec_
  exact ⟨h.lo, h.fine, wb, S, n, h1.fr hf (fun hx => by have := hX _ hx; have := h.lo; omega), h2, owns_fr h3 hf (fun hx => by have := hX _ hx; omega), h4.fr hf fun mb k T hm _ hx => by have := hX _ hx; omega⟩
/-- what is written into another version leaves it -/
theorem VerOk.far {w : World} {base g : Nat} {r : VR} {cs : Array Value} (h : VerOk w base r) (hk : Blk w g 58 cs) (hne : r.blk ≠ g) (q : Nat) (u : Value) : VerOk (w.setCell ⟨g, q, none⟩ u) base r := by
  obtain ⟨wb, S, n, h1, h2, h3, h4⟩ := h.rec_
  have hf : Fr w (w.setCell ⟨g, q, none⟩ u) (· = g) := (Fr.refl w (· = g)).setCell (p := ⟨g, q, none⟩) (.inl rfl) u
  exact ⟨h.lo, h.fine, wb, S, n, h1.far hne u, h2, owns_fr h3 hf (owns_ne_blk h3 hk), h4.fr hf fun mb k T hm hT => owns_ne_blk hT hk⟩
/-- it is held otherwise -/
theorem VerOk.hold {w : World} {base : Nat} {r : VR} (h : VerOk w base r) (n : Nat) : VerOk (w.setCell ⟨r.blk, 1, none⟩ (.int .i64 n)) base { r with held := n } := by
  obtain ⟨wb, S, m, h1, h2, h3, h4⟩ := h.rec_
  have hf : Fr w (w.setCell ⟨r.blk, 1, none⟩ (.int .i64 n)) (· = r.blk) := (Fr.refl w (· = r.blk)).setCell (p := ⟨r.blk, 1, none⟩) (.inl rfl) _
  exact ⟨h.lo, h.fine, wb, S, m, h1.set_ 1 (.int .i64 n), h2, owns_fr h3 hf (owns_ne_blk h3 h1), h4.fr hf fun mb k T hm hT => owns_ne_blk hT h1⟩

/- ## A store -/
def StX (p M : Nat) (vs : List VR) (k : Nat) : Prop := k = p ∨ k = M ∨ ∃ r ∈ vs, k = r.blk
structure StoreIn (B b1 : Nat) (w : World) (p M : Nat) (vs : List VR) (S : List (Nat × Nat)) : Prop where
  lp : B ≤ p ∧ p < b1
  lM : B ≤ M ∧ M < b1
  box : Blk w p 54 #[.int .i64 vs.length, .map (some M)]
  all : ∃ n, n ≤ vs.length ∧ OwnsN w M n S
  vers : ∀ r ∈ vs, VerOk w b1 r
  apart : vs.Pairwise fun a b => a.blk ≠ b.blk
abbrev StoreSt (B b1 : Nat) (w : World) (p M : Nat) (vs : List VR) : Prop := StoreIn B b1 w p M vs (keptV vs)
theorem StoreIn.fr {B b1 : Nat} {w w' : World} {p M : Nat} {vs : List VR} {S : List (Nat × Nat)} {X : Nat → Prop} (h : StoreIn B b1 w p M vs S) (hf : Fr w w' X) (hX : ∀ k, X k → k < B) : StoreIn B b1 w' p M vs S :=
  ⟨h.lp, h.lM, h.box.fr hf fun hx => by have := hX _ hx; have := h.lp; omega, let ⟨n, h1, h2⟩ := h.all; ⟨n, h1, owns_fr h2 hf fun hx => by have := hX _ hx; have := h.lM; omega⟩,
    fun r hr => (h.vers r hr).fr hf fun k hk => by have := hX _ hk; have := h.lp; omega, h.apart⟩
theorem StoreIn.keep {B b1 : Nat} {w w' : World} {p M : Nat} {vs : List VR} {S : List (Nat × Nat)} (h : StoreIn B b1 w p M vs S) (hb : Below w.heap.size w w') : StoreIn B b1 w' p M vs S := h.fr (Fr.of_below hb fun _ => False) fun k hk => hk.elim
theorem StoreIn.low {B b1 : Nat} {w : World} {p M : Nat} {vs : List VR} {S : List (Nat × Nat)} (h : StoreIn B b1 w p M vs S) (k : Nat) (hk : StX p M vs k) : B ≤ k := by
  rcases hk with rfl | rfl | ⟨r, hr, rfl⟩
  · exact h.lp.1
  · exact h.lM.1
  · have := (h.vers r hr).lo; have := h.lp; omega
/-- a row of the asker's stays, whatever is done with the store -/
theorem StoreIn.not_row {B b1 : Nat} {w : World} {p M : Nat} {vs : List VR} {S : List (Nat × Nat)} (h : StoreIn B b1 w p M vs S) {base : Nat} {e : TypeId} {size : Nat} {v : Value} {n : Nat} {xs : List Value} (ho : w.ownsRow base e size v n xs) (h1 : e ≠ 54) (h2 : e ≠ 58)
    (g : Nat) (hg : v.ownBlock = some g) : ¬ StX p M vs g := by
  rintro (rfl | rfl | ⟨r, hr, rfl⟩)
  · exact row_ne_blk ho h.box h1 hg
  · obtain ⟨n', _, hM⟩ := h.all
    obtain ⟨es, clock, hb, _⟩ := hM
    obtain ⟨_, ⟨h3, _⟩ | ⟨g1, cap, cur, hv, hb1, hh, _⟩⟩ := ho
    · rw [h3] at hg; cases hg
    · rw [hv] at hg; injection hg with hg; subst hg
      have := hh.symm.trans hb
      injection this with this
      cases this
  · obtain ⟨wb, S, m, k1, _⟩ := (h.vers r hr).rec_
    exact row_ne_blk ho k1 h2 hg
theorem StoreIn.row {B b1 : Nat} {w w' : World} {p M : Nat} {vs : List VR} {S : List (Nat × Nat)} (h : StoreIn B b1 w p M vs S) (hf : Fr w w' (StX p M vs)) {base : Nat} {e : TypeId} {size : Nat} {v : Value} {n : Nat} {xs : List Value} (ho : w.ownsRow base e size v n xs)
    (h1 : e ≠ 54) (h2 : e ≠ 58) : w'.ownsRow base e size v n xs := own_keep ho fun g hg hlt => hf.block g hlt (h.not_row ho h1 h2 g hg)
end Go.Proofs.YtboilcfeegigcaaGreatDoor
