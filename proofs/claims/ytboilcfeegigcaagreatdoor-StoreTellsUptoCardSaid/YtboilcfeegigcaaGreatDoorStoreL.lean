/- The walk of package store: Load. -/
import Derived.Test.YtboilcfeegigcaaGreatDoorStoreH
namespace Go.Proofs.YtboilcfeegigcaaGreatDoor
open Go.RowKit Go.Maps

/-- 'm[k] = v' in a region that draws its order. -/
theorem step_mapUpdate {H : Type} {P : Program} {w : World} {ops : Array Oper} {o : Oper} {a : Act} {K : Act → World → Prop} {Q : Exit → Act → World → Prop} {E : Prop} (hgd : o.guard = none) (m x v : Operand) (t : TypeId)
    (hop : o.op = Op.mapUpdate t m x v) (k e : TypeId) (Kd : Keyed P k) (ht : P.underlying t = some (.map k e)) (R : Value → Option (DataW H × List MemPlace)) (b n : Nat) (D : DataW H)
    (hm : a.eval m = .map (some b)) (hown : w.ownsMap P k R b n D) (hn : n < maxLen) (key val : Value) (kl : Lit) (hx : a.eval x = key) (hv : a.eval v = val) (hkey : keyOf P k key = some kl)
    (d : DataW H) (ps : List MemPlace) (hval : R val = some (d, ps))
    (hK : ∀ w', w'.ownsMap P k R b (n + 1) (D.put kl d) → w.grownBy w' (some b) → K (a.put o.dst undef) w') :
    if Region.wanted o (yielded ops a.tmps) = true then Oper.wp P o a w K Q else E := by
  have hw : Region.wanted o (yielded ops a.tmps) = true := by simp [Region.wanted, hgd]
  rw [if_pos hw]
  obtain ⟨w', hrun, r1, r2⟩ := hown.update Kd ht hn hkey hval
  unfold Oper.wp
  simp [execOp, hop, hm, hx, hv, hrun, Result.andThen]
  exact hK w' r1 r2

theorem neq_map_some (b : Nat) (W : World) : Sem.run Tryz.prog (binOp BinOp.neq 60 (.map (some b)) (.map none)) W = .ok (.bool true) W := by kernel_rfl
theorem neq_map_none (W : World) : Sem.run Tryz.prog (binOp BinOp.neq 60 (.map none) (.map none)) W = .ok (.bool false) W := by kernel_rfl

/-- Between two bundles. -/
structure LoadSt (w wr : World) (vb wb : Nat) (S : List Ent) (l : List Bun) (j : Nat) : Prop where
  lo : w.heap.size ≤ wb
  lv : w.heap.size ≤ vb
  blk : Blk wr vb 58 #[.map (some wb), .int .i64 0]
  map : OwnsA wr wb j S
  words : Words wr (wb + 1) S (l.take j)
  below : Below w.heap.size w wr
theorem LoadSt.keep {w wr W : World} {vb wb j : Nat} {S : List Ent} {l : List Bun} (h : LoadSt w wr vb wb S l j) (hb : Below wr.heap.size wr W) : LoadSt w W vb wb S l j := by
  have hf : Fr wr W (fun _ => False) := Fr.of_below hb _
  exact ⟨h.lo, h.lv, h.blk.fr hf id, owns_fr h.map hf id, h.words.fr hf fun _ _ _ _ _ hx => hx, h.below.trans (hb.mono h.below.size)⟩
theorem putE_text (S : List Ent) (x : Ent) (k : ByteArray) (h : hasK S x.key = false) : textK (putE S x) k = if eqs x.key k then some x.text else textK S k := by
  have hn : ∀ e ∈ S, e.key ≠ x.key := fun e he h2 => by
    have : hasK S x.key = true := hasK_iff.2 ⟨e, he, h2⟩
    rw [h] at this; cases this
  unfold putE
  rw [filter_self hn]
  unfold textK
  clear h
  induction S with
  | nil =>
    show ([x].find? _).map _ = _
    rw [List.find?_cons]
    cases eqs x.key k <;> rfl
  | cons a r ih =>
    have ihr := ih fun e he => hn e (List.mem_cons_of_mem _ he)
    unfold insE
    split
    · rw [List.find?_cons]
      cases eqs x.key k <;> rfl
    · rw [List.find?_cons, List.find?_cons]
      cases hak : eqs a.key k with
      | true =>
        have : eqs x.key k = false := by
          rw [eqs_false]
          intro e
          have := (eqs_iff _ _).1 hak
          exact hn a List.mem_cons_self (this.trans e.symm)
        rw [this]; rfl
      | false => exact ihr
theorem putE_has (S : List Ent) (x : Ent) (k : ByteArray) : hasK (putE S x) k = (eqs x.key k || hasK S k) := by
  rw [Bool.eq_iff_iff, hasK_iff, Bool.or_eq_true, eqs_iff, hasK_iff]
  unfold putE
  constructor
  · rintro ⟨e, he, rfl⟩
    rcases mem_insE.1 he with rfl | he
    · exact .inl rfl
    · exact .inr ⟨e, (List.mem_filter.1 he).1, rfl⟩
  · rintro (rfl | ⟨e, he, rfl⟩)
    · exact ⟨x, mem_insE.2 (.inl rfl), rfl⟩
    · by_cases h : e.key = x.key
      · exact ⟨x, mem_insE.2 (.inl rfl), h.symm⟩
      · exact ⟨e, mem_insE.2 (.inr (List.mem_filter.2 ⟨he, by rw [Bool.not_eq_true', eqs_false]; exact h⟩)), rfl⟩
/-- One more bundle is in. -/
theorem LoadSt.push {w wr W : World} {vb wb mb j : Nat} {S : List Ent} {l : List Bun} (h : LoadSt w wr vb wb S l j) (hj : j < l.length) (hno : ∀ q (h : q < j), l[q].tag ≠ l[j].tag) (hf : Fr wr W (· = wb)) (hm : wr.heap.size ≤ mb)
    (hA : OwnsA W wb (j + 1) (putE S ⟨l[j].tag, adr mb⟩)) {n : Nat} (hO : OwnsW W mb n (srt l[j].ents)) : LoadSt w W vb wb (putE S ⟨l[j].tag, adr mb⟩) l (j + 1) := by
  have hnoT : ∀ b ∈ l.take j, b.tag ≠ l[j].tag := fun b hb => by
    obtain ⟨q, hq, rfl⟩ := List.mem_iff_getElem.1 hb
    rw [List.length_take] at hq
    rw [List.getElem_take]
    exact hno q (by omega)
  have hS0 : hasK S l[j].tag = false := h.words.no _ hnoT
  have hlw := owns_lt h.map
  refine ⟨h.lo, h.lv, h.blk.fr hf fun e => owns_ne_blk h.map h.blk e.symm, hA, ⟨fun b hb => ?_, fun tag ht => ?_⟩, Fr.below h.below hf h.below.size fun i e => by have : i = wb := e; have := h.lo; omega⟩
  · rw [List.take_succ_eq_append_getElem hj] at hb
    rcases List.mem_append.1 hb with hb | hb
    · obtain ⟨mb', k, h1, h2, h3⟩ := h.words.yes b hb
      refine ⟨mb', k, ?_, h2, owns_fr h3 hf fun e => by have : mb' = wb := e; omega⟩
      rw [putE_text S _ _ hS0]
      have : eqs l[j].tag b.tag = false := by rw [eqs_false]; exact fun e => hnoT b hb e.symm
      show (if eqs l[j].tag b.tag then _ else _) = _
      rw [this]; exact h1
    · rw [List.mem_singleton.1 hb]
      refine ⟨mb, n, ?_, by omega, hO⟩
      rw [putE_text S _ _ hS0]
      show (if eqs l[j].tag l[j].tag then _ else _) = _
      rw [eqs_self]; rfl
  · rw [putE_has]
    have h1 : eqs l[j].tag tag = false := by
      rw [eqs_false]
      exact ht _ (by rw [List.take_succ_eq_append_getElem hj]; exact List.mem_append.2 (.inr (List.mem_singleton.2 rfl)))
    have h2 : hasK S tag = false := h.words.no tag fun b hb => ht b (by rw [List.take_succ_eq_append_getElem hj]; exact List.mem_append.2 (.inl hb))
    show (eqs l[j].tag tag || hasK S tag) = false
    rw [h1, h2]; rfl
end Go.Proofs.YtboilcfeegigcaaGreatDoor
