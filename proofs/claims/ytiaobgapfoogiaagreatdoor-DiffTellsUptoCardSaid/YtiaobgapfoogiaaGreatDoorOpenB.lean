/- Arguments opened: what reads as a datum reads as a list, a string, a number of Lean's own; and the row's last step. -/
import Derived.Test.YtiaobgapfoogiaaGreatDoorBase
import Derived.ProofKit
import Derived.SizedLaws
import Derived.JoinedCond
import Derived.OpenShut
import Derived.Test.YtiaobgapfoogiaaGreatDoorBun
set_option linter.unusedSimpArgs false
set_option linter.unusedVariables false
namespace Go.Proofs.YtiaobgapfoogiaaGreatDoor
open Go.RowKit Go.ChangeShapes Go.WideShapes Go.ChangeAt

/-- Whatever reads as a datum of type t reads as an element of E. -/
def Opens {α : Type} (P : Program) (E : Enc α) (t : TypeId) : Prop :=
  ∀ {H : Type} (enc : TypeId × Value → H) (w : World) (sp : Nat → Bool) (held : Bool) (fuel : Nat) (cs : List Value) (x : DataW H × List MemPlace) (hi : Nat),
    DataW.trod enc P w 0 sp held fuel t cs = some x → (∀ p ∈ x.2, p.block < hi) →
    ∃ a, E.ok w 0 hi cs a ∧ (∀ B, (∀ n ∈ x.1.weights P t, n ≤ B) → E.fits B a) ∧ E.bulk a ≤ Rows.uptoBulk x.1

section
variable {P : Program} {t e : TypeId}
theorem opens_str (ht : P.underlying t = some .string) : Opens P Enc.str t := by
  intro H enc w sp held fuel cs x hi h _
  obtain ⟨s, rfl, rfl, _⟩ := DataW.trod_string ht h
  refine ⟨s, rfl, fun B hB => ?_, ?_⟩
  · have := hB s.data.toList.length (by simp [DataW.weights])
    have e : s.data.toList.length = s.size := by rw [Array.length_toList]; rfl
    show s.size ≤ B
    omega
  · have e : s.data.toList.length = s.size := by rw [Array.length_toList]; rfl
    simp [Enc.str, Rows.uptoBulk, e]
theorem opens_int (ht : P.underlying t = some (.int .i64)) : Opens P Enc.int t := by
  intro H enc w sp held fuel cs x hi h _
  obtain ⟨n, rfl, rfl, hn⟩ := DataW.trod_int ht h
  exact ⟨n, rfl, fun _ _ => hn, by simp [Enc.int, Rows.uptoBulk]⟩
theorem opens_byte (ht : P.underlying t = some (.int .u8)) : Opens P Enc.byte t := by
  intro H enc w sp held fuel cs x hi h _
  obtain ⟨n, rfl, rfl, hn⟩ := DataW.trod_int ht h
  have hx : 0 ≤ n ∧ n ≤ 255 := by simpa [Lit.wf, IntKind.min, IntKind.max, IntKind.signed, IntKind.bits] using hn
  refine ⟨UInt8.ofNat n.toNat, ?_, fun _ _ => trivial, by simp [Enc.byte, Rows.uptoBulk]⟩
  show [Value.int .u8 n] = _
  have : ((UInt8.ofNat n.toNat).toNat : Int) = n := by simp; omega
  rw [this]
theorem bulkAll_append {H : Type} (l r : List (DataW H)) : Rows.uptoBulkAll (l ++ r) = Rows.uptoBulkAll l + Rows.uptoBulkAll r := by
  induction l with
  | nil => simp [Rows.uptoBulkAll]
  | cons x l ih => simp only [List.cons_append, Rows.uptoBulkAll, ih]; omega
theorem bulkAll_sum {H : Type} (l : List (DataW H)) : Rows.uptoBulkAll l = (l.map Rows.uptoBulk).sum := by
  induction l with
  | nil => rfl
  | cons x l ih => simp only [Rows.uptoBulkAll, List.map_cons, List.sum_cons, ih]
theorem sum_le_sum {α β : Type} (f : α → Nat) (g : β → Nat) : ∀ (l : List α) (r : List β), l.length = r.length → (∀ (i : Nat) (h : i < l.length) (h2 : i < r.length), f l[i] ≤ g r[i]) → (l.map f).sum ≤ (r.map g).sum
  | [], [], _, _ => by simp
  | a :: l, b :: r, hl, h => by
    have h0 := h 0 (by simp) (by simp)
    have := sum_le_sum f g l r (by simpa using hl) (fun i h1 h2 => h (i + 1) (by simp only [List.length_cons]; omega) (by simp only [List.length_cons]; omega))
    simp only [List.map_cons, List.sum_cons]
    simp at h0
    omega
  | [], _ :: _, hl, _ => by simp at hl
  | _ :: _, [], hl, _ => by simp at hl
theorem weightsAll_mem {H : Type} {d : DataW H} {l : List (DataW H)} (h : d ∈ l) {n : Nat} (hn : n ∈ d.weights P e) : n ∈ DataW.weightsAll P e l := by
  induction l with
  | nil => cases h
  | cons x r ih =>
    simp only [DataW.weightsAll, List.mem_append]
    cases List.mem_cons.1 h with
    | inl e => subst e; exact .inl hn
    | inr e => exact .inr (ih e)
theorem choose_list {α : Type} (n : Nat) (R : Nat → α → Prop) (h : ∀ i, i < n → ∃ a, R i a) : ∃ l : List α, l.length = n ∧ ∀ (i : Nat) (hi : i < l.length), R i l[i] := by
  induction n with
  | zero => exact ⟨[], rfl, fun i hi => absurd hi (by simp)⟩
  | succ n ih =>
    obtain ⟨l, hl, hr⟩ := ih fun i hi => h i (by omega)
    obtain ⟨a, ha⟩ := h n (by omega)
    refine ⟨l ++ [a], by simp [hl], fun i hi => ?_⟩
    rw [List.getElem_append]
    split
    · exact hr i (by omega)
    · have : i = n := by simp at hi; omega
      subst this
      simpa using ha
theorem opens_list {α : Type} {E : Enc α} (hE : Opens P E e) (ht : P.underlying t = some (.slice e)) (hC : P.cellsOf e = E.sz) (hB' : P.bytesOf e = E.bytes) (hsz : 0 < E.sz) : Opens P E.list t := by
  intro H enc w sp held fuel cs x hi h hx
  rcases DataW.trod_slice ht h with ⟨rfl, rfl⟩ | ⟨a, len, cap, elems, rest, n, _, rfl, rfl, hb, hl, hm, hlen, hel, hsp, hns⟩
  · exact ⟨[], ⟨_, rfl, ListOk.nil 0 none⟩, fun B _ => ⟨by simp, fun a ha => by cases ha⟩, by simp [Enc.list, Rows.uptoBulk]⟩
  · have key : ∀ i, i < len → ∃ y : α, (a.spot = none ∨ 0 < i) ∧ a.block < hi ∧ (∃ cs, CellsAt w a.block (a.off + i * E.sz) cs ∧ E.ok w 0 hi cs y) ∧ ∃ z, elems[i]? = some z ∧ (∀ B, (∀ n ∈ z.1.weights P e, n ≤ B) → E.fits B y) ∧ E.bulk y ≤ Rows.uptoBulk z.1 := by
      intro i hil
      have h1 := hel i hil
      have hz : elems[i]? = some (elems[i]'(by omega)) := List.getElem?_eq_getElem (by omega)
      rw [hz, Option.bind_eq_some_iff] at h1
      obtain ⟨cs, hcs, htr⟩ := h1
      obtain ⟨_, hcl, hat⟩ := World.cells?_some hcs
      have hin : ∀ p ∈ (elems[i]'(by omega)).2, p.block < hi := fun p hp => hx p (by
        simp only [List.mem_append, List.mem_flatMap]
        exact .inr ⟨_, .inl (List.getElem_mem (by omega)), hp⟩)
      obtain ⟨y, hy, hf, hbk⟩ := hE enc w sp held n cs _ hi htr hin
      rw [hC] at hcl hat
      have h0 := hat 0 hsz
      obtain ⟨u0, hsome⟩ : ∃ u0, w.cell? ((a.add (i * E.sz)).add 0) = some u0 := ⟨_, by rw [h0]; exact List.getElem?_eq_getElem (by omega)⟩
      have hspot : a.spot = none ∨ 0 < i := by
        rcases Nat.eq_zero_or_pos i with h2 | h2
        · rw [h2, Nat.zero_mul] at hsome
          simp only [Addr.add, if_true] at hsome
          left
          unfold World.cell? at hsome
          split at hsome
          · split at hsome
            · cases hsome
            · cases hs : a.spot with
              | none => rfl
              | some q => simp_all
          · cases hsome
        · exact .inr h2
      have hblk : a.block < hi := by
        have := hx (.cell a.block a.off) (by
          simp only [List.mem_append]
          left
          unfold MemPlace.row
          simp only [List.mem_map, List.mem_range]
          exact ⟨0, by rw [hC]; exact Nat.mul_pos (by omega) hsz, by simp⟩)
        exact this
      refine ⟨y, hspot, hblk, ⟨cs, ?_, hy⟩, _, hz, hf, hbk⟩
      intro j u hj
      have hjl : j < E.sz := by rw [← hcl]; exact (List.getElem?_eq_some_iff.1 hj).1
      have h2 := hat j hjl
      rw [hj] at h2
      have hadd : (a.add (i * E.sz)).add j = ⟨a.block, a.off + i * E.sz + j, none⟩ := by
        have hs : i * E.sz = 0 → a.spot = none := fun h => by
          rcases hspot with h3 | h3
          · exact h3
          · have := Nat.mul_pos h3 hsz; omega
        unfold Addr.add
        by_cases g1 : i * E.sz = 0
        · rw [if_pos g1]
          by_cases g2 : j = 0
          · rw [if_pos g2, g1, g2, ← hs g1]; rfl
          · rw [if_neg g2, g1]; rfl
        · rw [if_neg g1]
          by_cases g2 : j = 0
          · rw [if_pos g2, g2]; rfl
          · rw [if_neg g2]
      rw [hadd] at h2
      exact h2
    obtain ⟨l, hll, hR⟩ := choose_list len _ key
    refine ⟨l, ⟨_, rfl, some a, cap, by rw [hll], by omega, fun i hi' => ?_⟩, fun B hB => ⟨?_, fun y hy => ?_⟩, ?_⟩
    · obtain ⟨hspot, hblk, ⟨cs, hc, hok⟩, _⟩ := hR i hi'
      have hs : a.spot = none := by
        obtain ⟨h0, _⟩ := hR 0 (by omega)
        rcases h0 with h0 | h0
        · exact h0
        · omega
      exact ⟨a.block, a.off, cs, by rw [← hs], Nat.zero_le _, hblk, hc, hok⟩
    · have := hB ((elems.length + rest.length) * P.bytesOf e) (by simp [DataW.weights, ht])
      rw [hB'] at this
      refine Nat.le_trans (Nat.mul_le_mul_right _ ?_) this
      omega
    · obtain ⟨i, hi', rfl⟩ := List.getElem_of_mem hy
      obtain ⟨_, _, _, z, hz, hf, _⟩ := hR i hi'
      refine hf B fun n hn => hB n ?_
      simp only [DataW.weights, ht, List.mem_cons, List.mem_append]
      refine .inr (.inl (weightsAll_mem ?_ hn))
      exact List.mem_map.2 ⟨z, List.mem_of_getElem? hz, rfl⟩
    · show (l.map E.bulk).sum + 1 ≤ _
      simp only [Rows.uptoBulk]
      have h1 : (l.map E.bulk).sum ≤ ((elems.map (·.1)).map Rows.uptoBulk).sum := by
        refine sum_le_sum _ _ _ _ (by simp; omega) fun i h1 h2 => ?_
        obtain ⟨_, _, _, z, hz, _, hbk⟩ := hR i h1
        have : (elems.map (·.1))[i] = z.1 := by
          rw [List.getElem_map]
          have := (List.getElem?_eq_some_iff.1 hz).2
          rw [this]
        rw [this]
        exact hbk
      rw [← bulkAll_sum] at h1
      omega
end

/- ## Arguments -/
section
variable {H : Type} {enc : TypeId × Value → H} {P : Program} {W : World} {base : Nat} {t e : TypeId} {v : Value} {d : DataW H} {p : List MemPlace} {hi : Nat}
theorem arg_list {α : Type} {E : Enc α} (hE : Opens P E.list t) (ht : P.underlying t = some (.slice e)) (hv : Value.okWide P W .any base t v) (h : DataW.Trod enc P W 0 (fun _ => true) true t v d p) (hlt : ∀ x ∈ p, x.block < hi) :
    ∃ l, ListOk E W 0 hi v l ∧ (∀ B, (∀ n ∈ d.weights P t, n ≤ B) → E.list.fits B l) ∧ E.list.bulk l ≤ Rows.uptoBulk d := by
  obtain ⟨A, n, c, rfl⟩ := okWide_slice ht hv
  obtain ⟨fuel, hf⟩ := h
  obtain ⟨l, ⟨v', hv', hl⟩, hb⟩ := hE enc W _ _ _ _ _ hi hf hlt
  have e1 : [Value.slice A n c] = [v'] := hv'
  injection e1 with e1
  subst e1
  exact ⟨l, hl, hb⟩
theorem arg_str (ht : P.underlying t = some .string) (hv : Value.okWide P W .any base t v) (h : DataW.Trod enc P W 0 (fun _ => true) true t v d p) :
    ∃ s : ByteArray, v = .string s ∧ (∀ B, (∀ n ∈ d.weights P t, n ≤ B) → s.size ≤ B) ∧ s.size + 1 ≤ Rows.uptoBulk d := by
  obtain ⟨s, rfl⟩ := okWide_string ht hv
  obtain ⟨fuel, hf⟩ := h
  obtain ⟨a, ha, hb⟩ := opens_str ht enc W _ _ _ _ (d, p) (p.foldr (fun x m => max (x.block + 1) m) 0) hf (fun x hx => by
    clear hf
    show x.block < _
    induction p with
    | nil => cases hx
    | cons y r ih =>
      simp only [List.foldr_cons]
      cases List.mem_cons.1 hx with
      | inl e => subst e; omega
      | inr e => have := ih e; omega)
  have e1 : [Value.string s] = [Value.string a] := ha
  injection e1 with e1
  injection e1 with e1
  subst e1
  exact ⟨s, rfl, hb⟩
theorem arg_int (ht : P.underlying t = some (.int .i64)) (hv : Value.okWide P W .any base t v) (h : DataW.Trod enc P W 0 (fun _ => true) true t v d p) :
    ∃ n : Int, v = .int .i64 n ∧ -9223372036854775808 ≤ n ∧ n ≤ 9223372036854775807 := by
  obtain ⟨n, rfl, rfl, rfl, w0⟩ := open_int ht hv h
  have : -9223372036854775808 ≤ n ∧ n ≤ 9223372036854775807 := by simpa [Lit.wf, IntKind.min, IntKind.max, IntKind.signed, IntKind.bits] using w0
  exact ⟨n, rfl, this⟩
theorem arg_byte (ht : P.underlying t = some (.int .u8)) (hv : Value.okWide P W .any base t v) (h : DataW.Trod enc P W 0 (fun _ => true) true t v d p) :
    ∃ n : UInt8, v = .int .u8 n.toNat := by
  obtain ⟨n, rfl, rfl, rfl, w0⟩ := open_int ht hv h
  have hx : 0 ≤ n ∧ n ≤ 255 := by simpa [Lit.wf, IntKind.min, IntKind.max, IntKind.signed, IntKind.bits] using w0
  refine ⟨UInt8.ofNat n.toNat, ?_⟩
  have : ((UInt8.ofNat n.toNat).toNat : Int) = n := by simp; omega
  rw [this]
end

/- ## The row's last step -/
section
variable {H : Type} {enc : TypeId × Value → H} {P : Program}
theorem trodAll_below (hl : laidOutB P = true) {W W' : World} (hb : Below W.heap.size W W') {sp : Nat → Bool} : ∀ {ts : List TypeId} {vs : List Value} {ds : List (DataW H)} {ps : List MemPlace},
    (∀ t ∈ ts, P.readableRec t = true ∧ t < P.types.size) → DataW.TrodAll enc P W 0 (fun _ => true) true ts vs ds ps → (∀ p ∈ ps, p.block < W.heap.size) → (∀ p ∈ ps, sp p.block = true) → DataW.TrodAll enc P W' 0 sp true ts vs ds ps
  | [], [], [], _, _, h, _, _ => h
  | t :: ts, v :: vs, d :: ds, ps, hts, h, hlt, hsp => by
    obtain ⟨p, q, h1, h2, rfl⟩ := h
    obtain ⟨hr, hrow⟩ := hts t (by simp)
    refine ⟨p, q, WideElems.Trod_stays hl hr hrow h1 (fun x hx => hb.same (hlt x (by simp [hx]))) (fun x hx => hsp x (by simp [hx])), ?_, rfl⟩
    exact trodAll_below hl hb (fun t ht => hts t (by simp [ht])) h2 (fun x hx => hlt x (by simp [hx])) (fun x hx => hsp x (by simp [hx]))
  | [], [], _ :: _, _, _, h, _, _ => h.elim
  | [], _ :: _, _, _, _, h, _, _ => h.elim
  | _ :: _, [], _, _, _, h, _, _ => h.elim
  | _ :: _, _ :: _, [], _, _, h, _, _ => h.elim

theorem law_post {f : Func} {s : ChangeSpec} {apart fresh handsOn again : Bool} {W W' : World} {args : Array Value} {ds gs : List (DataW H)} {before : List MemPlace} {tb : TypeId}
    (hW : DataW.Whole enc P f.params.toList s.vars apart W args.toList ds gs before) (hs : s.vars = []) (hrt : f.resultTypes = #[tb]) (htb : P.underlying tb = some .bool)
    (hfn : s.fn H (ds ++ gs) = { results := [.lit (.bool true)], args := ds }) (hl : laidOutB P = true) (hts : ∀ t ∈ f.params.toList, P.readableRec t = true ∧ t < P.types.size)
    (hb : Below W.heap.size W W') : s.post enc P f apart fresh handsOn again W args (.bool true) W' := by
  have hW' := hW
  obtain ⟨p, q, hA, hV, hpq, hz, hn⟩ := hW'
  rw [hs] at hV
  obtain ⟨rfl, rfl⟩ := trodVars_none hV
  rw [List.append_nil] at hpq
  subst hpq
  have hlt : ∀ x ∈ before, x.block < W.heap.size := fun x hx => hW.lt x hx
  have hold : ∀ x ∈ before, (fun b => decide (b < W.heap.size)) x.block = true := fun x hx => by simpa using hlt x hx
  have hres : ∀ (b : Nat) (sp : Nat → Bool) (hd : Bool), DataW.TrodAll enc P W' b sp hd f.resultTypes.toList ((Value.bool true).resultList f.resultTypes.size) (s.fn H (ds ++ [])).results [] := fun b sp hd => by
    rw [hfn, hrt]
    exact trodAll_cons_mk (shut_bool htb _) trodAll_mk0
  have hargs : ∀ sp : Nat → Bool, (∀ x ∈ before, sp x.block = true) → DataW.TrodAll enc P W' 0 sp true f.params.toList args.toList (s.fn H (ds ++ [])).args before := fun sp hsp => by
    rw [hfn]
    exact trodAll_below hl hb hts hA hlt hsp
  have hvars : ∀ sp : Nat → Bool, DataW.TrodVars enc P W' sp s.vars (s.fn H (ds ++ [])).vars [] := fun sp => by rw [hfn, hs]; rfl
  have hok : ∀ (j : Nat) (t : TypeId) (r : Value), f.resultTypes[j]? = some t → ((Value.bool true).resultList f.resultTypes.size)[j]? = some r → Value.okWide P W' .any 0 t r := by
    exact ok_one hrt rfl (okWide_bool_mk htb _)
  refine ⟨ds, [], before, [], before, [], hW, hres _ _ _, hargs _ hold, hvars _, World.keptBut_mono (fun x hx => ⟨hx, ?_⟩) (hb.frame (· ∈ before)), fun _ => ?_⟩
  · exact .inr (.inl hx)
  · refine ⟨hok, _, _, ([] ++ before) ++ [], ⟨[] ++ before, [], trodAll_append (hargs _ (fun _ _ => rfl)) (hres _ _ _), hvars _, rfl, ?_, ?_⟩, ?_⟩
    · intro b off hp
      have hin : MemPlace.cell b off ∈ before := by simpa using hp
      rw [hb.frozen (hlt _ hin)]
      exact hz b off hin
    · intro ha
      have := hn ha
      simpa using this
    · intro x hx _
      simpa using hx
end
def TyOk (P : Program) (t : TypeId) : Prop := P.readableRec t = true ∧ t < P.types.size
theorem tys_nil {P : Program} : ∀ t ∈ ([] : List TypeId), TyOk P t := fun _ h => by cases h
theorem tys_cons {P : Program} {t : TypeId} {ts : List TypeId} (h : TyOk P t) (hs : ∀ x ∈ ts, TyOk P x) : ∀ x ∈ t :: ts, TyOk P x := fun x hx => by
  cases List.mem_cons.1 hx with
  | inl e => subst e; exact h
  | inr e => exact hs x e
theorem own_knob : ownKnob Tryz.prog.godebug = none := by kernel_rfl
theorem laid_out : laidOutB Tryz.prog = true := by kernel_rfl
end Go.Proofs.YtiaobgapfoogiaaGreatDoor
/- Structs opened: tags, entries, bundles. -/

namespace Go.Proofs.YtiaobgapfoogiaaGreatDoor
open Go.RowKit Go.ChangeShapes Go.WideShapes Go.ChangeAt

section
variable {P : Program} {t : TypeId}
theorem weightsEach_mem {H : Type} : ∀ {ts : List TypeId} {ds : List (DataW H)} (j : Nat) (u : TypeId) (d : DataW H), ts[j]? = some u → ds[j]? = some d → ∀ n ∈ d.weights P u, n ∈ DataW.weightsEach P ts ds
  | [], _, j, _, _, h, _, _, _ => by simp at h
  | _ :: _, [], j, _, _, _, h, _, _ => by simp at h
  | a :: ts, b :: ds, 0, u, d, h1, h2, n, hn => by
    simp at h1 h2; subst h1; subst h2
    simp only [DataW.weightsEach, List.mem_append]; exact .inl hn
  | a :: ts, b :: ds, j + 1, u, d, h1, h2, n, hn => by
    simp only [DataW.weightsEach, List.mem_append]
    exact .inr (weightsEach_mem j u d (by simpa using h1) (by simpa using h2) n hn)
theorem opens_struct2 {α β γ : Type} {A : Enc α} {B : Enc β} {E : Enc γ} {f0 f1 : Field} (hA : Opens P A f0.type) (hB : Opens P B f1.type) (ht : P.underlying t = some (.struct #[f0, f1]))
    (o0 : f0.offset = 0) (o1 : f1.offset = A.sz) (c0 : P.cellsOf f0.type = A.sz) (c1 : P.cellsOf f1.type = B.sz) (ct : P.cellsOf t = A.sz + B.sz) (mk : α → β → γ)
    (hok : ∀ w lo hi c d a b, A.ok w lo hi c a → B.ok w lo hi d b → E.ok w lo hi (c ++ d) (mk a b)) (hf : ∀ n a b, A.fits n a → B.fits n b → E.fits n (mk a b))
    (hb : ∀ a b, E.bulk (mk a b) ≤ A.bulk a + B.bulk b) : Opens P E t := by
  intro H enc w sp held fuel cs x hi h hx
  obtain ⟨xs, n, rfl, rfl, hcl, hxl, hel⟩ := DataW.trod_struct ht h
  have e0 := hel 0 f0 rfl
  have e1 := hel 1 f1 rfl
  have hl2 : xs.length = 2 := hxl
  obtain ⟨y, z, rfl⟩ : ∃ y z, xs = [y, z] := by
    match xs, hl2 with
    | [y, z], _ => exact ⟨y, z, rfl⟩
  rw [o0, c0, List.drop_zero] at e0
  rw [o1, c1] at e1
  obtain ⟨a, ka, fa, ba⟩ := hA enc w sp held n _ y hi e0 fun p hp => hx p (by simp [hp])
  obtain ⟨b, kb, fb, bb⟩ := hB enc w sp held n _ z hi e1 fun p hp => hx p (by simp [hp])
  have hc : cs = cs.take A.sz ++ (cs.drop A.sz).take B.sz := by
    rw [List.take_of_length_le (l := cs.drop A.sz) (by rw [List.length_drop]; omega), List.take_append_drop]
  refine ⟨mk a b, by rw [hc]; exact hok _ _ _ _ _ _ _ ka kb, fun n hn => hf _ _ _ (fa n fun m hm => hn m ?_) (fb n fun m hm => hn m ?_), ?_⟩
  · simp only [DataW.weights, ht]
    exact weightsEach_mem 0 f0.type y.1 rfl rfl m hm
  · simp only [DataW.weights, ht]
    exact weightsEach_mem 1 f1.type z.1 rfl rfl m hm
  · have := hb a b
    simp only [Rows.uptoBulk, Rows.uptoBulkAll, List.map_cons, List.map_nil]
    omega
theorem opens_struct4 {α β γ δ ε : Type} {A : Enc α} {B : Enc β} {C : Enc γ} {D : Enc δ} {E : Enc ε} {f0 f1 f2 f3 : Field} (hA : Opens P A f0.type) (hB : Opens P B f1.type) (hC : Opens P C f2.type) (hD : Opens P D f3.type)
    (ht : P.underlying t = some (.struct #[f0, f1, f2, f3]))
    (o0 : f0.offset = 0) (o1 : f1.offset = A.sz) (o2 : f2.offset = A.sz + B.sz) (o3 : f3.offset = A.sz + B.sz + C.sz) (c0 : P.cellsOf f0.type = A.sz) (c1 : P.cellsOf f1.type = B.sz) (c2 : P.cellsOf f2.type = C.sz) (c3 : P.cellsOf f3.type = D.sz)
    (ct : P.cellsOf t = A.sz + B.sz + C.sz + D.sz) (mk : α → β → γ → δ → ε)
    (hok : ∀ w lo hi c d e f a b g k, A.ok w lo hi c a → B.ok w lo hi d b → C.ok w lo hi e g → D.ok w lo hi f k → E.ok w lo hi (c ++ d ++ e ++ f) (mk a b g k))
    (hf : ∀ n a b g k, A.fits n a → B.fits n b → C.fits n g → D.fits n k → E.fits n (mk a b g k))
    (hb : ∀ a b g k, E.bulk (mk a b g k) ≤ A.bulk a + B.bulk b + C.bulk g + D.bulk k) : Opens P E t := by
  intro H enc w sp held fuel cs x hi h hx
  obtain ⟨xs, n, rfl, rfl, hcl, hxl, hel⟩ := DataW.trod_struct ht h
  have e0 := hel 0 f0 rfl
  have e1 := hel 1 f1 rfl
  have e2 := hel 2 f2 rfl
  have e3 := hel 3 f3 rfl
  have hl2 : xs.length = 4 := hxl
  obtain ⟨y, z, u, v, rfl⟩ : ∃ y z u v, xs = [y, z, u, v] := by
    match xs, hl2 with
    | [y, z, u, v], _ => exact ⟨y, z, u, v, rfl⟩
  rw [o0, c0, List.drop_zero] at e0
  rw [o1, c1] at e1
  rw [o2, c2] at e2
  rw [o3, c3] at e3
  obtain ⟨a, ka, fa, ba⟩ := hA enc w sp held n _ y hi e0 fun p hp => hx p (by simp [hp])
  obtain ⟨b, kb, fb, bb⟩ := hB enc w sp held n _ z hi e1 fun p hp => hx p (by simp [hp])
  obtain ⟨g, kg, fg, bg⟩ := hC enc w sp held n _ u hi e2 fun p hp => hx p (by simp [hp])
  obtain ⟨k, kk, fk, bk⟩ := hD enc w sp held n _ v hi e3 fun p hp => hx p (by simp [hp])
  have hc : cs = cs.take A.sz ++ (cs.drop A.sz).take B.sz ++ (cs.drop (A.sz + B.sz)).take C.sz ++ (cs.drop (A.sz + B.sz + C.sz)).take D.sz := by
    rw [List.take_of_length_le (l := cs.drop (A.sz + B.sz + C.sz)) (by rw [List.length_drop]; omega)]
    rw [List.append_assoc, ← List.drop_drop (i := C.sz) (j := A.sz + B.sz), List.take_append_drop, List.append_assoc, ← List.drop_drop (i := B.sz) (j := A.sz), List.take_append_drop, List.take_append_drop]
  refine ⟨mk a b g k, by rw [hc]; exact hok _ _ _ _ _ _ _ _ _ _ _ ka kb kg kk, fun n hn => hf _ _ _ _ _ (fa n fun m hm => hn m ?_) (fb n fun m hm => hn m ?_) (fg n fun m hm => hn m ?_) (fk n fun m hm => hn m ?_), ?_⟩
  · simp only [DataW.weights, ht]
    exact weightsEach_mem 0 f0.type y.1 rfl rfl m hm
  · simp only [DataW.weights, ht]
    exact weightsEach_mem 1 f1.type z.1 rfl rfl m hm
  · simp only [DataW.weights, ht]
    exact weightsEach_mem 2 f2.type u.1 rfl rfl m hm
  · simp only [DataW.weights, ht]
    exact weightsEach_mem 3 f3.type v.1 rfl rfl m hm
  · have := hb a b g k
    simp only [Rows.uptoBulk, Rows.uptoBulkAll, List.map_cons, List.map_nil]
    omega
end
theorem opens_tag : Opens Tryz.prog Enc.tag 72 :=
  opens_struct4 (A := Enc.str) (B := Enc.str) (C := Enc.str) (D := Enc.str.list) (E := Enc.tag) (opens_str Tryz.underlying9) (opens_str Tryz.underlying9) (opens_str Tryz.underlying9)
    (opens_list (E := Enc.str) (opens_str Tryz.underlying9) Tryz.underlying26 (by kernel_rfl) (by kernel_rfl) (by decide)) Tryz.underlying72 rfl rfl rfl rfl (by kernel_rfl) (by kernel_rfl) (by kernel_rfl) (by kernel_rfl) (by kernel_rfl)
    Tg.mk
    (fun w lo hi c d e f a b g k h1 h2 h3 h4 => by
      obtain ⟨v, rfl, hl⟩ := h4
      obtain rfl : c = [.string a] := h1
      obtain rfl : d = [.string b] := h2
      obtain rfl : e = [.string g] := h3
      exact ⟨v, rfl, hl⟩)
    (fun n a b g k h1 h2 h3 h4 => ⟨h1, h2, h3, h4⟩) (fun a b g k => by simp only [Enc.tag, Enc.str]; omega)
theorem opens_ent : Opens Tryz.prog Enc.ent 33 :=
  opens_struct2 (A := Enc.str) (B := Enc.str) (E := Enc.ent) (opens_str Tryz.underlying9) (opens_str Tryz.underlying9) Tryz.underlying33 rfl rfl (by kernel_rfl) (by kernel_rfl) (by kernel_rfl)
    Ent.mk
    (fun w lo hi c d a b h1 h2 => by
      obtain rfl : c = [.string a] := h1
      obtain rfl : d = [.string b] := h2
      exact rfl)
    (fun n a b h1 h2 => ⟨h1, h2⟩) (fun a b => by simp only [Enc.ent, Enc.str]; omega)
theorem opens_bun : Opens Tryz.prog Enc.bun 24 :=
  opens_struct2 (A := Enc.str) (B := Enc.ent.list) (E := Enc.bun) (opens_str Tryz.underlying9) (opens_list (E := Enc.ent) opens_ent Tryz.underlying22 (by kernel_rfl) (by kernel_rfl) (by decide)) Tryz.underlying24 rfl rfl (by kernel_rfl) (by kernel_rfl) (by kernel_rfl)
    Bun.mk
    (fun w lo hi c d a b h1 h2 => by
      obtain ⟨v, rfl, hl⟩ := h2
      obtain rfl : c = [.string a] := h1
      exact ⟨v, rfl, hl⟩)
    (fun n a b h1 h2 => ⟨h1, h2⟩) (fun a b => by simp only [Enc.bun, Enc.str]; omega)

theorem len_sum {α : Type} (f : α → Nat) : ∀ l : List α, (∀ a ∈ l, 1 ≤ f a) → l.length ≤ (l.map f).sum
  | [], _ => Nat.le_refl _
  | a :: r, h => by
    have h1 := len_sum f r fun x hx => h x (List.mem_cons_of_mem _ hx)
    have h2 := h a List.mem_cons_self
    rw [List.map_cons, List.sum_cons, List.length_cons]; omega
theorem bulk_mem {α : Type} (f : α → Nat) {l : List α} {a : α} (h : a ∈ l) : f a ≤ (l.map f).sum := by
  induction l with
  | nil => cases h
  | cons x r ih =>
    rw [List.map_cons, List.sum_cons]
    rcases List.mem_cons.1 h with rfl | h
    · omega
    · have := ih h; omega

/- ## Struct arguments -/
section
variable {H : Type} {enc : TypeId × Value → H} {P : Program} {W : World} {base : Nat} {t : TypeId} {v : Value} {d : DataW H} {p : List MemPlace} {hi : Nat}
theorem arg_struct {α : Type} {E : Enc α} {fs : Array Field} (hE : Opens P E t) (ht : P.underlying t = some (.struct fs)) (hv : Value.okWide P W .any base t v) (h : DataW.Trod enc P W 0 (fun _ => true) true t v d p) (hlt : ∀ x ∈ p, x.block < hi) :
    ∃ (a : α) (cs : Array Value), v = .agg cs ∧ E.ok W 0 hi cs.toList a ∧ (∀ B, (∀ n ∈ d.weights P t, n ≤ B) → E.fits B a) ∧ E.bulk a ≤ Rows.uptoBulk d := by
  obtain ⟨cs, rfl, _⟩ := okWide_struct ht hv
  obtain ⟨fuel, hf⟩ := h
  obtain ⟨a, ha, hb⟩ := hE enc W _ _ _ _ _ hi hf hlt
  exact ⟨a, cs, rfl, ha, hb⟩
end
end Go.Proofs.YtiaobgapfoogiaaGreatDoor
