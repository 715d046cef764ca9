/- Arguments opened by induction on how deep they are read; nodes of messages. -/
import Derived.Test.YtjdfpoppimcikaaGreatDoorAppend
namespace Go.Proofs.YtjdfpoppimcikaaGreatDoor
open Go.RowKit Go.ChangeShapes Go.WideShapes Go.ChangeAt

/-- as Opens, where it is read to depth f at most -/
def OpensF {α : Type} (P : Program) (E : Enc α) (t : TypeId) (f : Nat) : Prop :=
  ∀ (H : Type) (enc : TypeId × Value → H) (w : World) (sp : Nat → Bool) (held : Bool) (fuel : Nat) (cs : List Value) (x : DataW H × List MemPlace) (hi : Nat), fuel ≤ f →
    DataW.trod enc P w 0 sp held fuel t cs = some x → (∀ p ∈ x.2, p.block < hi) →
    ∃ a, E.ok w 0 hi cs a ∧ (∀ B, (∀ n ∈ x.1.weights P t, n ≤ B) → E.fits B a) ∧ E.bulk a ≤ Rows.uptoBulk x.1
section
variable {P : Program} {t e : TypeId}
theorem opensF_of {α : Type} {E : Enc α} (h : Opens P E t) (f : Nat) : OpensF P E t f := fun _ enc w sp held fuel cs x hi _ => h enc w sp held fuel cs x hi
theorem opens_listF {α : Type} {E : Enc α} {f : Nat} (hE : OpensF P E e f) (ht : P.underlying t = some (.slice e)) (hC : P.cellsOf e = E.sz) (hB' : P.bytesOf e = E.bytes) (hsz : 0 < E.sz) : OpensF P E.list t (f + 1) := by
  intro H enc w sp held fuel cs x hi hfu h hx
  rcases DataW.trod_slice ht h with ⟨rfl, rfl⟩ | ⟨a, len, cap, elems, rest, n, hfe, rfl, rfl, hb, hl, hm, hlen, hel, hsp, hns⟩
  · exact ⟨[], ⟨_, rfl, ListOk.nil 0 none⟩, fun B _ => ⟨by simp, fun a ha => by cases ha⟩, by simp [Enc.list, Rows.uptoBulk]⟩
  · have key : ∀ i, i < len → ∃ y : α, (a.spot = none ∨ 0 < i) ∧ a.block < hi ∧ (∃ cs, CellsAt w a.block (a.off + i * E.sz) cs ∧ E.ok w 0 hi cs y) ∧ ∃ z, elems[i]? = some z ∧ (∀ B, (∀ n ∈ z.1.weights P e, n ≤ B) → E.fits B y) ∧ E.bulk y ≤ Rows.uptoBulk z.1 := by
      intro i hil
      have h1 := hel i hil
      have hz : elems[i]? = some (elems[i]'(by omega)) := List.getElem?_eq_getElem (by omega)
      rw [hz, Option.bind_eq_some_iff] at h1
      obtain ⟨cs, hcs, htr⟩ := h1
      obtain ⟨_, hcl, hat⟩ := World.cells?_some hcs
      have hin : ∀ p ∈ (elems[i]'(by omega)).2, p.block < hi := fun p hp => hx p (by
        simp only [List.mem_append, List.mem_flatMap]
        exact .inr ⟨_, .inl (List.getElem_mem (by omega)), hp⟩)
      obtain ⟨y, hy, hf, hbk⟩ := hE _ enc w sp held n cs _ hi (by omega) htr hin
      rw [hC] at hcl hat
      have h0 := hat 0 hsz
      obtain ⟨u0, hsome⟩ : ∃ u0, w.cell? ((a.add (i * E.sz)).add 0) = some u0 := ⟨_, by rw [h0]; exact List.getElem?_eq_getElem (by omega)⟩
      have hspot : a.spot = none ∨ 0 < i := by
        rcases Nat.eq_zero_or_pos i with h2 | h2
        · rw [h2, Nat.zero_mul] at hsome
          simp only [Addr.add, if_true] at hsome
          left
          unfold World.cell? at hsome
          split at hsome
          · split at hsome
            · cases hsome
            · cases hs : a.spot with
              | none => rfl
              | some q => simp_all
          · cases hsome
        · exact .inr h2
      have hblk : a.block < hi := by
        have := hx (.cell a.block a.off) (by
          simp only [List.mem_append]
          left
          unfold MemPlace.row
          simp only [List.mem_map, List.mem_range]
          exact ⟨0, by rw [hC]; exact Nat.mul_pos (by omega) hsz, by simp⟩)
        exact this
      refine ⟨y, hspot, hblk, ⟨cs, ?_, hy⟩, _, hz, hf, hbk⟩
      intro j u hj
      have hjl : j < E.sz := by rw [← hcl]; exact (List.getElem?_eq_some_iff.1 hj).1
      have h2 := hat j hjl
      rw [hj] at h2
      have hadd : (a.add (i * E.sz)).add j = ⟨a.block, a.off + i * E.sz + j, none⟩ := by
        have hs : i * E.sz = 0 → a.spot = none := fun h => by
          rcases hspot with h3 | h3
          · exact h3
          · have := Nat.mul_pos h3 hsz; omega
        unfold Addr.add
        by_cases g1 : i * E.sz = 0
        · rw [if_pos g1]
          by_cases g2 : j = 0
          · rw [if_pos g2, g1, g2, ← hs g1]; rfl
          · rw [if_neg g2, g1]; rfl
        · rw [if_neg g1]
          by_cases g2 : j = 0
          · rw [if_pos g2, g2]; rfl
          · rw [if_neg g2]
      rw [hadd] at h2
      exact h2
    obtain ⟨l, hll, hR⟩ := choose_list len _ key
    refine ⟨l, ⟨_, rfl, some a, cap, by rw [hll], by omega, fun i hi' => ?_⟩, fun B hB => ⟨?_, fun y hy => ?_⟩, ?_⟩
    · obtain ⟨hspot, hblk, ⟨cs, hc, hok⟩, _⟩ := hR i hi'
      have hs : a.spot = none := by
        obtain ⟨h0, _⟩ := hR 0 (by omega)
        rcases h0 with h0 | h0
        · exact h0
        · omega
      exact ⟨a.block, a.off, cs, by rw [← hs], Nat.zero_le _, hblk, hc, hok⟩
    · have := hB ((elems.length + rest.length) * P.bytesOf e) (by simp [DataW.weights, ht])
      rw [hB'] at this
      refine Nat.le_trans (Nat.mul_le_mul_right _ ?_) this
      omega
    · obtain ⟨i, hi', rfl⟩ := List.getElem_of_mem hy
      obtain ⟨_, _, _, z, hz, hf, _⟩ := hR i hi'
      refine hf B fun n hn => hB n ?_
      simp only [DataW.weights, ht, List.mem_cons, List.mem_append]
      refine .inr (.inl (weightsAll_mem ?_ hn))
      exact List.mem_map.2 ⟨z, List.mem_of_getElem? hz, rfl⟩
    · show (l.map E.bulk).sum + 1 ≤ _
      simp only [Rows.uptoBulk]
      have h1 : (l.map E.bulk).sum ≤ ((elems.map (·.1)).map Rows.uptoBulk).sum := by
        refine sum_le_sum _ _ _ _ (by simp; omega) fun i h1 h2 => ?_
        obtain ⟨_, _, _, z, hz, _, hbk⟩ := hR i h1
        have : (elems.map (·.1))[i] = z.1 := by
          rw [List.getElem_map]
          have := (List.getElem?_eq_some_iff.1 hz).2
          rw [this]
        rw [this]
        exact hbk
      rw [← bulkAll_sum] at h1
      omega
theorem opens_structF2 {α β γ : Type} {A : Enc α} {B : Enc β} {E : Enc γ} {f : Nat} {f0 f1 : Field} (hA : OpensF P A f0.type f) (hB : OpensF P B f1.type f) (ht : P.underlying t = some (.struct #[f0, f1]))
    (o0 : f0.offset = 0) (o1 : f1.offset = A.sz) (c0 : P.cellsOf f0.type = A.sz) (c1 : P.cellsOf f1.type = B.sz) (ct : P.cellsOf t = A.sz + B.sz) (mk : α → β → γ)
    (hok : ∀ w lo hi c d a b, A.ok w lo hi c a → B.ok w lo hi d b → E.ok w lo hi (c ++ d) (mk a b)) (hf : ∀ n a b, A.fits n a → B.fits n b → E.fits n (mk a b))
    (hb : ∀ a b, E.bulk (mk a b) ≤ A.bulk a + B.bulk b) : OpensF P E t (f + 1) := by
  intro H enc w sp held fuel cs x hi hfu h hx
  obtain ⟨xs, n, rfl, rfl, hcl, hxl, hel⟩ := DataW.trod_struct ht h
  have e0 := hel 0 f0 rfl
  have e1 := hel 1 f1 rfl
  have hl2 : xs.length = 2 := hxl
  obtain ⟨y, z, rfl⟩ : ∃ y z, xs = [y, z] := by
    match xs, hl2 with
    | [y, z], _ => exact ⟨y, z, rfl⟩
  rw [o0, c0, List.drop_zero] at e0
  rw [o1, c1] at e1
  obtain ⟨a, ka, fa, ba⟩ := hA _ enc w sp held n _ y hi (by omega) e0 fun p hp => hx p (by simp [hp])
  obtain ⟨b, kb, fb, bb⟩ := hB _ enc w sp held n _ z hi (by omega) e1 fun p hp => hx p (by simp [hp])
  have hc : cs = cs.take A.sz ++ (cs.drop A.sz).take B.sz := by
    rw [List.take_of_length_le (l := cs.drop A.sz) (by rw [List.length_drop]; omega), List.take_append_drop]
  refine ⟨mk a b, by rw [hc]; exact hok _ _ _ _ _ _ _ ka kb, fun n hn => hf _ _ _ (fa n fun m hm => hn m ?_) (fb n fun m hm => hn m ?_), ?_⟩
  · simp only [DataW.weights, ht]
    exact weightsEach_mem 0 f0.type y.1 rfl rfl m hm
  · simp only [DataW.weights, ht]
    exact weightsEach_mem 1 f1.type z.1 rfl rfl m hm
  · have := hb a b
    simp only [Rows.uptoBulk, Rows.uptoBulkAll, List.map_cons, List.map_nil]
    omega
theorem opens_structF4 {α β γ δ ε : Type} {A : Enc α} {B : Enc β} {C : Enc γ} {D : Enc δ} {E : Enc ε} {f : Nat} {f0 f1 f2 f3 : Field} (hA : OpensF P A f0.type f) (hB : OpensF P B f1.type f) (hC : OpensF P C f2.type f) (hD : OpensF P D f3.type f)
    (ht : P.underlying t = some (.struct #[f0, f1, f2, f3]))
    (o0 : f0.offset = 0) (o1 : f1.offset = A.sz) (o2 : f2.offset = A.sz + B.sz) (o3 : f3.offset = A.sz + B.sz + C.sz) (c0 : P.cellsOf f0.type = A.sz) (c1 : P.cellsOf f1.type = B.sz) (c2 : P.cellsOf f2.type = C.sz) (c3 : P.cellsOf f3.type = D.sz)
    (ct : P.cellsOf t = A.sz + B.sz + C.sz + D.sz) (mk : α → β → γ → δ → ε)
    (hok : ∀ w lo hi c d e f a b g k, A.ok w lo hi c a → B.ok w lo hi d b → C.ok w lo hi e g → D.ok w lo hi f k → E.ok w lo hi (c ++ d ++ e ++ f) (mk a b g k))
    (hf : ∀ n a b g k, A.fits n a → B.fits n b → C.fits n g → D.fits n k → E.fits n (mk a b g k))
    (hb : ∀ a b g k, E.bulk (mk a b g k) ≤ A.bulk a + B.bulk b + C.bulk g + D.bulk k) : OpensF P E t (f + 1) := by
  intro H enc w sp held fuel cs x hi hfu h hx
  obtain ⟨xs, n, rfl, rfl, hcl, hxl, hel⟩ := DataW.trod_struct ht h
  have e0 := hel 0 f0 rfl
  have e1 := hel 1 f1 rfl
  have e2 := hel 2 f2 rfl
  have e3 := hel 3 f3 rfl
  have hl2 : xs.length = 4 := hxl
  obtain ⟨y, z, u, v, rfl⟩ : ∃ y z u v, xs = [y, z, u, v] := by
    match xs, hl2 with
    | [y, z, u, v], _ => exact ⟨y, z, u, v, rfl⟩
  rw [o0, c0, List.drop_zero] at e0
  rw [o1, c1] at e1
  rw [o2, c2] at e2
  rw [o3, c3] at e3
  obtain ⟨a, ka, fa, ba⟩ := hA _ enc w sp held n _ y hi (by omega) e0 fun p hp => hx p (by simp [hp])
  obtain ⟨b, kb, fb, bb⟩ := hB _ enc w sp held n _ z hi (by omega) e1 fun p hp => hx p (by simp [hp])
  obtain ⟨g, kg, fg, bg⟩ := hC _ enc w sp held n _ u hi (by omega) e2 fun p hp => hx p (by simp [hp])
  obtain ⟨k, kk, fk, bk⟩ := hD _ enc w sp held n _ v hi (by omega) e3 fun p hp => hx p (by simp [hp])
  have hc : cs = cs.take A.sz ++ (cs.drop A.sz).take B.sz ++ (cs.drop (A.sz + B.sz)).take C.sz ++ (cs.drop (A.sz + B.sz + C.sz)).take D.sz := by
    rw [List.take_of_length_le (l := cs.drop (A.sz + B.sz + C.sz)) (by rw [List.length_drop]; omega)]
    rw [List.append_assoc, ← List.drop_drop (i := C.sz) (j := A.sz + B.sz), List.take_append_drop, List.append_assoc, ← List.drop_drop (i := B.sz) (j := A.sz), List.take_append_drop, List.take_append_drop]
  refine ⟨mk a b g k, by rw [hc]; exact hok _ _ _ _ _ _ _ _ _ _ _ ka kb kg kk, fun n hn => hf _ _ _ _ _ (fa n fun m hm => hn m ?_) (fb n fun m hm => hn m ?_) (fg n fun m hm => hn m ?_) (fk n fun m hm => hn m ?_), ?_⟩
  · simp only [DataW.weights, ht]
    exact weightsEach_mem 0 f0.type y.1 rfl rfl m hm
  · simp only [DataW.weights, ht]
    exact weightsEach_mem 1 f1.type z.1 rfl rfl m hm
  · simp only [DataW.weights, ht]
    exact weightsEach_mem 2 f2.type u.1 rfl rfl m hm
  · simp only [DataW.weights, ht]
    exact weightsEach_mem 3 f3.type v.1 rfl rfl m hm
  · have := hb a b g k
    simp only [Rows.uptoBulk, Rows.uptoBulkAll, List.map_cons, List.map_nil]
    omega
end

/- ## Nodes -/
structure NdF (α : Type) where
  kind : Int
  text : ByteArray
  off : Int
  cases : List (ByteArray × List α)
/-- a node that is no deeper than n -/
def Nd : Nat → Type
  | 0 => Empty
  | n + 1 => NdF (Nd n)
def Enc.cas {α : Type} (E : Enc α) : Enc (ByteArray × List α) :=
  ⟨2, 40, fun w lo hi cs c => ∃ v, cs = [.string c.1, v] ∧ ListOk E w lo hi v c.2, fun B c => c.1.size ≤ B ∧ E.list.fits B c.2, fun c => c.1.size + 1 + E.list.bulk c.2⟩
def Enc.nodeF {α : Type} (E : Enc α) : Enc (NdF α) :=
  ⟨4, 56, fun w lo hi cs x => ∃ v, cs = [.int .i64 x.kind, .string x.text, .int .i64 x.off, v] ∧ ListOk (Enc.cas E) w lo hi v x.cases, fun B x => (Lit.int .i64 x.kind).wf = true ∧ x.text.size ≤ B ∧ (Lit.int .i64 x.off).wf = true ∧ (Enc.cas E).list.fits B x.cases,
    fun x => x.text.size + 1 + (Enc.cas E).list.bulk x.cases⟩
def Enc.none_ : Enc Empty := ⟨4, 56, fun _ _ _ _ _ => False, fun _ _ => True, fun _ => 1⟩
def Enc.node : (n : Nat) → Enc (Nd n)
  | 0 => Enc.none_
  | n + 1 => Enc.nodeF (Enc.node n)
theorem Enc.none_laws : Enc.none_.Laws := ⟨fun h => h.elim, fun h _ => h.elim, fun h _ _ => h.elim⟩
theorem Enc.cas_laws {α : Type} {E : Enc α} (hE : E.Laws) : (Enc.cas E).Laws :=
  ⟨fun ⟨_, h, _⟩ => by cases h; rfl, fun ⟨v, h, k⟩ ha => ⟨v, h, k.keep hE ha⟩, fun ⟨v, h, k⟩ h1 h2 => ⟨v, h, k.mono hE h1 h2⟩⟩
theorem Enc.nodeF_laws {α : Type} {E : Enc α} (hE : E.Laws) : (Enc.nodeF E).Laws :=
  ⟨fun ⟨_, h, _⟩ => by cases h; rfl, fun ⟨v, h, k⟩ ha => ⟨v, h, k.keep (Enc.cas_laws hE) ha⟩, fun ⟨v, h, k⟩ h1 h2 => ⟨v, h, k.mono (Enc.cas_laws hE) h1 h2⟩⟩
theorem Enc.node_laws : (n : Nat) → (Enc.node n).Laws
  | 0 => Enc.none_laws
  | n + 1 => Enc.nodeF_laws (Enc.node_laws n)
theorem Enc.node_sz : (n : Nat) → (Enc.node n).sz = 4
  | 0 => rfl
  | _ + 1 => rfl
theorem Enc.node_bytes : (n : Nat) → (Enc.node n).bytes = 56
  | 0 => rfl
  | _ + 1 => rfl
theorem opens_node : (n : Nat) → OpensF Tryz.prog (Enc.node n) 30 (n * 4)
  | 0 => by
    intro H enc w sp held fuel cs x hi hfu h _
    obtain rfl : fuel = 0 := by omega
    simp [DataW.trod] at h
  | n + 1 => by
    have hb : OpensF Tryz.prog (Enc.node n).list 22 (n * 4 + 1) := opens_listF (opens_node n) Tryz.underlying22 (by rw [Enc.node_sz]; kernel_rfl) (by rw [Enc.node_bytes]; kernel_rfl) (by rw [Enc.node_sz]; decide)
    have hc : OpensF Tryz.prog (Enc.cas (Enc.node n)) 76 (n * 4 + 2) :=
      opens_structF2 (A := Enc.str) (B := (Enc.node n).list) (E := Enc.cas (Enc.node n)) (opensF_of (opens_str Tryz.underlying9) _) hb Tryz.underlying76 rfl rfl (by kernel_rfl) (by kernel_rfl) (by kernel_rfl)
        Prod.mk
        (fun w lo hi c d a b h1 h2 => by
          obtain ⟨v, rfl, hl⟩ := h2
          obtain rfl : c = [.string a] := h1
          exact ⟨v, rfl, hl⟩)
        (fun n a b h1 h2 => ⟨h1, h2⟩) (fun a b => by simp only [Enc.cas, Enc.str]; omega)
    have hl : OpensF Tryz.prog (Enc.cas (Enc.node n)).list 28 (n * 4 + 3) := opens_listF hc Tryz.underlying28 (by kernel_rfl) (by kernel_rfl) (by show 0 < 2; decide)
    rw [show (n + 1) * 4 = n * 4 + 3 + 1 from by omega]
    exact opens_structF4 (f := n * 4 + 3) (A := Enc.int) (B := Enc.str) (C := Enc.int) (D := (Enc.cas (Enc.node n)).list) (E := Enc.node (n + 1)) (opensF_of (opens_int Tryz.underlying3) _) (opensF_of (opens_str Tryz.underlying9) _) (opensF_of (opens_int Tryz.underlying3) _) hl Tryz.underlying30 rfl rfl rfl rfl (by kernel_rfl) (by kernel_rfl) (by kernel_rfl) (by kernel_rfl) (by kernel_rfl)
      NdF.mk
      (fun w lo hi c d e f a b g k h1 h2 h3 h4 => by
        obtain ⟨v, rfl, hl⟩ := h4
        obtain rfl : c = [.int .i64 a] := h1
        obtain rfl : d = [.string b] := h2
        obtain rfl : e = [.int .i64 g] := h3
        exact ⟨v, rfl, hl⟩)
      (fun n a b g k h1 h2 h3 h4 => ⟨h1, h2, h3, h4⟩) (fun a b g k => by simp only [Enc.node, Enc.nodeF, Enc.int, Enc.str]; omega)
set_option maxRecDepth 100000 in
/-- a message as an argument -/
theorem arg_message {H : Type} {enc : TypeId × Value → H} {W : World} {base : Nat} {v : Value} {d : DataW H} {p : List MemPlace} {hi : Nat} (h : DataW.Trod enc Tryz.prog W 0 (fun _ => true) true 22 v d p) (hlt : ∀ x ∈ p, x.block < hi) (hv : Value.okWide Tryz.prog W .any base 22 v) :
    ∃ (n : Nat) (l : List (Nd n)), ListOk (Enc.node n) W 0 hi v l ∧ (∀ B, (∀ k ∈ d.weights Tryz.prog 22, k ≤ B) → (Enc.node n).list.fits B l) ∧ (l.map (Enc.node n).bulk).sum + 1 ≤ Rows.uptoBulk d := by
  obtain ⟨A, c, m, rfl⟩ := okWide_slice Tryz.underlying22 hv
  obtain ⟨fuel, hf⟩ := h
  have ho : OpensF Tryz.prog (Enc.node fuel).list 22 (fuel * 4 + 1) := opens_listF (opens_node fuel) Tryz.underlying22 (by rw [Enc.node_sz]; kernel_rfl) (by rw [Enc.node_bytes]; kernel_rfl) (by rw [Enc.node_sz]; decide)
  obtain ⟨l, ⟨u, hu, hl⟩, hb, hk⟩ := ho _ enc W _ _ fuel _ _ hi (by omega) hf hlt
  have e1 : [Value.slice A c m] = [u] := hu
  injection e1 with e1
  subst e1
  exact ⟨fuel, l, hl, hb, hk⟩
end Go.Proofs.YtjdfpoppimcikaaGreatDoor
