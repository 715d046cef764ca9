/- Arguments opened by induction on how deep they are read; nodes of messages. -/
import Derived.Test.YtjdfpoppimcikaaGreatDoorOpenB
import Derived.Deep.RegionWith
import Derived.Deep.Cut
import Derived.Deep.DeepCutAuto
import Derived.Test.YtjdfpoppimcikaaGreatDoorOpen
namespace Go.Proofs.YtjdfpoppimcikaaGreatDoor
open Go.RowKit Go.ChangeShapes Go.WideShapes Go.ChangeAt

/-- as Opens, where it is read to depth f at most -/
def OpensF {α : Type} (P : Program) (E : Enc α) (t : TypeId) (f : Nat) : Prop :=
  ∀ (H : Type) (enc : TypeId × Value → H) (w : World) (sp : Nat → Bool) (held : Bool) (fuel : Nat) (cs : List Value) (x : DataW H × List MemPlace) (hi : Nat), fuel ≤ f →
    DataW.trod enc P w 0 sp held fuel t cs = some x → (∀ p ∈ x.2, p.block < hi) →
    ∃ a, E.ok w 0 hi cs a ∧ (∀ B, (∀ n ∈ x.1.weights P t, n ≤ B) → E.fits B a) ∧ E.bulk a ≤ Rows.uptoBulk x.1
section
variable {P : Program} {t e : TypeId}
theorem opensF_of {α : Type} {E : Enc α} (h : Opens P E t) (f : Nat) : OpensF P E t f := fun _ enc w sp held fuel cs x hi _ => h enc w sp held fuel cs x hi
theorem opens_listF {α : Type} {E : Enc α} {f : Nat} (hE : OpensF P E e f) (ht : P.underlying t = some (.slice e)) (hC : P.cellsOf e = E.sz) (hB' : P.bytesOf e = E.bytes) (hsz : 0 < E.sz) : OpensF P E.list t (f + 1) := by
  intro H enc w sp held fuel cs x hi hfu h hx
  rcases DataW.trod_slice ht h with ⟨rfl, rfl⟩ | ⟨a, len, cap, elems, rest, n, hfe, rfl, rfl, hb, hl, hm, hlen, hel, hsp, hns⟩
  · exact ⟨[], ⟨_, rfl, ListOk.nil 0 none⟩, fun B _ => ⟨by simp, fun a ha => by cases ha⟩, by simp [Enc.list, Rows.uptoBulk]⟩
  · have key : ∀ i, i < len → ∃ y : α, (a.spot = none ∨ 0 < i) ∧ a.block < hi ∧ (∃ cs, CellsAt w a.block (a.off + i * E.sz) cs ∧ E.ok w 0 hi cs y) ∧ ∃ z, elems[i]? = some z ∧ (∀ B, (∀ n ∈ z.1.weights P e, n ≤ B) → E.fits B y) ∧ E.bulk y ≤ Rows.uptoBulk z.1 := by
      intro i hil
      have h1 := hel i hil
      have hz : elems[i]? = some (elems[i]'(by omega)) := List.getElem?_eq_getElem (by omega)
      rw [hz, Option.bind_eq_some_iff] at h1
      obtain ⟨cs, hcs, htr⟩ := h1
      obtain ⟨_, hcl, hat⟩ := World.cells?_some hcs
      have hin : ∀ p ∈ (elems[i]'(by omega)).2, p.block < hi := fun p hp => hx p (by
        simp only [List.mem_append, List.mem_flatMap]
        exact .inr ⟨_, .inl (List.getElem_mem (by omega)), hp⟩)
      obtain ⟨y, hy, hf, hbk⟩ := hE _ enc w sp held n cs _ hi (by omega) htr hin
      rw [hC] at hcl hat
      have h0 := hat 0 hsz
      obtain ⟨u0, hsome⟩ : ∃ u0, w.cell? ((a.add (i * E.sz)).add 0) = some u0 := ⟨_, by rw [h0]; exact List.getElem?_eq_getElem (by omega)⟩
      have hspot : a.spot = none ∨ 0 < i := by
        rcases Nat.eq_zero_or_pos i with h2 | h2
        · rw [h2, Nat.zero_mul] at hsome
          simp only [Addr.add, if_true] at hsome
          left
          unfold World.cell? at hsome
          split at hsome
          · split at hsome
            · cases hsome
            · cases hs : a.spot with
              | none => rfl
              | some q => simp_all
          · cases hsome
        · exact .inr h2
      have hblk : a.block < hi := by
        have := hx (.cell a.block a.off) (by
          simp only [List.mem_append]
          left
          unfold MemPlace.row
          simp only [List.mem_map, List.mem_range]
          exact ⟨0, by rw [hC]; exact Nat.mul_pos (by omega) hsz, by simp⟩)
        exact this
      refine ⟨y, hspot, hblk, ⟨cs, ?_, hy⟩, _, hz, hf, hbk⟩
      intro j u hj
      have hjl : j < E.sz := by rw [← hcl]; exact (List.getElem?_eq_some_iff.1 hj).1
      have h2 := hat j hjl
      rw [hj] at h2
      have hadd : (a.add (i * E.sz)).add j = ⟨a.block, a.off + i * E.sz + j, none⟩ := by
        have hs : i * E.sz = 0 → a.spot = none := fun h => by
          rcases hspot with h3 | h3
          · exact h3
          · have := Nat.mul_pos h3 hsz; omega
        unfold Addr.add
        by_cases g1 : i * E.sz = 0
        · rw [if_pos g1]
          by_cases g2 : j = 0
          · rw [if_pos g2, g1, g2, ← hs g1]; rfl
          · rw [if_neg g2, g1]; rfl
        · rw [if_neg g1]
          by_cases g2 : j = 0
          · rw [if_pos g2, g2]; rfl
          · rw [if_neg g2]
      rw [hadd] at h2
      exact h2
    obtain ⟨l, hll, hR⟩ := choose_list len _ key
    refine ⟨l, ⟨_, rfl, some a, cap, by rw [hll], by omega, fun i hi' => ?_⟩, fun B hB => ⟨?_, fun y hy => ?_⟩, ?_⟩
    · obtain ⟨hspot, hblk, ⟨cs, hc, hok⟩, _⟩ := hR i hi'
      have hs : a.spot = none := by
        obtain ⟨h0, _⟩ := hR 0 (by omega)
        rcases h0 with h0 | h0
        · exact h0
        · omega
      exact ⟨a.block, a.off, cs, by rw [← hs], Nat.zero_le _, hblk, hc, hok⟩
    · have := hB ((elems.length + rest.length) * P.bytesOf e) (by simp [DataW.weights, ht])
      rw [hB'] at this
      refine Nat.le_trans (Nat.mul_le_mul_right _ ?_) this
      omega
    · obtain ⟨i, hi', rfl⟩ := List.getElem_of_mem hy
      obtain ⟨_, _, _, z, hz, hf, _⟩ := hR i hi'
      refine hf B fun n hn => hB n ?_
      simp only [DataW.weights, ht, List.mem_cons, List.mem_append]
      refine .inr (.inl (weightsAll_mem ?_ hn))
      exact List.mem_map.2 ⟨z, List.mem_of_getElem? hz, rfl⟩
    · show (l.map E.bulk).sum + 1 ≤ _
      simp only [Rows.uptoBulk]
      have h1 : (l.map E.bulk).sum ≤ ((elems.map (·.1)).map Rows.uptoBulk).sum := by
        refine sum_le_sum _ _ _ _ (by simp; omega) fun i h1 h2 => ?_
        obtain ⟨_, _, _, z, hz, _, hbk⟩ := hR i h1
        have : (elems.map (·.1))[i] = z.1 := by
          rw [List.getElem_map]
          have := (List.getElem?_eq_some_iff.1 hz).2
          rw [this]
        rw [this]
        exact hbk
      rw [← bulkAll_sum] at h1
      omega
theorem opens_structF2 {α β γ : Type} {A : Enc α} {B : Enc β} {E : Enc γ} {f : Nat} {f0 f1 : Field} (hA : OpensF P A f0.type f) (hB : OpensF P B f1.type f) (ht : P.underlying t = some (.struct #[f0, f1]))
    (o0 : f0.offset = 0) (o1 : f1.offset = A.sz) (c0 : P.cellsOf f0.type = A.sz) (c1 : P.cellsOf f1.type = B.sz) (ct : P.cellsOf t = A.sz + B.sz) (mk : α → β → γ)
    (hok : ∀ w lo hi c d a b, A.ok w lo hi c a → B.ok w lo hi d b → E.ok w lo hi (c ++ d) (mk a b)) (hf : ∀ n a b, A.fits n a → B.fits n b → E.fits n (mk a b))
    (hb : ∀ a b, E.bulk (mk a b) ≤ A.bulk a + B.bulk b) : OpensF P E t (f + 1) := by
  intro H enc w sp held fuel cs x hi hfu h hx
  obtain ⟨xs, n, rfl, rfl, hcl, hxl, hel⟩ := DataW.trod_struct ht h
  have e0 := hel 0 f0 rfl
  have e1 := hel 1 f1 rfl
  have hl2 : xs.length = 2 := hxl
  obtain ⟨y, z, rfl⟩ : ∃ y z, xs = [y, z] := by
    match xs, hl2 with
    | [y, z], _ => exact ⟨y, z, rfl⟩
  rw [o0, c0, List.drop_zero] at e0
  rw [o1, c1] at e1
  obtain ⟨a, ka, fa, ba⟩ := hA _ enc w sp held n _ y hi (by omega) e0 fun p hp => hx p (by simp [hp])
  obtain ⟨b, kb, fb, bb⟩ := hB _ enc w sp held n _ z hi (by omega) e1 fun p hp => hx p (by simp [hp])
  have hc : cs = cs.take A.sz ++ (cs.drop A.sz).take B.sz := by
    rw [List.take_of_length_le (l := cs.drop A.sz) (by rw [List.length_drop]; omega), List.take_append_drop]
  refine ⟨mk a b, by rw [hc]; exact hok _ _ _ _ _ _ _ ka kb, fun n hn => hf _ _ _ (fa n fun m hm => hn m ?_) (fb n fun m hm => hn m ?_), ?_⟩
  · simp only [DataW.weights, ht]
    exact weightsEach_mem 0 f0.type y.1 rfl rfl m hm
  · simp only [DataW.weights, ht]
    exact weightsEach_mem 1 f1.type z.1 rfl rfl m hm
  · have := hb a b
    simp only [Rows.uptoBulk, Rows.uptoBulkAll, List.map_cons, List.map_nil]
    omega
theorem opens_structF4 {α β γ δ ε : Type} {A : Enc α} {B : Enc β} {C : Enc γ} {D : Enc δ} {E : Enc ε} {f : Nat} {f0 f1 f2 f3 : Field} (hA : OpensF P A f0.type f) (hB : OpensF P B f1.type f) (hC : OpensF P C f2.type f) (hD : OpensF P D f3.type f)
    (ht : P.underlying t = some (.struct #[f0, f1, f2, f3]))
    (o0 : f0.offset = 0) (o1 : f1.offset = A.sz) (o2 : f2.offset = A.sz + B.sz) (o3 : f3.offset = A.sz + B.sz + C.sz) (c0 : P.cellsOf f0.type = A.sz) (c1 : P.cellsOf f1.type = B.sz) (c2 : P.cellsOf f2.type = C.sz) (c3 : P.cellsOf f3.type = D.sz)
    (ct : P.cellsOf t = A.sz + B.sz + C.sz + D.sz) (mk : α → β → γ → δ → ε)
    (hok : ∀ w lo hi c d e f a b g k, A.ok w lo hi c a → B.ok w lo hi d b → C.ok w lo hi e g → D.ok w lo hi f k → E.ok w lo hi (c ++ d ++ e ++ f) (mk a b g k))
    (hf : ∀ n a b g k, A.fits n a → B.fits n b → C.fits n g → D.fits n k → E.fits n (mk a b g k))
    (hb : ∀ a b g k, E.bulk (mk a b g k) ≤ A.bulk a + B.bulk b + C.bulk g + D.bulk k) : OpensF P E t (f + 1) := by
  intro H enc w sp held fuel cs x hi hfu h hx
  obtain ⟨xs, n, rfl, rfl, hcl, hxl, hel⟩ := DataW.trod_struct ht h
  have e0 := hel 0 f0 rfl
  have e1 := hel 1 f1 rfl
  have e2 := hel 2 f2 rfl
  have e3 := hel 3 f3 rfl
  have hl2 : xs.length = 4 := hxl
  obtain ⟨y, z, u, v, rfl⟩ : ∃ y z u v, xs = [y, z, u, v] := by
    match xs, hl2 with
    | [y, z, u, v], _ => exact ⟨y, z, u, v, rfl⟩
  rw [o0, c0, List.drop_zero] at e0
  rw [o1, c1] at e1
  rw [o2, c2] at e2
  rw [o3, c3] at e3
  obtain ⟨a, ka, fa, ba⟩ := hA _ enc w sp held n _ y hi (by omega) e0 fun p hp => hx p (by simp [hp])
  obtain ⟨b, kb, fb, bb⟩ := hB _ enc w sp held n _ z hi (by omega) e1 fun p hp => hx p (by simp [hp])
  obtain ⟨g, kg, fg, bg⟩ := hC _ enc w sp held n _ u hi (by omega) e2 fun p hp => hx p (by simp [hp])
  obtain ⟨k, kk, fk, bk⟩ := hD _ enc w sp held n _ v hi (by omega) e3 fun p hp => hx p (by simp [hp])
  have hc : cs = cs.take A.sz ++ (cs.drop A.sz).take B.sz ++ (cs.drop (A.sz + B.sz)).take C.sz ++ (cs.drop (A.sz + B.sz + C.sz)).take D.sz := by
    rw [List.take_of_length_le (l := cs.drop (A.sz + B.sz + C.sz)) (by rw [List.length_drop]; omega)]
    rw [List.append_assoc, ← List.drop_drop (i := C.sz) (j := A.sz + B.sz), List.take_append_drop, List.append_assoc, ← List.drop_drop (i := B.sz) (j := A.sz), List.take_append_drop, List.take_append_drop]
  refine ⟨mk a b g k, by rw [hc]; exact hok _ _ _ _ _ _ _ _ _ _ _ ka kb kg kk, fun n hn => hf _ _ _ _ _ (fa n fun m hm => hn m ?_) (fb n fun m hm => hn m ?_) (fg n fun m hm => hn m ?_) (fk n fun m hm => hn m ?_), ?_⟩
  · simp only [DataW.weights, ht]
    exact weightsEach_mem 0 f0.type y.1 rfl rfl m hm
  · simp only [DataW.weights, ht]
    exact weightsEach_mem 1 f1.type z.1 rfl rfl m hm
  · simp only [DataW.weights, ht]
    exact weightsEach_mem 2 f2.type u.1 rfl rfl m hm
  · simp only [DataW.weights, ht]
    exact weightsEach_mem 3 f3.type v.1 rfl rfl m hm
  · have := hb a b g k
    simp only [Rows.uptoBulk, Rows.uptoBulkAll, List.map_cons, List.map_nil]
    omega
end

/- ## Nodes -/
structure NdF (α : Type) where
  kind : Int
  text : ByteArray
  off : Int
  cases : List (ByteArray × List α)
/-- a node that is no deeper than n -/
def Nd : Nat → Type
  | 0 => Empty
  | n + 1 => NdF (Nd n)
def Enc.cas {α : Type} (E : Enc α) : Enc (ByteArray × List α) :=
  ⟨2, 40, fun w lo hi cs c => ∃ v, cs = [.string c.1, v] ∧ ListOk E w lo hi v c.2, fun B c => c.1.size ≤ B ∧ E.list.fits B c.2, fun c => c.1.size + 1 + E.list.bulk c.2⟩
def Enc.nodeF {α : Type} (E : Enc α) : Enc (NdF α) :=
  ⟨4, 56, fun w lo hi cs x => ∃ v, cs = [.int .i64 x.kind, .string x.text, .int .i64 x.off, v] ∧ ListOk (Enc.cas E) w lo hi v x.cases, fun B x => (Lit.int .i64 x.kind).wf = true ∧ x.text.size ≤ B ∧ (Lit.int .i64 x.off).wf = true ∧ (Enc.cas E).list.fits B x.cases,
    fun x => x.text.size + 1 + (Enc.cas E).list.bulk x.cases⟩
def Enc.none_ : Enc Empty := ⟨4, 56, fun _ _ _ _ _ => False, fun _ _ => True, fun _ => 1⟩
def Enc.node : (n : Nat) → Enc (Nd n)
  | 0 => Enc.none_
  | n + 1 => Enc.nodeF (Enc.node n)
theorem Enc.none_laws : Enc.none_.Laws := ⟨fun h => h.elim, fun h _ => h.elim, fun h _ _ => h.elim⟩
theorem Enc.cas_laws {α : Type} {E : Enc α} (hE : E.Laws) : (Enc.cas E).Laws :=
  ⟨fun ⟨_, h, _⟩ => by cases h; rfl, fun ⟨v, h, k⟩ ha => ⟨v, h, k.keep hE ha⟩, fun ⟨v, h, k⟩ h1 h2 => ⟨v, h, k.mono hE h1 h2⟩⟩
theorem Enc.nodeF_laws {α : Type} {E : Enc α} (hE : E.Laws) : (Enc.nodeF E).Laws :=
  ⟨fun ⟨_, h, _⟩ => by cases h; rfl, fun ⟨v, h, k⟩ ha => ⟨v, h, k.keep (Enc.cas_laws hE) ha⟩, fun ⟨v, h, k⟩ h1 h2 => ⟨v, h, k.mono (Enc.cas_laws hE) h1 h2⟩⟩
theorem Enc.node_laws : (n : Nat) → (Enc.node n).Laws
  | 0 => Enc.none_laws
  | n + 1 => Enc.nodeF_laws (Enc.node_laws n)
theorem Enc.node_sz : (n : Nat) → (Enc.node n).sz = 4
  | 0 => rfl
  | _ + 1 => rfl
theorem Enc.node_bytes : (n : Nat) → (Enc.node n).bytes = 56
  | 0 => rfl
  | _ + 1 => rfl
theorem opens_node : (n : Nat) → OpensF Tryz.prog (Enc.node n) 30 (n * 4)
  | 0 => by
    intro H enc w sp held fuel cs x hi hfu h _
    obtain rfl : fuel = 0 := by omega
    simp [DataW.trod] at h
  | n + 1 => by
    have hb : OpensF Tryz.prog (Enc.node n).list 22 (n * 4 + 1) := opens_listF (opens_node n) Tryz.underlying22 (by rw [Enc.node_sz]; kernel_rfl) (by rw [Enc.node_bytes]; kernel_rfl) (by rw [Enc.node_sz]; decide)
    have hc : OpensF Tryz.prog (Enc.cas (Enc.node n)) 76 (n * 4 + 2) :=
      opens_structF2 (A := Enc.str) (B := (Enc.node n).list) (E := Enc.cas (Enc.node n)) (opensF_of (opens_str Tryz.underlying9) _) hb Tryz.underlying76 rfl rfl (by kernel_rfl) (by kernel_rfl) (by kernel_rfl)
        Prod.mk
        (fun w lo hi c d a b h1 h2 => by
          obtain ⟨v, rfl, hl⟩ := h2
          obtain rfl : c = [.string a] := h1
          exact ⟨v, rfl, hl⟩)
        (fun n a b h1 h2 => ⟨h1, h2⟩) (fun a b => by simp only [Enc.cas, Enc.str]; omega)
    have hl : OpensF Tryz.prog (Enc.cas (Enc.node n)).list 28 (n * 4 + 3) := opens_listF hc Tryz.underlying28 (by kernel_rfl) (by kernel_rfl) (by show 0 < 2; decide)
    rw [show (n + 1) * 4 = n * 4 + 3 + 1 from by omega]
    exact opens_structF4 (f := n * 4 + 3) (A := Enc.int) (B := Enc.str) (C := Enc.int) (D := (Enc.cas (Enc.node n)).list) (E := Enc.node (n + 1)) (opensF_of (opens_int Tryz.underlying3) _) (opensF_of (opens_str Tryz.underlying9) _) (opensF_of (opens_int Tryz.underlying3) _) hl Tryz.underlying30 rfl rfl rfl rfl (by kernel_rfl) (by kernel_rfl) (by kernel_rfl) (by kernel_rfl) (by kernel_rfl)
      NdF.mk
      (fun w lo hi c d e f a b g k h1 h2 h3 h4 => by
        obtain ⟨v, rfl, hl⟩ := h4
        obtain rfl : c = [.int .i64 a] := h1
        obtain rfl : d = [.string b] := h2
        obtain rfl : e = [.int .i64 g] := h3
        exact ⟨v, rfl, hl⟩)
      (fun n a b g k h1 h2 h3 h4 => ⟨h1, h2, h3, h4⟩) (fun a b g k => by simp only [Enc.node, Enc.nodeF, Enc.int, Enc.str]; omega)
set_option maxRecDepth 100000 in
/-- a message as an argument -/
theorem arg_message {H : Type} {enc : TypeId × Value → H} {W : World} {base : Nat} {v : Value} {d : DataW H} {p : List MemPlace} {hi : Nat} (h : DataW.Trod enc Tryz.prog W 0 (fun _ => true) true 22 v d p) (hlt : ∀ x ∈ p, x.block < hi) (hv : Value.okWide Tryz.prog W .any base 22 v) :
    ∃ (n : Nat) (l : List (Nd n)), ListOk (Enc.node n) W 0 hi v l ∧ (∀ B, (∀ k ∈ d.weights Tryz.prog 22, k ≤ B) → (Enc.node n).list.fits B l) ∧ (l.map (Enc.node n).bulk).sum + 1 ≤ Rows.uptoBulk d := by
  obtain ⟨A, c, m, rfl⟩ := okWide_slice Tryz.underlying22 hv
  obtain ⟨fuel, hf⟩ := h
  have ho : OpensF Tryz.prog (Enc.node fuel).list 22 (fuel * 4 + 1) := opens_listF (opens_node fuel) Tryz.underlying22 (by rw [Enc.node_sz]; kernel_rfl) (by rw [Enc.node_bytes]; kernel_rfl) (by rw [Enc.node_sz]; decide)
  obtain ⟨l, ⟨u, hu, hl⟩, hb, hk⟩ := ho _ enc W _ _ fuel _ _ hi (by omega) hf hlt
  have e1 : [Value.slice A c m] = [u] := hu
  injection e1 with e1
  subst e1
  exact ⟨fuel, l, hl, hb, hk⟩
end Go.Proofs.YtjdfpoppimcikaaGreatDoor
/- msg.exact, key, Cases, fine. -/

namespace Go.Proofs.YtjdfpoppimcikaaGreatDoor
open Go.RowKit

def restE (s : ByteArray) : ByteArray := ⟨(Lib.trimPrefix s.data.toList [61]).toArray⟩
def isE (s : ByteArray) : Bool := Lib.hasPrefix s.data.toList [61]
def exactR (s : ByteArray) : Int := if isE s = false then -1 else match atoiO (bts (restE s)) with
  | none => -1
  | some n => if n < 0 then -1 else if 999 < n then -1 else if ((str (Lib.itoa n)).toList == (restE s).toList) = true then n else -1
theorem restE_size (s : ByteArray) : (restE s).size ≤ s.size := by
  have h : (Lib.trimPrefix s.data.toList [61]).length ≤ s.data.toList.length := by
    unfold Lib.trimPrefix
    split
    · rw [List.length_drop]; omega
    · exact Nat.le_refl _
  have e1 : (restE s).size = (Lib.trimPrefix s.data.toList [61]).length := by
    show (Lib.trimPrefix s.data.toList [61]).toArray.size = _
    simp
  have e2 : s.data.toList.length = s.size := by rw [Array.length_toList]; rfl
  omega
set_option maxHeartbeats 1600000 in
theorem exact_any (s : ByteArray) (w : World) (hs : s.size ≤ 1000000000) (hv : MV w) : Calls Tryz.prog 102 #[.string s] w fun e w' => e = .returned (.int .i64 (exactR s)) ∧ Below w.heap.size w w' := by
  have HC : Hid (Calls Tryz.prog 70 #[.string s, .string ⟨#[61]⟩] w fun e w' => e = .returned (.tuple #[.string (restE s), .bool (isE s)]) ∧ w' = w) := Lib.hid (Tryz.strings_CutPrefix s ⟨#[61]⟩ w)
  have HA := Lib.hid (atoi_any (restE s) w (Nat.le_trans (restE_size s) hs) hv)
  have HI : Hid (∀ W n, Below w.heap.size w W → 0 ≤ n → n ≤ 999 → Calls Tryz.prog 53 #[.int .i64 n] W fun e w' => e = .returned (.string (str (Lib.itoa n))) ∧ Below W.heap.size W w') := Lib.hid fun W n hW h0 h1 => itoaM_any n W h0 (by omega) (hv.below hW)
  have HR : Hid (exactR s = if isE s = false then -1 else match atoiO (bts (restE s)) with
    | none => -1
    | some n => if n < 0 then -1 else if 999 < n then -1 else if ((str (Lib.itoa n)).toList == (restE s).toList) = true then n else -1) := Lib.hid rfl
  clear hv
  generalize restE s = r at *
  generalize isE s = b at *
  go_enter Tryz.func102, Tryz.ntmps102
  go_wp2_with fail
  refine HC.out.mono ?_
  clear HC
  rintro e w1 ⟨rfl, rfl⟩
  go_wp2_with fail
  refine HA.out.mono ?_
  clear HA
  rintro e w2 ⟨⟨v, rfl, hn⟩ | ⟨v, t, p, rfl, hn⟩, hb2⟩
  · have HB2 := Lib.hid hb2
    rw [hn] at HR
    have HR' : Hid (exactR s = if b = false then -1 else if v < 0 then -1 else if 999 < v then -1 else if ((str (Lib.itoa v)).toList == r.toList) = true then v else -1) := Lib.hid HR.out
    clear HR hn hb2
    cases b with
    | false =>
      have HE : Hid (exactR s = -1) := Lib.hid (by rw [HR'.out, if_pos rfl])
      clear HR' HI
      go_wp2_with fail
      go_ret
      exact ⟨by rw [HE.out]; rfl, HB2.out⟩
    | true =>
      rw [if_neg (by decide)] at HR'
      by_cases h1 : v < 0
      · have HE : Hid (exactR s = -1) := Lib.hid (by rw [HR'.out, if_pos h1])
        clear HR' HI
        go_wp2_with fail
        go_ret
        exact ⟨by rw [HE.out]; rfl, HB2.out⟩
      · rw [if_neg h1] at HR'
        by_cases h2 : 999 < v
        · have HE : Hid (exactR s = -1) := Lib.hid (by rw [HR'.out, if_pos h2])
          clear HR' HI
          go_wp2_with fail
          go_ret
          exact ⟨by rw [HE.out]; rfl, HB2.out⟩
        · rw [if_neg h2] at HR'
          have HI1 := Lib.hid (HI.out w2 v HB2.out (by omega) (by omega))
          obtain ⟨X, hX⟩ : ∃ X, X = ((str (Lib.itoa v)).toList == r.toList) := ⟨_, rfl⟩
          have hX' : ((str (Lib.itoa v)).toList == r.toList) = X := hX.symm
          rw [← hX] at HR'
          generalize str (Lib.itoa v) = T at *
          clear HI hX
          go_wp2_with fail
          refine HI1.out.mono ?_
          clear HI1
          rintro e w3 ⟨rfl, hb3⟩
          have HB3 := Lib.hid (HB2.out.trans (hb3.mono HB2.out.size))
          clear hb3
          cases X with
          | true =>
            have HE : Hid (exactR s = v) := Lib.hid (by rw [HR'.out, if_pos rfl])
            clear HR'
            go_wp2_with fail
            go_ret
            exact ⟨by rw [HE.out]; rfl, HB3.out⟩
          | false =>
            have HE : Hid (exactR s = -1) := Lib.hid (by rw [HR'.out, if_neg (by decide)])
            clear HR'
            go_wp2_with fail
            go_ret
            exact ⟨by rw [HE.out]; rfl, HB3.out⟩
  · have HB2 := Lib.hid hb2
    rw [hn] at HR
    have HE : Hid (exactR s = -1) := Lib.hid (by rw [HR.out]; cases b <;> rfl)
    clear HR hn hb2 HI
    cases b with
    | false =>
      go_wp2_with fail
      go_ret
      exact ⟨by rw [HE.out]; rfl, HB2.out⟩
    | true =>
      go_wp2_with fail
      go_ret
      exact ⟨by rw [HE.out]; rfl, HB2.out⟩
/-- a node as a value -/
def nodeV {α : Type} (x : NdF α) (V : Value) : Value := .agg #[.int .i64 x.kind, .string x.text, .int .i64 x.off, V]
def hasCases (k : Int) : Bool := k == 4 || k == 5
def casesR {α : Type} (x : NdF α) : List (ByteArray × List α) := if hasCases x.kind then x.cases else []
set_option maxHeartbeats 1600000 in
theorem Cases_any {α : Type} {E : Enc α} (x : NdF α) (V : Value) (lo hi : Nat) (w : World) (hV : ListOk (Enc.cas E) w lo hi V x.cases) :
    Calls Tryz.prog 50 #[.agg #[.int .i64 x.kind, .string x.text, .int .i64 x.off, V]] w fun e w' => (∃ V', e = .returned V' ∧ (V' = V ∨ V' = .slice none 0 0) ∧ ListOk (Enc.cas E) w lo hi V' (casesR x)) ∧ Below w.heap.size w w' := by
  obtain ⟨VA, Vc, rfl, _⟩ := hV.form
  obtain ⟨W1, eW1⟩ : ∃ W1, W1 = w.alloc (.cells #[.int .i64 x.kind, .string x.text, .int .i64 x.off, .slice VA x.cases.length Vc] 30) := ⟨_, rfl⟩
  have hb1 : Below w.heap.size w W1 := by rw [eW1]; exact (Below.refl _ _).alloc (Nat.le_refl _) _
  have m1 : Blk W1 w.heap.size 30 #[.int .i64 x.kind, .string x.text, .int .i64 x.off, .slice VA x.cases.length Vc] := by rw [eW1]; exact Blk.new _ _ _
  have k0 : W1.cell? ⟨w.heap.size, 0, none⟩ = some (.int .i64 x.kind) := (m1.cell 0).trans rfl
  have k3 : W1.cell? ⟨w.heap.size, 3, none⟩ = some (.slice VA x.cases.length Vc) := (m1.cell 3).trans rfl
  have HB1 := Lib.hid hb1
  have HW1 := Lib.hid eW1
  have HR : Hid (casesR x = if hasCases x.kind then x.cases else []) := Lib.hid rfl
  have HV := Lib.hid hV
  clear hV eW1 hb1 m1
  go_enter Tryz.func50, Tryz.ntmps50
  go_upto_region 1 with fail
  rw [← HW1.out]
  clear HW1
  by_cases h4 : x.kind = 4
  · have q4 : (x.kind == 4) = true := by rw [h4]; rfl
    have HE : Hid (casesR x = x.cases) := Lib.hid (by rw [HR.out]; unfold hasCases; rw [h4]; rfl)
    clear HR h4
    go_wp2_with fail
    go_ret
    exact ⟨⟨_, rfl, .inl rfl, by rw [HE.out]; exact HV.out⟩, HB1.out⟩
  · have q4 : (x.kind == 4) = false := by rw [beq_eq_false_iff_ne]; exact h4
    by_cases h5 : x.kind = 5
    · have q5 : (x.kind == 5) = true := by rw [h5]; rfl
      have HE : Hid (casesR x = x.cases) := Lib.hid (by rw [HR.out]; unfold hasCases; rw [h5]; rfl)
      clear HR h5 h4
      go_wp2_with fail
      go_ret
      exact ⟨⟨_, rfl, .inl rfl, by rw [HE.out]; exact HV.out⟩, HB1.out⟩
    · have q5 : (x.kind == 5) = false := by rw [beq_eq_false_iff_ne]; exact h5
      have HE : Hid (casesR x = []) := Lib.hid (by rw [HR.out]; unfold hasCases; rw [q4, q5]; rfl)
      clear HR h5 h4
      go_wp2_with fail
      go_ret
      exact ⟨⟨_, rfl, .inr rfl, by rw [HE.out]; exact ListOk.nil 0 none⟩, HB1.out⟩
def keyM (kind : Int) (k : ByteArray) : Bool := if kind = 5 then nameR k else kindsB.any (eqs · k) || decide (0 ≤ exactR k)
set_option maxHeartbeats 1600000 in
theorem key_any (kind off : Int) (text k : ByteArray) (A : Option Addr) (n c : Nat) (w : World) (hs : k.size ≤ 1000000000) (hv : MV w) :
    Calls Tryz.prog 112 #[.agg #[.int .i64 kind, .string text, .int .i64 off, .slice A n c], .string k] w fun e w' => e = .returned (.bool (keyM kind k)) ∧ Below w.heap.size w w' := by
  obtain ⟨W1, eW1⟩ : ∃ W1, W1 = w.alloc (.cells #[.int .i64 kind, .string text, .int .i64 off, .slice A n c] 30) := ⟨_, rfl⟩
  have hb1 : Below w.heap.size w W1 := by rw [eW1]; exact (Below.refl _ _).alloc (Nat.le_refl _) _
  have m1 : Blk W1 w.heap.size 30 #[.int .i64 kind, .string text, .int .i64 off, .slice A n c] := by rw [eW1]; exact Blk.new _ _ _
  have k0 : W1.cell? ⟨w.heap.size, 0, none⟩ = some (.int .i64 kind) := (m1.cell 0).trans rfl
  have HB1 := Lib.hid hb1
  have HW1 := Lib.hid eW1
  by_cases h5 : kind = 5
  · have q5 : (kind == 5) = true := by rw [h5]; rfl
    have HE : Hid (keyM kind k = nameR k) := Lib.hid (by unfold keyM; rw [if_pos h5])
    have HN := Lib.hid (name_any k W1)
    generalize nameR k = X at *
    clear h5 eW1 hb1 m1 hv
    go_enter Tryz.func112, Tryz.ntmps112
    go_upto_region 1 with fail
    rw [← HW1.out]
    clear HW1
    go_wp2_with fail
    refine HN.out.mono ?_
    clear HN
    rintro e w2 ⟨rfl, hb2⟩
    have HB2 := Lib.hid (HB1.out.trans (hb2.mono HB1.out.size))
    clear hb2
    go_wp2_with fail
    go_ret
    exact ⟨by rw [HE.out]; rfl, HB2.out⟩
  · have q5 : (kind == 5) = false := by rw [beq_eq_false_iff_ne]; exact h5
    have HE : Hid (keyM kind k = (kindsB.any (eqs · k) || decide (0 ≤ exactR k))) := Lib.hid (by unfold keyM; rw [if_neg h5])
    obtain ⟨b, o, c', k1, k2, k3, k4⟩ := (hv.below hb1).kin
    have hl : ListOk Enc.str W1 0 W1.heap.size (.slice (some ⟨b, o, none⟩) 6 c') kindsB := ⟨some ⟨b, o, none⟩, c', rfl, k1, fun i hi => ⟨b, o, [.string kindsB[i]], rfl, Nat.zero_le _, k2, fun j u hj => by
      match j, hj with
      | 0, hj =>
        simp only [List.getElem?_cons_zero, Option.some.injEq] at hj
        subst hj
        have e : o + i * Enc.str.sz + 0 = o + i := by show o + i * 1 + 0 = o + i; omega
        rw [e]
        exact k4 i hi
      | j + 1, hj => simp at hj, rfl⟩⟩
    have HS := Lib.hid (containsS_any kindsB _ k 0 _ W1 hl (by decide))
    have HX := Lib.hid (exact_any k W1 hs (hv.below hb1))
    generalize kindsB.any (eqs · k) = X at *
    generalize exactR k = Y at *
    clear h5 eW1 hb1 m1 hv k4 hl
    go_enter Tryz.func112, Tryz.ntmps112
    go_upto_region 1 with fail
    rw [← HW1.out]
    clear HW1
    go_wp2_with fail
    refine HS.out.mono ?_
    clear HS
    rintro e w2 ⟨rfl, rfl⟩
    cases X with
    | true =>
      have HE2 : Hid (keyM kind k = true) := Lib.hid (by rw [HE.out]; rfl)
      clear HE HX
      go_wp2_with fail
      go_ret
      exact ⟨by rw [HE2.out]; rfl, HB1.out⟩
    | false =>
      have HE2 : Hid (keyM kind k = decide (0 ≤ Y)) := Lib.hid (by rw [HE.out]; simp)
      clear HE
      go_wp2_with fail
      refine HX.out.mono ?_
      clear HX
      rintro e w3 ⟨rfl, hb3⟩
      have HB3 := Lib.hid (HB1.out.trans (hb3.mono HB1.out.size))
      clear hb3
      go_wp2_with fail
      go_ret
      exact ⟨by rw [HE2.out]; rfl, HB3.out⟩
end Go.Proofs.YtjdfpoppimcikaaGreatDoor
/- msg.fine. -/

namespace Go.Proofs.YtjdfpoppimcikaaGreatDoor
open Go.RowKit

theorem ListOk.nodeAt {α : Type} {E : Enc α} {w : World} {lo hi : Nat} {A : Option Addr} {n c : Nat} {l : List (NdF α)} (h : ListOk (Enc.nodeF E) w lo hi (.slice A n c) l) (i : Nat) (hl : i < l.length) :
    ∃ b o v, A = some ⟨b, o, none⟩ ∧ lo ≤ b ∧ b < hi ∧ w.cell? ⟨b, o + i * 4, none⟩ = some (.int .i64 l[i].kind) ∧ w.cell? ⟨b, o + i * 4 + 1, none⟩ = some (.string l[i].text) ∧ w.cell? ⟨b, o + i * 4 + 2, none⟩ = some (.int .i64 l[i].off) ∧ w.cell? ⟨b, o + i * 4 + 3, none⟩ = some v ∧ ListOk (Enc.cas E) w lo hi v l[i].cases := by
  obtain ⟨A', c', hv, _, hi'⟩ := h
  injection hv with hv1 _ _
  subst hv1
  obtain ⟨b, o, cs, hA, h1, h2, h3, v, h4, h5⟩ := hi' i hl
  subst h4
  exact ⟨b, o, v, hA, h1, h2, h3 0 _ rfl, h3 1 _ rfl, h3 2 _ rfl, h3 3 _ rfl, h5⟩
theorem ListOk.casAt {α : Type} {E : Enc α} {w : World} {lo hi : Nat} {A : Option Addr} {n c : Nat} {l : List (ByteArray × List α)} (h : ListOk (Enc.cas E) w lo hi (.slice A n c) l) (i : Nat) (hl : i < l.length) :
    ∃ b o v, A = some ⟨b, o, none⟩ ∧ lo ≤ b ∧ b < hi ∧ w.cell? ⟨b, o + i * 2, none⟩ = some (.string l[i].1) ∧ w.cell? ⟨b, o + i * 2 + 1, none⟩ = some v ∧ ListOk E w lo hi v l[i].2 := by
  obtain ⟨A', c', hv, _, hi'⟩ := h
  injection hv with hv1 _ _
  subst hv1
  obtain ⟨b, o, cs, hA, h1, h2, h3, v, h4, h5⟩ := hi' i hl
  subst h4
  exact ⟨b, o, v, hA, h1, h2, h3 0 _ rfl, h3 1 _ rfl, h5⟩
def fineM (k : Int) (t : ByteArray) (last : Option Int) (mark : Bool) : Bool :=
  if k = 1 then !t.toList.isEmpty && (match last with | none => true | some l => l != 1) else if k = 2 ∨ k = 3 ∨ k = 4 ∨ k = 5 then nameR t else k == 6 && mark
set_option maxHeartbeats 3200000 in
theorem fineM_any {α : Type} {E : Enc α} (kind off : Int) (text : ByteArray) (C : Option Addr) (n c : Nat) (al : List (NdF α)) (vA : Value) (mark : Bool) (lo : Nat) (w : World) (hA : ListOk (Enc.nodeF E) w lo w.heap.size vA al) (hE : E.Laws) (ha : al.length ≤ 1000000000) :
    Calls Tryz.prog 74 #[.agg #[.int .i64 kind, .string text, .int .i64 off, .slice C n c], vA, .bool mark] w fun e w' => e = .returned (.bool (fineM kind text (al.getLast?.map (·.kind)) mark)) ∧ Below w.heap.size w w' := by
  obtain ⟨AA, Ac, rfl, _⟩ := hA.form
  obtain ⟨W1, eW1⟩ : ∃ W1, W1 = w.alloc (.cells #[.int .i64 kind, .string text, .int .i64 off, .slice C n c] 30) := ⟨_, rfl⟩
  have hb1 : Below w.heap.size w W1 := by rw [eW1]; exact (Below.refl _ _).alloc (Nat.le_refl _) _
  have m1 : Blk W1 w.heap.size 30 #[.int .i64 kind, .string text, .int .i64 off, .slice C n c] := by rw [eW1]; exact Blk.new _ _ _
  have k0 : W1.cell? ⟨w.heap.size, 0, none⟩ = some (.int .i64 kind) := (m1.cell 0).trans rfl
  have k1 : W1.cell? ⟨w.heap.size, 1, none⟩ = some (.string text) := (m1.cell 1).trans rfl
  have HB1 := Lib.hid hb1
  have HW1 := Lib.hid eW1
  have HN := Lib.hid (name_any text W1)
  have hA1 := hA.below (Enc.nodeF_laws hE) hb1
  have HR : Hid (fineM kind text (al.getLast?.map (·.kind)) mark = if kind = 1 then !text.toList.isEmpty && (match al.getLast?.map (·.kind) with | none => true | some l => l != 1) else if kind = 2 ∨ kind = 3 ∨ kind = 4 ∨ kind = 5 then nameR text else kind == 6 && mark) := Lib.hid rfl
  clear hA eW1 hb1 m1
  by_cases h1 : kind = 1
  · subst h1
    rw [if_pos rfl] at HR
    obtain ⟨T, hT⟩ : ∃ T, T = text.toList.isEmpty := ⟨_, rfl⟩
    have hT' : text.toList.isEmpty = T := hT.symm
    rw [← hT] at HR
    clear hT
    cases T with
    | true =>
      have HE : Hid (fineM 1 text (al.getLast?.map (·.kind)) mark = false) := Lib.hid (by rw [HR.out]; rfl)
      clear HR HN
      go_enter Tryz.func74, Tryz.ntmps74
      go_upto_region 1 with fail
      rw [← HW1.out]
      clear HW1
      go_wp2_with fail
      go_ret
      exact ⟨by rw [HE.out]; rfl, HB1.out⟩
    | false =>
      by_cases h0 : al.length = 0
      · obtain rfl := List.length_eq_zero_iff.1 h0
        have HE : Hid (fineM 1 text (([] : List (NdF α)).getLast?.map (·.kind)) mark = true) := Lib.hid (by rw [HR.out]; rfl)
        clear HR HN
        go_enter Tryz.func74, Tryz.ntmps74
        go_upto_region 1 with fail
        rw [← HW1.out]
        clear HW1
        go_wp2_with fail
        go_ret
        exact ⟨by rw [HE.out]; rfl, HB1.out⟩
      · obtain ⟨j, hj⟩ : ∃ j, al.length = j + 1 := ⟨al.length - 1, by omega⟩
        have hjl : j < al.length := by omega
        obtain ⟨b, o, v, rfl, _, _, x0, _, _, _, _⟩ := hA1.nodeAt j hjl
        have hl : al.getLast?.map (·.kind) = some al[j].kind := by
          rw [List.getLast?_eq_getElem?, show al.length - 1 = j from by omega, List.getElem?_eq_getElem hjl]
          rfl
        rw [hl] at HR ⊢
        generalize al[j].kind = lk at *
        have HE : Hid (fineM 1 text (some lk) mark = (lk != 1)) := Lib.hid (by rw [HR.out]; simp)
        have hz : ((al.length : Int) == 0) = false := by rw [beq_eq_false_iff_ne]; omega
        have hsub : (al.length : Int) - 1 = (j : Int) := by omega
        have i1 : (0 : Int) ≤ (j : Int) := Int.natCast_nonneg j
        have i2 : (j : Int) < (al.length : Int) := by omega
        have hw : wrap64 ((al.length : Int) - 1) = (j : Int) := by unfold wrap64; omega
        clear HR HN hA1 hl hj h0
        go_enter Tryz.func74, Tryz.ntmps74
        go_upto_region 1 with fail
        rw [← HW1.out]
        clear HW1
        go_wp2_with fail
        go_ret
        exact ⟨by rw [HE.out]; rfl, HB1.out⟩
  · rw [if_neg h1] at HR
    have q1 : (kind == 1) = false := by rw [beq_eq_false_iff_ne]; exact h1
    by_cases hm : kind = 2 ∨ kind = 3 ∨ kind = 4 ∨ kind = 5
    · rw [if_pos hm] at HR
      have HE := Lib.hid HR.out
      generalize nameR text = X at *
      clear HR hA1 q1 h1
      rcases hm with rfl | rfl | rfl | rfl
      all_goals
        go_enter Tryz.func74, Tryz.ntmps74
        go_upto_region 1 with fail
        rw [← HW1.out]
        clear HW1
        go_wp2_with fail
        refine HN.out.mono ?_
        clear HN
        rintro e w2 ⟨rfl, hb2⟩
        have HB2 := Lib.hid (HB1.out.trans (hb2.mono HB1.out.size))
        clear hb2
        go_wp2_with fail
        go_ret
        exact ⟨by rw [HE.out]; rfl, HB2.out⟩
    · rw [if_neg hm] at HR
      have q2 : (kind == 2) = false := by rw [beq_eq_false_iff_ne]; omega
      have q3 : (kind == 3) = false := by rw [beq_eq_false_iff_ne]; omega
      have q4 : (kind == 4) = false := by rw [beq_eq_false_iff_ne]; omega
      have q5 : (kind == 5) = false := by rw [beq_eq_false_iff_ne]; omega
      obtain ⟨Y, hY⟩ : ∃ Y, Y = (kind == 6) := ⟨_, rfl⟩
      have q6 : (kind == 6) = Y := hY.symm
      rw [← hY] at HR
      clear hY hm h1 HN hA1
      cases Y with
      | true =>
        have HE : Hid (fineM kind text (al.getLast?.map (·.kind)) mark = mark) := Lib.hid (by rw [HR.out]; simp)
        clear HR
        go_enter Tryz.func74, Tryz.ntmps74
        go_upto_region 1 with fail
        rw [← HW1.out]
        clear HW1
        go_wp2_with fail
        go_ret
        exact ⟨by rw [HE.out]; rfl, HB1.out⟩
      | false =>
        have HE : Hid (fineM kind text (al.getLast?.map (·.kind)) mark = false) := Lib.hid (by rw [HR.out]; rfl)
        clear HR
        go_enter Tryz.func74, Tryz.ntmps74
        go_upto_region 1 with fail
        rw [← HW1.out]
        clear HW1
        go_wp2_with fail
        go_ret
        exact ⟨by rw [HE.out]; rfl, HB1.out⟩
end Go.Proofs.YtjdfpoppimcikaaGreatDoor
