/- Structs opened: tags, entries, bundles. -/
import Derived.Test.YtdmjelkjeiinjaaDoorOpen
import Derived.Test.YtdmjelkjeiinjaaDoorBun
set_option linter.unusedSimpArgs false
set_option linter.unusedVariables false
namespace Go.Proofs.YtdmjelkjeiinjaaDoor
open Go.RowKit Go.ChangeShapes Go.WideShapes Go.ChangeAt

section
variable {P : Program} {t : TypeId}
theorem weightsEach_mem {H : Type} : ∀ {ts : List TypeId} {ds : List (DataW H)} (j : Nat) (u : TypeId) (d : DataW H), ts[j]? = some u → ds[j]? = some d → ∀ n ∈ d.weights P u, n ∈ DataW.weightsEach P ts ds
  | [], _, j, _, _, h, _, _, _ => by simp at h
  | _ :: _, [], j, _, _, _, h, _, _ => by simp at h
  | a :: ts, b :: ds, 0, u, d, h1, h2, n, hn => by
    simp at h1 h2; subst h1; subst h2
    simp only [DataW.weightsEach, List.mem_append]; exact .inl hn
  | a :: ts, b :: ds, j + 1, u, d, h1, h2, n, hn => by
    simp only [DataW.weightsEach, List.mem_append]
    exact .inr (weightsEach_mem j u d (by simpa using h1) (by simpa using h2) n hn)
theorem opens_struct2 {α β γ : Type} {A : Enc α} {B : Enc β} {E : Enc γ} {f0 f1 : Field} (hA : Opens P A f0.type) (hB : Opens P B f1.type) (ht : P.underlying t = some (.struct #[f0, f1]))
    (o0 : f0.offset = 0) (o1 : f1.offset = A.sz) (c0 : P.cellsOf f0.type = A.sz) (c1 : P.cellsOf f1.type = B.sz) (ct : P.cellsOf t = A.sz + B.sz) (mk : α → β → γ)
    (hok : ∀ w lo hi c d a b, A.ok w lo hi c a → B.ok w lo hi d b → E.ok w lo hi (c ++ d) (mk a b)) (hf : ∀ n a b, A.fits n a → B.fits n b → E.fits n (mk a b))
    (hb : ∀ a b, E.bulk (mk a b) ≤ A.bulk a + B.bulk b) : Opens P E t := by
  intro H enc w sp held fuel cs x hi h hx
  obtain ⟨xs, n, rfl, rfl, hcl, hxl, hel⟩ := DataW.trod_struct ht h
  have e0 := hel 0 f0 rfl
  have e1 := hel 1 f1 rfl
  have hl2 : xs.length = 2 := hxl
  obtain ⟨y, z, rfl⟩ : ∃ y z, xs = [y, z] := by
    match xs, hl2 with
    | [y, z], _ => exact ⟨y, z, rfl⟩
  rw [o0, c0, List.drop_zero] at e0
  rw [o1, c1] at e1
  obtain ⟨a, ka, fa, ba⟩ := hA enc w sp held n _ y hi e0 fun p hp => hx p (by simp [hp])
  obtain ⟨b, kb, fb, bb⟩ := hB enc w sp held n _ z hi e1 fun p hp => hx p (by simp [hp])
  have hc : cs = cs.take A.sz ++ (cs.drop A.sz).take B.sz := by
    rw [List.take_of_length_le (l := cs.drop A.sz) (by rw [List.length_drop]; omega), List.take_append_drop]
  refine ⟨mk a b, by rw [hc]; exact hok _ _ _ _ _ _ _ ka kb, fun n hn => hf _ _ _ (fa n fun m hm => hn m ?_) (fb n fun m hm => hn m ?_), ?_⟩
  · simp only [DataW.weights, ht]
    exact weightsEach_mem 0 f0.type y.1 rfl rfl m hm
  · simp only [DataW.weights, ht]
    exact weightsEach_mem 1 f1.type z.1 rfl rfl m hm
  · have := hb a b
    simp only [Rows.uptoBulk, Rows.uptoBulkAll, List.map_cons, List.map_nil]
    omega
theorem opens_struct4 {α β γ δ ε : Type} {A : Enc α} {B : Enc β} {C : Enc γ} {D : Enc δ} {E : Enc ε} {f0 f1 f2 f3 : Field} (hA : Opens P A f0.type) (hB : Opens P B f1.type) (hC : Opens P C f2.type) (hD : Opens P D f3.type)
    (ht : P.underlying t = some (.struct #[f0, f1, f2, f3]))
    (o0 : f0.offset = 0) (o1 : f1.offset = A.sz) (o2 : f2.offset = A.sz + B.sz) (o3 : f3.offset = A.sz + B.sz + C.sz) (c0 : P.cellsOf f0.type = A.sz) (c1 : P.cellsOf f1.type = B.sz) (c2 : P.cellsOf f2.type = C.sz) (c3 : P.cellsOf f3.type = D.sz)
    (ct : P.cellsOf t = A.sz + B.sz + C.sz + D.sz) (mk : α → β → γ → δ → ε)
    (hok : ∀ w lo hi c d e f a b g k, A.ok w lo hi c a → B.ok w lo hi d b → C.ok w lo hi e g → D.ok w lo hi f k → E.ok w lo hi (c ++ d ++ e ++ f) (mk a b g k))
    (hf : ∀ n a b g k, A.fits n a → B.fits n b → C.fits n g → D.fits n k → E.fits n (mk a b g k))
    (hb : ∀ a b g k, E.bulk (mk a b g k) ≤ A.bulk a + B.bulk b + C.bulk g + D.bulk k) : Opens P E t := by
  intro H enc w sp held fuel cs x hi h hx
  obtain ⟨xs, n, rfl, rfl, hcl, hxl, hel⟩ := DataW.trod_struct ht h
  have e0 := hel 0 f0 rfl
  have e1 := hel 1 f1 rfl
  have e2 := hel 2 f2 rfl
  have e3 := hel 3 f3 rfl
  have hl2 : xs.length = 4 := hxl
  obtain ⟨y, z, u, v, rfl⟩ : ∃ y z u v, xs = [y, z, u, v] := by
    match xs, hl2 with
    | [y, z, u, v], _ => exact ⟨y, z, u, v, rfl⟩
  rw [o0, c0, List.drop_zero] at e0
  rw [o1, c1] at e1
  rw [o2, c2] at e2
  rw [o3, c3] at e3
  obtain ⟨a, ka, fa, ba⟩ := hA enc w sp held n _ y hi e0 fun p hp => hx p (by simp [hp])
  obtain ⟨b, kb, fb, bb⟩ := hB enc w sp held n _ z hi e1 fun p hp => hx p (by simp [hp])
  obtain ⟨g, kg, fg, bg⟩ := hC enc w sp held n _ u hi e2 fun p hp => hx p (by simp [hp])
  obtain ⟨k, kk, fk, bk⟩ := hD enc w sp held n _ v hi e3 fun p hp => hx p (by simp [hp])
  have hc : cs = cs.take A.sz ++ (cs.drop A.sz).take B.sz ++ (cs.drop (A.sz + B.sz)).take C.sz ++ (cs.drop (A.sz + B.sz + C.sz)).take D.sz := by
    rw [List.take_of_length_le (l := cs.drop (A.sz + B.sz + C.sz)) (by rw [List.length_drop]; omega)]
    rw [List.append_assoc, ← List.drop_drop (i := C.sz) (j := A.sz + B.sz), List.take_append_drop, List.append_assoc, ← List.drop_drop (i := B.sz) (j := A.sz), List.take_append_drop, List.take_append_drop]
  refine ⟨mk a b g k, by rw [hc]; exact hok _ _ _ _ _ _ _ _ _ _ _ ka kb kg kk, fun n hn => hf _ _ _ _ _ (fa n fun m hm => hn m ?_) (fb n fun m hm => hn m ?_) (fg n fun m hm => hn m ?_) (fk n fun m hm => hn m ?_), ?_⟩
  · simp only [DataW.weights, ht]
    exact weightsEach_mem 0 f0.type y.1 rfl rfl m hm
  · simp only [DataW.weights, ht]
    exact weightsEach_mem 1 f1.type z.1 rfl rfl m hm
  · simp only [DataW.weights, ht]
    exact weightsEach_mem 2 f2.type u.1 rfl rfl m hm
  · simp only [DataW.weights, ht]
    exact weightsEach_mem 3 f3.type v.1 rfl rfl m hm
  · have := hb a b g k
    simp only [Rows.uptoBulk, Rows.uptoBulkAll, List.map_cons, List.map_nil]
    omega
end
theorem opens_tag : Opens Tryd.prog Enc.tag 24 :=
  opens_struct4 (A := Enc.str) (B := Enc.str) (C := Enc.str) (D := Enc.str.list) (E := Enc.tag) (opens_str Tryd.underlying9) (opens_str Tryd.underlying9) (opens_str Tryd.underlying9)
    (opens_list (E := Enc.str) (opens_str Tryd.underlying9) Tryd.underlying22 (by kernel_rfl) (by kernel_rfl) (by decide)) Tryd.underlying24 rfl rfl rfl rfl (by kernel_rfl) (by kernel_rfl) (by kernel_rfl) (by kernel_rfl) (by kernel_rfl)
    Tg.mk
    (fun w lo hi c d e f a b g k h1 h2 h3 h4 => by
      obtain ⟨v, rfl, hl⟩ := h4
      obtain rfl : c = [.string a] := h1
      obtain rfl : d = [.string b] := h2
      obtain rfl : e = [.string g] := h3
      exact ⟨v, rfl, hl⟩)
    (fun n a b g k h1 h2 h3 h4 => ⟨h1, h2, h3, h4⟩) (fun a b g k => by simp only [Enc.tag, Enc.str]; omega)
theorem opens_ent : Opens Tryd.prog Enc.ent 60 :=
  opens_struct2 (A := Enc.str) (B := Enc.str) (E := Enc.ent) (opens_str Tryd.underlying9) (opens_str Tryd.underlying9) Tryd.underlying60 rfl rfl (by kernel_rfl) (by kernel_rfl) (by kernel_rfl)
    Ent.mk
    (fun w lo hi c d a b h1 h2 => by
      obtain rfl : c = [.string a] := h1
      obtain rfl : d = [.string b] := h2
      exact rfl)
    (fun n a b h1 h2 => ⟨h1, h2⟩) (fun a b => by simp only [Enc.ent, Enc.str]; omega)
theorem opens_bun : Opens Tryd.prog Enc.bun 46 :=
  opens_struct2 (A := Enc.str) (B := Enc.ent.list) (E := Enc.bun) (opens_str Tryd.underlying9) (opens_list (E := Enc.ent) opens_ent Tryd.underlying44 (by kernel_rfl) (by kernel_rfl) (by decide)) Tryd.underlying46 rfl rfl (by kernel_rfl) (by kernel_rfl) (by kernel_rfl)
    Bun.mk
    (fun w lo hi c d a b h1 h2 => by
      obtain ⟨v, rfl, hl⟩ := h2
      obtain rfl : c = [.string a] := h1
      exact ⟨v, rfl, hl⟩)
    (fun n a b h1 h2 => ⟨h1, h2⟩) (fun a b => by simp only [Enc.bun, Enc.str]; omega)

/- ## Struct arguments -/
section
variable {H : Type} {enc : TypeId × Value → H} {P : Program} {W : World} {base : Nat} {t : TypeId} {v : Value} {d : DataW H} {p : List MemPlace} {hi : Nat}
theorem arg_struct {α : Type} {E : Enc α} {fs : Array Field} (hE : Opens P E t) (ht : P.underlying t = some (.struct fs)) (hv : Value.okWide P W .any base t v) (h : DataW.Trod enc P W 0 (fun _ => true) true t v d p) (hlt : ∀ x ∈ p, x.block < hi) :
    ∃ (a : α) (cs : Array Value), v = .agg cs ∧ E.ok W 0 hi cs.toList a ∧ (∀ B, (∀ n ∈ d.weights P t, n ≤ B) → E.fits B a) ∧ E.bulk a ≤ Rows.uptoBulk d := by
  obtain ⟨cs, rfl, _⟩ := okWide_struct ht hv
  obtain ⟨fuel, hf⟩ := h
  obtain ⟨a, ha, hb⟩ := hE enc W _ _ _ _ _ hi hf hlt
  exact ⟨a, cs, rfl, ha, hb⟩
end
end Go.Proofs.YtdmjelkjeiinjaaDoor
