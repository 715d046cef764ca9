/- A message in one row is said as the message is, plainly: what is still to be said, and where it lies in the row. -/
import Derived.Test.YtjdfpoppimcikaaGreatDoorCpyP
import Derived.Test.YtjdfpoppimcikaaGreatDoorPsoOf
import Derived.Test.YtjdfpoppimcikaaGreatDoorMapG
namespace Go.Proofs.YtjdfpoppimcikaaGreatDoor
open Go.RowKit

/-- what is still to be said: the rest of a list, and the number that marks tell -/
structure Kt where
  d : Nat
  l : List (Nd d)
  mark : DecV
/-- a frame: up to where, where it goes on then, the mark -/
structure Frm where
  til : Nat
  next : Nat
  mark : DecV
def sayK (s : SetV) (f : ByteArray → Option ArgV) : List Kt → List UInt8 × Int
  | [] => ([], 0)
  | k :: r => if (sayN s f k.d k.l k.mark).2 ≠ 0 then sayN s f k.d k.l k.mark else ((sayN s f k.d k.l k.mark).1 ++ (sayK s f r).1, (sayK s f r).2)
/-- the lists lie in the row as the frames say; the top is the first -/
def LaidK (zs : List StpV) : Nat → List Kt → List Frm → Prop
  | _, [], [] => True
  | p, k :: K, q :: F => p ≤ zs.length ∧ (∃ r, zs.drop p = stpN k.d p k.l ++ r) ∧ p + (stpN k.d p k.l).length = q.til ∧ q.mark = k.mark ∧ (F ≠ [] → q.til ≤ q.next) ∧ LaidK zs q.next K F
  | _, _, _ => False
theorem LaidK.form {zs : List StpV} {p : Nat} {K : List Kt} {q : Frm} {F : List Frm} (h : LaidK zs p K (q :: F)) : ∃ k K', K = k :: K' ∧ p ≤ zs.length ∧ (∃ r, zs.drop p = stpN k.d p k.l ++ r) ∧ p + (stpN k.d p k.l).length = q.til ∧ q.mark = k.mark ∧ (F ≠ [] → q.til ≤ q.next) ∧ LaidK zs q.next K' F := by
  cases K with
  | nil => exact h.elim
  | cons k K' => exact ⟨k, K', rfl, h⟩
theorem LaidK.le {zs : List StpV} {p : Nat} {K : List Kt} {q : Frm} {F : List Frm} (h : LaidK zs p K (q :: F)) : p ≤ zs.length ∧ p ≤ q.til ∧ q.til ≤ zs.length := by
  obtain ⟨k, K', rfl, h1, ⟨r, h2⟩, h3, _⟩ := h.form
  have h4 := congrArg List.length h2
  rw [List.length_drop, List.length_append] at h4
  omega
theorem LaidK.none {zs : List StpV} {p : Nat} {K : List Kt} (h : LaidK zs p K []) : K = [] := by
  cases K with
  | nil => rfl
  | cons k K' => exact h.elim
/-- a frame's end: nothing of its list is left -/
theorem mch_end {zs : List StpV} {p : Nat} {K : List Kt} {q : Frm} {F : List Frm} (h : LaidK zs p K (q :: F)) (he : p = q.til) : ∃ k K', K = k :: K' ∧ (∀ s f, sayK s f K = sayK s f K') ∧ (F ≠ [] → p ≤ q.next) ∧ LaidK zs q.next K' F := by
  obtain ⟨⟨d, l, mk⟩, K', rfl, h1, h2, h3, h4, h45, h5⟩ := h.form
  refine ⟨_, K', rfl, fun s f => ?_, fun hF => by rw [he]; exact h45 hF, h5⟩
  dsimp only at h3
  have h6 : (stpN d p l).length = 0 := by omega
  have h7 : sayN s f d l mk = ([], 0) := by
    cases d with
    | zero => rfl
    | succ d =>
      have h8 : (l : List (NdF (Nd d))) = [] := by
        cases l with
        | nil => rfl
        | cons x r =>
          have h9 : (stpN (d + 1) p (x :: r)).length = (oneF (stpN d) p x ++ rowF (stpN d) (p + (oneF (stpN d) p x).length) r).length := rfl
          rw [h9, List.length_append] at h6
          have h10 : (oneF (stpN d) p x).length = (bodF (stpN d) (p + 1) (casesR x)).length + 1 := rfl
          omega
      have h9 : l = ([] : List (NdF (Nd d))) := h8
      rw [h9]
      rfl
  show (if (sayN s f d l mk).2 ≠ 0 then sayN s f d l mk else ((sayN s f d l mk).1 ++ (sayK s f K').1, (sayK s f K').2)) = _
  rw [h7, if_neg (by simp)]
  simp
theorem bodF_at {β : Type} (f : Nat → List β → List StpV) : ∀ (cs : List (ByteArray × List β)) (b i : Nat) (h : i < cs.length), ∃ b', (begF f b cs)[i]? = some b' ∧ b ≤ b' ∧ (begF f b cs ++ [b + (bodF f b cs).length])[i + 1]? = some (b' + (f b' cs[i].2).length) ∧ ∃ r, (bodF f b cs).drop (b' - b) = f b' cs[i].2 ++ r
  | c :: r, b, 0, _ => by
    refine ⟨b, rfl, Nat.le_refl _, ?_, bodF f (b + (f b c.2).length) r, ?_⟩
    · show (b :: begF f (b + (f b c.2).length) r ++ [b + (f b c.2 ++ bodF f (b + (f b c.2).length) r).length])[1]? = some (b + (f b c.2).length)
      cases r with
      | nil => simp [begF, bodF]
      | cons e r => simp [begF]
    · rw [Nat.sub_self]; rfl
  | c :: r, b, i + 1, h => by
    rw [List.length_cons] at h
    obtain ⟨b', h1, h2, h3, r', h4⟩ := bodF_at f r (b + (f b c.2).length) i (by omega)
    refine ⟨b', h1, by omega, ?_, r', ?_⟩
    · have e : begF f b (c :: r) ++ [b + (bodF f b (c :: r)).length] = b :: (begF f (b + (f b c.2).length) r ++ [b + (f b c.2).length + (bodF f (b + (f b c.2).length) r).length]) := by
        show b :: begF f (b + (f b c.2).length) r ++ [b + (f b c.2 ++ bodF f (b + (f b c.2).length) r).length] = _
        rw [List.length_append, List.cons_append, Nat.add_assoc]
      rw [e]
      exact h3
    · show (f b c.2 ++ bodF f (b + (f b c.2).length) r).drop (b' - b) = _
      have e : b' - b = (f b c.2).length + (b' - (b + (f b c.2).length)) := by omega
      rw [e, ← List.drop_drop, List.drop_left, h4]
      rfl
theorem begF_le {β : Type} (f : Nat → List β → List StpV) : ∀ (cs : List (ByteArray × List β)) (b i b' : Nat), (begF f b cs)[i]? = some b' → b' ≤ b + (bodF f b cs).length
  | [], _, _, _, h => by cases h
  | c :: r, b, 0, b', h => by
    have e : b = b' := Option.some.inj h
    omega
  | c :: r, b, i + 1, b', h => by
    have h1 := begF_le f r (b + (f b c.2).length) i b' h
    have h2 : (bodF f b (c :: r)).length = (f b c.2 ++ bodF f (b + (f b c.2).length) r).length := rfl
    rw [List.length_append] at h2
    omega
/-- a node: the step at the place, and what is left behind it -/
theorem mch_on {zs : List StpV} {p : Nat} {K : List Kt} {q : Frm} {F : List Frm} (h : LaidK zs p K (q :: F)) (he : p ≠ q.til) : ∃ d, ∃ x : NdF (Nd d), ∃ r : List (NdF (Nd d)), ∃ K', K = ⟨d + 1, (x :: r : List (NdF (Nd d))), q.mark⟩ :: K' ∧ ∃ hp : p < zs.length, zs[p] = ⟨x.kind, x.text, x.off, (casesR x).map Prod.fst, begF (stpN d) (p + 1) (casesR x) ++ [p + 1 + (bodF (stpN d) (p + 1) (casesR x)).length], p + 1 + (bodF (stpN d) (p + 1) (casesR x)).length⟩ ∧
    (casesR x = [] → LaidK zs (p + 1) (⟨d + 1, r, q.mark⟩ :: K') (q :: F)) ∧
    (∀ i (hi : i < (casesR x).length) mk, ∃ b e, (begF (stpN d) (p + 1) (casesR x) ++ [p + 1 + (bodF (stpN d) (p + 1) (casesR x)).length])[i]? = some b ∧ (begF (stpN d) (p + 1) (casesR x) ++ [p + 1 + (bodF (stpN d) (p + 1) (casesR x)).length])[i + 1]? = some e ∧ p < b ∧ b ≤ zs.length ∧
      LaidK zs b (⟨d, (casesR x)[i].2, mk⟩ :: ⟨d + 1, r, q.mark⟩ :: K') (⟨e, p + 1 + (bodF (stpN d) (p + 1) (casesR x)).length, mk⟩ :: q :: F)) := by
  obtain ⟨⟨d, l, mk0⟩, K', rfl, h1, ⟨rest, h2⟩, h3, h4, h45, h5⟩ := h.form
  dsimp only at h2 h3 h4
  cases d with
  | zero => exact absurd h3 he
  | succ d =>
    cases l with
    | nil => exact absurd h3 he
    | cons x r =>
      have hx : stpN (d + 1) p (x :: r) = oneF (stpN d) p x ++ rowF (stpN d) (p + (oneF (stpN d) p x).length) r := rfl
      rw [hx] at h2 h3
      obtain ⟨st, hst⟩ : ∃ st, st = (⟨NdF.kind x, NdF.text x, NdF.off x, (casesR x).map Prod.fst, begF (stpN d) (p + 1) (casesR x) ++ [p + 1 + (bodF (stpN d) (p + 1) (casesR x)).length], p + 1 + (bodF (stpN d) (p + 1) (casesR x)).length⟩ : StpV) := ⟨_, rfl⟩
      have ho : oneF (stpN d) p x = st :: bodF (stpN d) (p + 1) (casesR x) := by rw [hst]; rfl
      have hol : (oneF (stpN d) p x).length = (bodF (stpN d) (p + 1) (casesR x)).length + 1 := by rw [ho]; rfl
      have hlen := congrArg List.length h2
      rw [List.length_drop, List.length_append, List.length_append, hol] at hlen
      have hp : p < zs.length := by omega
      have hz : zs[p] = st := by
        have h6 : (zs.drop p)[0]? = some st := by rw [h2, ho]; rfl
        rw [List.getElem?_drop, Nat.add_zero, List.getElem?_eq_getElem hp] at h6
        exact Option.some.inj h6
      have hd1 : zs.drop (p + 1) = bodF (stpN d) (p + 1) (casesR x) ++ (rowF (stpN d) (p + (oneF (stpN d) p x).length) r ++ rest) := by
        rw [← List.drop_drop, h2, ho]
        simp
      have hr : ∀ e, e = p + (oneF (stpN d) p x).length → LaidK zs e (⟨d + 1, r, q.mark⟩ :: K') (q :: F) := fun e ee => by
        subst ee
        rw [List.length_append] at h3
        refine ⟨by omega, ⟨rest, ?_⟩, by show _ + (rowF (stpN d) (p + (oneF (stpN d) p x).length) r).length = q.til; omega, rfl, h45, h5⟩
        show zs.drop (p + (oneF (stpN d) p x).length) = rowF (stpN d) (p + (oneF (stpN d) p x).length) r ++ rest
        rw [← List.drop_drop, h2, List.append_assoc, List.drop_left]
      refine ⟨d, x, r, K', by rw [h4]; rfl, hp, by rw [hz, hst], fun hc => hr (p + 1) (by rw [hol, hc]; rfl), fun i hi mk => ?_⟩
      obtain ⟨b, e1, e2, e3, r', e4⟩ := bodF_at (stpN d) (casesR x) (p + 1) i hi
      refine ⟨b, b + (stpN d b (casesR x)[i].2).length, ?_, e3, by omega, ?_⟩
      · rw [List.getElem?_append_left (by rcases List.getElem?_eq_some_iff.1 e1 with ⟨hh, _⟩; exact hh)]
        exact e1
      have hdb : zs.drop b = stpN d b (casesR x)[i].2 ++ (r' ++ (rowF (stpN d) (p + (oneF (stpN d) p x).length) r ++ rest)) := by
        have e5 : b = p + 1 + (b - (p + 1)) := by omega
        have e6 : b - (p + 1) ≤ (bodF (stpN d) (p + 1) (casesR x)).length := by
          rcases Nat.lt_or_ge (bodF (stpN d) (p + 1) (casesR x)).length (b - (p + 1)) with hh | hh
          · exfalso
            have e7 := begF_le (stpN d) (casesR x) (p + 1) i b e1
            omega
          · exact hh
        rw [e5, ← List.drop_drop, hd1, List.drop_append_of_le_length e6, e4, ← e5, List.append_assoc]
      have hbl : b ≤ zs.length := by
        have e7 := begF_le (stpN d) (casesR x) (p + 1) i b e1
        omega
      have hfin : b + (stpN d b (casesR x)[i].2).length ≤ p + 1 + (bodF (stpN d) (p + 1) (casesR x)).length := by
        have e7 := begF_le (stpN d) (casesR x) (p + 1) i b e1
        have e8 := congrArg List.length e4
        rw [List.length_drop, List.length_append] at e8
        omega
      refine ⟨hbl, hbl, ⟨_, hdb⟩, rfl, rfl, fun _ => hfin, ?_⟩
      exact hr (p + 1 + (bodF (stpN d) (p + 1) (casesR x)).length) (by rw [hol]; omega)
/- ## What is said -/
theorem sayK_on {s : SetV} {f : ByteArray → Option ArgV} {d : Nat} {x : NdF (Nd d)} {r : List (NdF (Nd d))} {mk : DecV} {K : List Kt} (h : (oneO (sayN s f d) s f x mk).2 = 0) :
    sayK s f (⟨d + 1, (x :: r : List (NdF (Nd d))), mk⟩ :: K) = ((oneO (sayN s f d) s f x mk).1 ++ (sayK s f (⟨d + 1, r, mk⟩ :: K)).1, (sayK s f (⟨d + 1, r, mk⟩ :: K)).2) := by
  have e : sayN s f (d + 1) (x :: r : List (NdF (Nd d))) mk = if (oneO (sayN s f d) s f x mk).2 ≠ 0 then oneO (sayN s f d) s f x mk else ((oneO (sayN s f d) s f x mk).1 ++ (sayN s f (d + 1) r mk).1, (sayN s f (d + 1) r mk).2) := rfl
  rw [if_neg (by rw [h]; decide)] at e
  have e1 : ∀ k, sayK s f (k :: K) = if (sayN s f k.d k.l k.mark).2 ≠ 0 then sayN s f k.d k.l k.mark else ((sayN s f k.d k.l k.mark).1 ++ (sayK s f K).1, (sayK s f K).2) := fun _ => rfl
  rw [e1, e1]
  dsimp only
  rw [e]
  dsimp only
  split
  · rfl
  · dsimp only
    rw [List.append_assoc]
theorem sayK_bad {s : SetV} {f : ByteArray → Option ArgV} {d : Nat} {x : NdF (Nd d)} {r : List (NdF (Nd d))} {mk : DecV} {K : List Kt} (h : (oneO (sayN s f d) s f x mk).2 ≠ 0) :
    (sayK s f (⟨d + 1, (x :: r : List (NdF (Nd d))), mk⟩ :: K)).2 = (oneO (sayN s f d) s f x mk).2 := by
  have e : sayN s f (d + 1) (x :: r : List (NdF (Nd d))) mk = if (oneO (sayN s f d) s f x mk).2 ≠ 0 then oneO (sayN s f d) s f x mk else ((oneO (sayN s f d) s f x mk).1 ++ (sayN s f (d + 1) r mk).1, (sayN s f (d + 1) r mk).2) := rfl
  rw [if_pos h] at e
  have e1 : ∀ k, sayK s f (k :: K) = if (sayN s f k.d k.l k.mark).2 ≠ 0 then sayN s f k.d k.l k.mark else ((sayN s f k.d k.l k.mark).1 ++ (sayK s f K).1, (sayK s f K).2) := fun _ => rfl
  rw [e1]
  dsimp only
  rw [e, if_pos h]
theorem sayK_push {s : SetV} {f : ByteArray → Option ArgV} {d : Nat} {x : NdF (Nd d)} {r : List (NdF (Nd d))} {mk mk' : DecV} {b : List (Nd d)} {K : List Kt} (h : oneO (sayN s f d) s f x mk = sayN s f d b mk') :
    sayK s f (⟨d, b, mk'⟩ :: ⟨d + 1, r, mk⟩ :: K) = sayK s f (⟨d + 1, (x :: r : List (NdF (Nd d))), mk⟩ :: K) := by
  by_cases h0 : (oneO (sayN s f d) s f x mk).2 = 0
  · rw [sayK_on h0, h]
    rw [h] at h0
    show (if (sayN s f d b mk').2 ≠ 0 then sayN s f d b mk' else _) = _
    rw [if_neg (by rw [h0]; decide)]
  · have e : sayN s f (d + 1) (x :: r : List (NdF (Nd d))) mk = if (oneO (sayN s f d) s f x mk).2 ≠ 0 then oneO (sayN s f d) s f x mk else ((oneO (sayN s f d) s f x mk).1 ++ (sayN s f (d + 1) r mk).1, (sayN s f (d + 1) r mk).2) := rfl
    rw [if_pos h0] at e
    show (if (sayN s f d b mk').2 ≠ 0 then sayN s f d b mk' else _) = (if (sayN s f (d + 1) (x :: r : List (NdF (Nd d))) mk).2 ≠ 0 then sayN s f (d + 1) (x :: r : List (NdF (Nd d))) mk else _)
    rw [e, if_pos h0, h] at *
    rw [if_pos h0]
/- ## In bounds -/
def costK (C : Nat) : List Kt → Nat
  | [] => 0
  | k :: r => costN C k.d k.l + costK C r
structure KOk (C : Nat) (k : Kt) : Prop where
  good : GoodN k.d k.l
  text : TextN C k.d k.l
  small : MsgIn k.d k.l
theorem KOk.rest {C d : Nat} {x : NdF (Nd d)} {r : List (NdF (Nd d))} {mk : DecV} (h : KOk C ⟨d + 1, (x :: r : List (NdF (Nd d))), mk⟩) (mk' : DecV) : KOk C ⟨d + 1, r, mk'⟩ :=
  ⟨fun y hy => h.good y (List.mem_cons_of_mem _ hy), fun y hy => h.text y (List.mem_cons_of_mem _ hy), ⟨Nat.le_trans (Nat.le_succ _) h.small.len, fun y hy => h.small.each y (List.mem_cons_of_mem _ hy)⟩⟩
theorem KOk.head {C d : Nat} {x : NdF (Nd d)} {r : List (NdF (Nd d))} {mk : DecV} (h : KOk C ⟨d + 1, (x :: r : List (NdF (Nd d))), mk⟩) : goodF (GoodN d) x ∧ x.text.size ≤ C ∧ (∀ c ∈ x.cases, TextN C d c.2) ∧ smallF (SmallN d) x :=
  ⟨h.good x (List.mem_cons_self ..), (h.text x (List.mem_cons_self ..)).1, (h.text x (List.mem_cons_self ..)).2, h.small.each x (List.mem_cons_self ..)⟩
theorem KOk.body {C d : Nat} {x : NdF (Nd d)} {r : List (NdF (Nd d))} {mk : DecV} (h : KOk C ⟨d + 1, (x :: r : List (NdF (Nd d))), mk⟩) (hk : x.kind = 4 ∨ x.kind = 5) {c : ByteArray × List (Nd d)} (hc : c ∈ x.cases) (mk' : DecV) : KOk C ⟨d, c.2, mk'⟩ :=
  ⟨(h.head.1.2 hk).2 c hc, h.head.2.2.1 c hc, MsgIn.body h.small (List.mem_cons_self ..) hc⟩
theorem costK_on {C d : Nat} {x : NdF (Nd d)} {r : List (NdF (Nd d))} {mk : DecV} {K : List Kt} : costK C (⟨d + 1, (x :: r : List (NdF (Nd d))), mk⟩ :: K) = C + (x.cases.map fun c => costN C d c.2).sum + costK C (⟨d + 1, r, mk⟩ :: K) := by
  show (costF (costN C d) C x + ((r.map (costF (costN C d) C)).sum)) + costK C K = _
  unfold costF
  show _ = _ + (((r.map (costF (costN C d) C)).sum) + costK C K)
  unfold costF
  omega
theorem sum_mem_le {α : Type} (f : α → Nat) : ∀ (l : List α) (a : α), a ∈ l → f a ≤ (l.map f).sum
  | b :: r, a, h => by
    rw [List.map_cons, List.sum_cons]
    rcases List.mem_cons.1 h with rfl | h
    · omega
    · have := sum_mem_le f r a h; omega
theorem costK_push {C d : Nat} {x : NdF (Nd d)} {r : List (NdF (Nd d))} {mk mk' : DecV} {K : List Kt} {c : ByteArray × List (Nd d)} (hc : c ∈ x.cases) : costK C (⟨d, c.2, mk'⟩ :: ⟨d + 1, r, mk⟩ :: K) + C ≤ costK C (⟨d + 1, (x :: r : List (NdF (Nd d))), mk⟩ :: K) := by
  rw [costK_on]
  have := sum_mem_le (fun c => costN C d c.2) x.cases c hc
  show costN C d c.2 + costK C (⟨d + 1, r, mk⟩ :: K) + C ≤ _
  omega
end Go.Proofs.YtjdfpoppimcikaaGreatDoor
/- A text's builder: what a text that is written leaves as it was. -/

namespace Go.Proofs.YtjdfpoppimcikaaGreatDoor
open Go.RowKit

set_option maxRecDepth 100000 in
set_option maxHeartbeats 1000000 in
theorem lookedQ_any (B k : Nat) (xs : List Value) (w : World) (h : Lib.IsBuilder 60 5 B k xs w) :
    Calls Tryz.prog 59 #[.pointer (some ⟨k, 0, none⟩)] w fun e w' => e = .returned (.tuple #[]) ∧ Lib.BuilderAt 60 5 B k (.pointer (some ⟨k, 0, none⟩)) xs w' ∧ BwK B k w w' ∧ w'.heap.size = w.heap.size := by
  obtain ⟨j, hj, hjs⟩ := Option.map_eq_some_iff.1 sz_bld
  rcases h with h | h
  · have HA := Lib.hid (h.used (.pointer (some ⟨k, 0, none⟩)))
    have HB := Lib.hid ((BwK.refl B k w).setCell h.1 0 (.pointer (some ⟨k, 0, none⟩)))
    have c0 := h.cell0
    have f0 := h.frozen0
    have hsh := h.shape
    have hc1 := Lib.run_to_unsafe w (P := Tryz.prog) (src := 57) (dst := 134) ⟨k, 0, none⟩ Tryz.underlying57 Tryz.underlying134 hj (by rw [hjs]; decide) hsh (Nat.zero_lt_succ 1)
    have hc2 := Lib.run_from_unsafe w (P := Tryz.prog) (src := 134) (dst := 57) ⟨k, 0, none⟩ Tryz.underlying134 Tryz.underlying57 hj hsh lies_bld
    have hn : (callFunc 105 #[.pointer (some ⟨k, 0, none⟩)]).run Tryz.prog w = .ok (.value (.pointer (some ⟨k, 0, none⟩))) w := by
      rw [run_callFunc_extern Tryz.func105 (by kernel_rfl) (by kernel_rfl) (by kernel_rfl) (e := Extern.AbiNoEscape.same) (by kernel_rfl), Lib.run_noEscape]; rfl
    clear h hsh hj hjs
    go_enter Tryz.func59, Tryz.ntmps59
    go_wp2
    go_end0
    exact ⟨rfl, HA.out, HB.out, by simp⟩
  · have c0 := h.cell0
    have HH := Lib.hid h
    clear h
    have hr := Lib.run_neq_ptr_same w (P := Tryz.prog) (tp := 57) ⟨k, 0, none⟩ Tryz.underlying57 hj
    go_enter Tryz.func59, Tryz.ntmps59
    go_wp2
    go_end0
    exact ⟨rfl, HH.out, BwK.refl _ _ _, rfl⟩
set_option maxRecDepth 100000 in
set_option maxHeartbeats 1000000 in
theorem wstrQ_any (B k : Nat) (l : List UInt8) (s : ByteArray) (w : World) (h : Bld B k l w) (hl : l.length + s.size ≤ 140737488355328) (hB : B ≤ w.heap.size) :
    Calls Tryz.prog 34 #[.pointer (some ⟨k, 0, none⟩), .string s] w fun e w' => e = .returned (.tuple #[.int .i64 s.size, .nilIface]) ∧ Bld B k (l ++ bts s) w' ∧ BwK B k w w' := by
  have HL := Lib.hid (lookedQ_any B k _ w h)
  obtain ⟨i0, hi, hz0, hz1, hz2⟩ := info_parts info_byte'
  clear h
  go_enter Tryz.func34, Tryz.ntmps34
  go_wp2_with fail
  refine HL.out.mono ?_
  clear HL
  rintro e w1 ⟨rfl, ⟨hBk, v, hbk, hown, hne⟩, hb1, hs1⟩
  have c0 : w1.cell? ⟨k, 0, none⟩ = some (.pointer (some ⟨k, 0, none⟩)) := by rw [Lib.cell_of_heap hbk]; rfl
  have c1 : w1.cell? ⟨k, 1, none⟩ = some v := by rw [Lib.cell_of_heap hbk]; rfl
  have hkl : k < w1.heap.size := Blk.lt hbk
  have HbK := Lib.hid hbk
  have HNe := Lib.hid hne
  have HB1 := Lib.hid hb1
  have hbl : (Lib.byteCells l).length = l.length := Lib.byteCells_length l
  rw [hbl] at hown
  obtain ⟨A, cp, rfl, _⟩ := own_slice hown
  have HO := Lib.hid hown
  have hB1 : B ≤ w1.heap.size := by omega
  clear hbk hown hne hb1 hs1
  go_wp2_with (at_builtin; refine Lib.wpList_append_own_string _ rfl _ _ 58 9 rfl B 5 i0 Tryz.underlying58 Tryz.underlying9 hi hz0 hz1 hz2 _ _ _ rfl HO.out s rfl (by unfold maxLen; omega) (by omega) (by omega) ?_)
  intro v2 w2 hown2 hgrow2 _
  have hb2 : w2.heap[k]? = some (.cells #[.pointer (some ⟨k, 0, none⟩), .slice A l.length cp] 60 (0, 0)) := by
    rw [hgrow2.block k hkl (fun e => HNe.out e.symm)]
    exact HbK.out
  have d0 : w2.cell? ⟨k, 0, none⟩ = some (.pointer (some ⟨k, 0, none⟩)) := by rw [Lib.cell_of_heap hb2]; rfl
  have d1 : w2.cell? ⟨k, 1, none⟩ = some (.slice A l.length cp) := by rw [Lib.cell_of_heap hb2]; rfl
  have f1 : w2.frozen? ⟨k, 1, none⟩ = false := Lib.frozen_of_heap hb2 1
  obtain ⟨A2, c2, rfl, _⟩ := own_slice hown2
  have HP := Lib.hid (Lib.BuilderAt.put (T := 60) (e := 5) hBk hb2 (bs' := Lib.byteCells (l ++ bts s)) (by rw [← bytes_app, ← str_cells, List.length_append, hbl, Lib.strCells_length]; exact hown2) (by decide))
  have HBe := Lib.hid ((HB1.out.grown HO.out hgrow2 hB1).setCell hBk 1 (.slice A2 (l.length + s.size) c2))
  clear hown2 hgrow2 hb2
  go_wp2_with fail
  go_ret2
  exact ⟨rfl, .inr HP.out, HBe.out⟩
/-- a builder stays where nothing of it turns -/
theorem Bld.keepQ {B k : Nat} {l : List UInt8} {w w' : World} (h : Bld B k l w) (hk : ∀ g cs t f, w.heap[g]? = some (.cells cs t f) → (g = k ∨ t = 5) → w'.heap[g]? = w.heap[g]?) : Bld B k l w' := by
  have key : ∀ p, Lib.BuilderAt 60 5 B k p (Lib.byteCells l) w → Lib.BuilderAt 60 5 B k p (Lib.byteCells l) w' := fun p ⟨hB, v, hh, ho, hn⟩ =>
    ⟨hB, v, (hk k _ _ _ hh (.inl rfl)).trans hh, own_keep ho fun g hg _ => by
      obtain ⟨_, ⟨h2, _⟩ | ⟨g', cap, cur, hv, _, hh', _⟩⟩ := ho
      · rw [h2] at hg; cases hg
      · rw [hv] at hg
        injection hg with hg
        have hg : g' = g := hg
        subst hg
        exact hk g' _ _ _ hh' (.inr rfl), hn⟩
  exact h.imp (key _) (key _)
theorem Bld.lt {B k : Nat} {l : List UInt8} {w : World} (h : Bld B k l w) : B ≤ k ∧ k < w.heap.size := by
  rcases h with ⟨hB, v, hh, _⟩ | ⟨hB, v, hh, _⟩
  · exact ⟨hB, Blk.lt (t := 60) hh⟩
  · exact ⟨hB, Blk.lt (t := 60) hh⟩
theorem Bld.on {B k : Nat} {l : List UInt8} {w w' : World} (h : Bld B k l w) (hb : Below w.heap.size w w') : Bld B k l w' :=
  h.keepQ fun g _ _ _ hg _ => hb.block g (Array.getElem?_eq_some_iff.1 hg).1
end Go.Proofs.YtjdfpoppimcikaaGreatDoor
