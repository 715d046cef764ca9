/- A message's bulk bounds its parts and what they can need. -/
import Derived.Test.YtjdfpoppimcikaaGreatDoorNamesD
import Derived.Test.YtjdfpoppimcikaaGreatDoorSpkN
import Derived.Test.YtjdfpoppimcikaaGreatDoorFitW
namespace Go.Proofs.YtjdfpoppimcikaaGreatDoor
open Go.RowKit

theorem mem_sum {α : Type} (f : α → Nat) : ∀ (l : List α) (x : α), x ∈ l → f x ≤ (l.map f).sum
  | a :: l, x, h => by
    rw [List.map_cons, List.sum_cons]
    rcases List.mem_cons.1 h with rfl | h
    · omega
    · have := mem_sum f l x h; omega
theorem len_le_sum {α : Type} (f : α → Nat) : ∀ (l : List α), (∀ x ∈ l, 1 ≤ f x) → l.length ≤ (l.map f).sum
  | [], _ => Nat.le_refl _
  | a :: l, h => by
    rw [List.map_cons, List.sum_cons, List.length_cons]
    have := len_le_sum f l fun x hx => h x (List.mem_cons_of_mem _ hx)
    have := h a (List.mem_cons_self ..)
    omega
theorem sum_map_le {α : Type} (f g : α → Nat) : ∀ (l : List α), (∀ x ∈ l, f x ≤ g x) → (l.map f).sum ≤ (l.map g).sum
  | [], _ => Nat.le_refl _
  | a :: l, h => by
    rw [List.map_cons, List.sum_cons, List.map_cons, List.sum_cons]
    have := sum_map_le f g l fun x hx => h x (List.mem_cons_of_mem _ hx)
    have := h a (List.mem_cons_self ..)
    omega
theorem node_bulk (n : Nat) (x : NdF (Nd n)) : (Enc.node (n + 1)).bulk x = x.text.size + 1 + ((x.cases.map (Enc.cas (Enc.node n)).bulk).sum + 1) := rfl
theorem cas_bulk (n : Nat) (c : ByteArray × List (Nd n)) : (Enc.cas (Enc.node n)).bulk c = c.1.size + 1 + ((c.2.map (Enc.node n).bulk).sum + 1) := rfl
theorem node_pos : (n : Nat) → (x : Nd n) → 1 ≤ (Enc.node n).bulk x
  | 0, x => nomatch (show Empty from x)
  | n + 1, x => by rw [node_bulk n x]; omega
theorem small_of_bulk : (n : Nat) → (x : Nd n) → (Enc.node n).bulk x ≤ 10000000 → SmallN n x
  | 0, _, _ => trivial
  | n + 1, x, h => by
    rw [node_bulk n x] at h
    refine ⟨by omega, ?_, fun c hc => ?_⟩
    · have := len_le_sum (Enc.cas (Enc.node n)).bulk (NdF.cases (α := Nd n) x) fun c _ => by rw [cas_bulk]; omega
      omega
    · have h1 := mem_sum (Enc.cas (Enc.node n)).bulk (NdF.cases (α := Nd n) x) c hc
      rw [cas_bulk] at h1
      have h2 := len_le_sum (Enc.node n).bulk c.2 fun y _ => node_pos n y
      refine ⟨by omega, by omega, fun y hy => small_of_bulk n y ?_⟩
      have := mem_sum (Enc.node n).bulk c.2 y hy
      omega
theorem msgIn_of_bulk (n : Nat) (m : List (Nd n)) (h : (m.map (Enc.node n).bulk).sum ≤ 10000000) : MsgIn n m :=
  ⟨Nat.le_trans (len_le_sum (Enc.node n).bulk m fun y _ => node_pos n y) h, fun x hx => small_of_bulk n x (Nat.le_trans (mem_sum _ m x hx) h)⟩
theorem cnt_of_bulk : (n : Nat) → (m : List (Nd n)) → cntN n m ≤ (m.map (Enc.node n).bulk).sum
  | 0, _ => Nat.zero_le _
  | n + 1, m => by
    refine sum_map_le (fun x : NdF (Nd n) => 1 + cntC (cntN n) (casesR x)) (Enc.node (n + 1)).bulk m fun x _ => ?_
    rw [node_bulk n x]
    have h1 : cntC (cntN n) (casesR x) ≤ (x.cases.map (Enc.cas (Enc.node n)).bulk).sum := by
      have h2 : cntC (cntN n) x.cases ≤ (x.cases.map (Enc.cas (Enc.node n)).bulk).sum := sum_map_le _ _ x.cases fun c _ => by
        rw [cas_bulk]
        have := cnt_of_bulk n c.2
        omega
      unfold casesR
      split
      · exact h2
      · exact Nat.zero_le _
    omega
end Go.Proofs.YtjdfpoppimcikaaGreatDoor
/- What a message says, plainly: one node, a message at any depth; how long it is. -/

namespace Go.Proofs.YtjdfpoppimcikaaGreatDoor
open Go.RowKit

def argZ : ArgV := ⟨⟨#[]⟩, false, ⟨0, 0⟩, ⟨#[]⟩⟩
def argOf (f : ByteArray → Option ArgV) (s : ByteArray) : ArgV := (f s).getD argZ
def bodyAt {β : Type} (cs : List (ByteArray × List β)) (i : Nat) : List β := ((cs[i]?).map Prod.snd).getD []
def showT (a : ArgV) : List UInt8 := if a.isNum then textD a.num else bts a.text
def oneO {β : Type} (rec : List β → DecV → List UInt8 × Int) (s : SetV) (f : ByteArray → Option ArgV) (x : NdF β) (mark : DecV) : List UInt8 × Int :=
  if x.kind = 1 then (bts x.text, 0)
  else if x.kind = 6 then (numT mark, numE mark)
  else if x.kind = 3 then (numT (argOf f x.text).num, numE (argOf f x.text).num)
  else if x.kind = 4 then (if caseE s x.off (argOf f x.text).num = 0 then rec (bodyAt x.cases (caseB s x.off (argOf f x.text).num (x.cases.map Prod.fst))) (caseL s x.off (argOf f x.text).num) else ([], caseE s x.off (argOf f x.text).num))
  else if x.kind = 5 then rec (bodyAt x.cases (choF (argOf f x.text).text (x.cases.map Prod.fst) 0 0)) mark
  else (showT (argOf f x.text), 0)
theorem bodyAt_get {β : Type} (cs : List (ByteArray × List β)) (i : Nat) (h : i < cs.length) : bodyAt cs i = cs[i].2 := by
  unfold bodyAt; rw [List.getElem?_eq_getElem h]; rfl
theorem argZ_val : argZ.val = .agg #[.string ByteArray.empty, .bool false, .int .i64 0, .int .i64 0, .string ByteArray.empty] := rfl
theorem argOf_val (f : ByteArray → Option ArgV) (s : ByteArray) : ((f s).map ArgV.val).getD (.agg #[.string ByteArray.empty, .bool false, .int .i64 0, .int .i64 0, .string ByteArray.empty]) = (argOf f s).val := by
  unfold argOf; cases f s <;> rfl
theorem caseB_lt (s : SetV) (off : Int) (d : DecV) (keys : List ByteArray) (h : keys ≠ []) : caseB s off d keys < keys.length := by
  have h0 := List.length_pos_iff.2 h
  unfold caseB
  split
  · exact bestF_lt _ _ keys 0 0 0 _ h0 (by simp)
  · exact h0
/- ## A message -/
def sayL {β : Type} (one : NdF β → List UInt8 × Int) : List (NdF β) → List UInt8 × Int
  | [] => ([], 0)
  | x :: r => if (one x).2 ≠ 0 then one x else ((one x).1 ++ (sayL one r).1, (sayL one r).2)
def sayN (s : SetV) (f : ByteArray → Option ArgV) : (n : Nat) → List (Nd n) → DecV → List UInt8 × Int
  | 0, _, _ => ([], 0)
  | n + 1, m, mark => sayL (fun x => oneO (sayN s f n) s f x mark) (m : List (NdF (Nd n)))
theorem sayL_bad {β : Type} {one : NdF β → List UInt8 × Int} {l : List (NdF β)} {j : Nat} (h : j < l.length) (hb : (one l[j]).2 ≠ 0) : sayL one (l.drop j) = one l[j] := by
  rw [List.drop_eq_getElem_cons h]; exact if_pos hb
theorem sayL_on {β : Type} {one : NdF β → List UInt8 × Int} {l : List (NdF β)} {j : Nat} (h : j < l.length) (hb : (one l[j]).2 = 0) : sayL one (l.drop j) = ((one l[j]).1 ++ (sayL one (l.drop (j + 1))).1, (sayL one (l.drop (j + 1))).2) := by
  rw [List.drop_eq_getElem_cons h]; exact if_neg (by rw [hb]; decide)
/- ## How long -/
def costF {β : Type} (cb : List β → Nat) (C : Nat) (x : NdF β) : Nat := C + (x.cases.map fun c => cb c.2).sum
def costN (C : Nat) : (n : Nat) → List (Nd n) → Nat
  | 0, _ => 0
  | n + 1, m => ((m : List (NdF (Nd n))).map (costF (costN C n) C)).sum
theorem sum_mul (C : Nat) {α : Type} (f : α → Nat) : ∀ l : List α, (l.map fun x => C * f x).sum = C * (l.map f).sum
  | [] => by simp
  | a :: l => by simp only [List.map_cons, List.sum_cons, sum_mul C f l, Nat.mul_add]
theorem costN_le (C : Nat) : (n : Nat) → (m : List (Nd n)) → costN C n m ≤ C * (m.map (Enc.node n).bulk).sum
  | 0, _ => Nat.zero_le _
  | n + 1, m => by
    rw [← sum_mul]
    refine sum_map_le (costF (costN C n) C) (fun x : NdF (Nd n) => C * (Enc.node (n + 1)).bulk x) m fun x _ => ?_
    show C + (x.cases.map fun c => costN C n c.2).sum ≤ C * (Enc.node (n + 1)).bulk x
    rw [node_bulk n x]
    have h1 : (x.cases.map fun c => costN C n c.2).sum ≤ C * (x.cases.map (Enc.cas (Enc.node n)).bulk).sum := by
      rw [← sum_mul]
      refine sum_map_le (fun c : ByteArray × List (Nd n) => costN C n c.2) _ x.cases fun c _ => ?_
      rw [cas_bulk]
      exact Nat.le_trans (costN_le C n c.2) (Nat.mul_le_mul_left _ (by omega))
    refine Nat.le_trans (Nat.add_le_add_left h1 C) ?_
    rw [show C + C * (x.cases.map (Enc.cas (Enc.node n)).bulk).sum = C * (1 + (x.cases.map (Enc.cas (Enc.node n)).bulk).sum) from by rw [Nat.mul_add, Nat.mul_one]]
    exact Nat.mul_le_mul_left _ (by omega)
/- ## What a message must be to be said -/
def goodF {β : Type} (G : List β → Prop) (x : NdF β) : Prop := (x.kind = 4 → 0 ≤ x.off ∧ x.off ≤ 1000) ∧ (x.kind = 4 ∨ x.kind = 5 → x.cases ≠ [] ∧ ∀ c ∈ x.cases, G c.2)
def GoodN : (n : Nat) → List (Nd n) → Prop
  | 0, _ => True
  | n + 1, m => ∀ x ∈ (m : List (NdF (Nd n))), goodF (GoodN n) x
theorem casesM_good {β : Type} {chk : List β → Bool → Int} {kind : Int} {mark : Bool} : ∀ (cs : List (ByteArray × List β)) (seen : List ByteArray), casesM chk kind mark cs seen = 0 → ∀ c ∈ cs, chk c.2 (mark || kind == 4) = 0
  | [], _, _, c, hc => by cases hc
  | d :: r, seen, h, c, hc => by
    have e : casesM chk kind mark (d :: r) seen = if keyM kind d.1 = false then 3 else if seen.any (eqs · d.1) = true then 5 else if chk d.2 (mark || kind == 4) ≠ 0 then chk d.2 (mark || kind == 4) else casesM chk kind mark r (seen ++ [d.1]) := rfl
    rw [e] at h
    split at h
    · exact absurd h (by decide)
    split at h
    · exact absurd h (by decide)
    split at h
    · rename_i h1; exact absurd h h1
    · rename_i h1
      rcases List.mem_cons.1 hc with rfl | hc
      · exact Classical.not_not.1 h1
      · exact casesM_good r _ h c hc
theorem checkM_good {β : Type} {chk : List β → Bool → Int} {mark : Bool} {G : List β → Prop} (hG : ∀ b mk, chk b mk = 0 → G b) : ∀ (m : List (NdF β)) (last : Option Int), checkM chk mark last m = 0 → ∀ x ∈ m, goodF G x
  | [], _, _, x, hx => by cases hx
  | y :: r, last, h, x, hx => by
    have e : checkM chk mark last (y :: r) = if fineM y.kind y.text last mark = false then 3 else if y.kind = 4 ∧ (y.off < 0 ∨ 9 < y.off) then 1 else if hasCases y.kind = true ∧ casesM chk y.kind mark y.cases [] ≠ 0 then casesM chk y.kind mark y.cases [] else checkM chk mark (some y.kind) r := by
      cases last <;> rfl
    rw [e] at h
    split at h
    · exact absurd h (by decide)
    split at h
    · exact absurd h (by decide)
    rename_i h4
    split at h
    · rename_i h1; exact absurd h h1.2
    rename_i h5
    rcases List.mem_cons.1 hx with rfl | hx
    · refine ⟨fun hk => ?_, fun hk => ?_⟩
      · have h6 : ¬ (x.off < 0 ∨ 9 < x.off) := fun hh => h4 ⟨hk, hh⟩
        omega
      · have hc : hasCases x.kind = true := by
          unfold hasCases
          rcases hk with hk | hk <;> rw [hk] <;> decide
        have h7 : casesM chk x.kind mark x.cases [] = 0 := Classical.not_not.1 fun hh => h5 ⟨hc, hh⟩
        refine ⟨fun hn => ?_, fun c hcm => hG _ _ (casesM_good _ _ h7 c hcm)⟩
        rw [hn] at h7
        have h8 : casesM chk x.kind mark ([] : List (ByteArray × List β)) [] = 2 := rfl
        rw [h8] at h7
        exact absurd h7 (by decide)
    · exact checkM_good hG r _ h x hx
theorem good_of_check : (n : Nat) → (m : List (Nd n)) → (mark : Bool) → checkN n m mark = 0 → GoodN n m
  | 0, _, _, _ => trivial
  | n + 1, m, _, h => checkM_good (fun b mk hb => good_of_check n b mk hb) (m : List (NdF (Nd n))) none h
theorem good_of_fits {n : Nat} {m : List (Nd n)} {args : List ArgV} (h : fitsR n m args = 0) : GoodN n m := by
  refine good_of_check n m false ?_
  unfold fitsR at h
  split at h
  · rename_i h1; exact absurd h h1
  rename_i h1
  have h2 : (ofR n m).1 = 0 := Classical.not_not.1 h1
  unfold ofR at h2
  split at h2
  · rename_i h3; exact absurd h2 h3
  rename_i h3
  have h4 : checkAll n m = 0 := Classical.not_not.1 h3
  unfold checkAll at h4
  split at h4
  · exact absurd h4 (by decide)
  · exact h4
/- ## The args -/
def putA (f : ByteArray → Option ArgV) (a : ArgV) : ByteArray → Option ArgV := fun s => if s = a.name then some a else f s
def argF (l : List ArgV) : ByteArray → Option ArgV := l.foldl putA fun _ => none
theorem argF_snoc (l : List ArgV) (j : Nat) (h : j < l.length) : argF (l.take (j + 1)) = putA (argF (l.take j)) l[j] := by
  unfold argF
  rw [List.take_succ_eq_append_getElem h, List.foldl_append]; rfl
theorem putA_val (f : ByteArray → Option ArgV) (a : ArgV) (s : ByteArray) : (putA f a s).map ArgV.val = putV (fun s => (f s).map ArgV.val) a.name a.val s := by
  unfold putA putV
  split <;> rfl
theorem foldA_mem : ∀ (l : List ArgV) (f : ByteArray → Option ArgV) (s : ByteArray) (a : ArgV), l.foldl putA f s = some a → a ∈ l ∨ f s = some a
  | [], _, _, _, h => .inr h
  | b :: l, f, s, a, h => by
    rcases foldA_mem l (putA f b) s a h with h | h
    · exact .inl (List.mem_cons_of_mem _ h)
    · unfold putA at h
      split at h
      · injection h with h; exact .inl (by rw [h]; exact List.mem_cons_self ..)
      · exact .inr h
theorem argF_mem {l : List ArgV} {s : ByteArray} {a : ArgV} (h : argF l s = some a) : a ∈ l := by
  rcases foldA_mem l _ s a h with h | h
  · exact h
  · cases h
theorem argE_ok : ∀ (l : List ArgV) (f : KMap), argE l f = 0 → ∀ a ∈ l, a.isNum = true → a.num.ok
  | [], _, _, a, ha => by cases ha
  | b :: r, f, h, a, ha => by
    have e : argE (b :: r) f = if nameR b.name = false then 3 else if b.isNum = true ∧ ¬ b.num.ok then 1 else if (f b.name).isSome = true then 5 else argE r (putB f b.name b.isNum) := rfl
    rw [e] at h
    split at h
    · exact absurd h (by decide)
    split at h
    · exact absurd h (by decide)
    rename_i h1
    split at h
    · exact absurd h (by decide)
    rcases List.mem_cons.1 ha with rfl | ha
    · intro hn
      exact Classical.not_not.1 fun hh => h1 ⟨hn, hh⟩
    · exact argE_ok r _ h a ha
theorem fits_args {n : Nat} {m : List (Nd n)} {args : List ArgV} (h : fitsR n m args = 0) : ∀ a ∈ args, a.isNum = true → a.num.ok := by
  unfold fitsR at h
  split at h
  · rename_i h1; exact absurd h h1
  split at h
  · rename_i h1; exact absurd h h1
  rename_i h1
  exact argE_ok args _ (Classical.not_not.1 h1)
/-- what every arg that is asked for is -/
structure ArgIn (C : Nat) (f : ByteArray → Option ArgV) : Prop where
  size : ∀ t, (argOf f t).text.size ≤ C
  ok : ∀ t, (argOf f t).isNum = true → (argOf f t).num.ok
theorem argIn_of {C : Nat} {l : List ArgV} (h : ∀ a ∈ l, a.text.size ≤ C) (ho : ∀ a ∈ l, a.isNum = true → a.num.ok) : ArgIn C (argF l) := by
  constructor
  · intro t
    unfold argOf
    cases e : argF l t with
    | none => exact Nat.zero_le _
    | some a => exact h a (argF_mem e)
  · intro t
    unfold argOf
    cases e : argF l t with
    | none => intro h; cases h
    | some a => exact ho a (argF_mem e)
theorem mem_body {β : Type} {cs : List (ByteArray × List β)} {i : Nat} (h : i < cs.length) (cb : List β → Nat) : cb (bodyAt cs i) ≤ (cs.map fun c => cb c.2).sum := by
  rw [bodyAt_get cs i h]
  exact mem_sum (fun c : ByteArray × List β => cb c.2) cs _ (List.getElem_mem h)
theorem oneO_len {β : Type} {rec : List β → DecV → List UInt8 × Int} {cb : List β → Nat} {C : Nat} {s : SetV} {f : ByteArray → Option ArgV} {x : NdF β} {mark : DecV} (hC : 400 ≤ C) (ht : x.text.size ≤ C) (hf : ArgIn C f) {G : List β → Prop} (hx : goodF G x)
    (hr : ∀ c ∈ x.cases, x.kind = 4 ∨ x.kind = 5 → ∀ d, (rec c.2 d).1.length ≤ cb c.2) : (oneO rec s f x mark).1.length ≤ costF cb C x := by
  have hbl : ∀ t : ByteArray, (bts t).length = t.size := fun t => bts_len t
  have h4 : ∀ i, i < x.cases.length → x.kind = 4 ∨ x.kind = 5 → ∀ d, (rec (bodyAt x.cases i) d).1.length ≤ (x.cases.map fun c => cb c.2).sum := fun i hi hk d => by
    refine Nat.le_trans ?_ (mem_body hi cb)
    rw [bodyAt_get x.cases i hi]
    exact hr _ (List.getElem_mem hi) hk d
  unfold oneO costF
  split
  · show (bts x.text).length ≤ _; rw [hbl]; omega
  split
  · have := numT_len mark; show (numT mark).length ≤ _; omega
  split
  · have := numT_len (argOf f x.text).num; show (numT (argOf f x.text).num).length ≤ _; omega
  split
  · rename_i hk
    split
    · have hlt := caseB_lt s x.off (argOf f x.text).num (x.cases.map Prod.fst) (by
        have := (hx.2 (.inl hk)).1
        intro hh; exact this (List.map_eq_nil_iff.1 hh))
      rw [List.length_map] at hlt
      have := h4 _ hlt (.inl hk) (caseL s x.off (argOf f x.text).num)
      omega
    · exact Nat.zero_le _
  split
  · rename_i hk
    have hne := (hx.2 (.inr hk)).1
    have hlt : choF (argOf f x.text).text (x.cases.map Prod.fst) 0 0 < x.cases.length := choF_lt _ _ 0 0 _ (List.length_pos_iff.2 hne) (by simp)
    have := h4 _ hlt (.inr hk) mark
    omega
  · show (showT (argOf f x.text)).length ≤ _
    unfold showT
    split
    · rename_i hn
      have := textD_len _ (hf.ok x.text hn)
      omega
    · rw [hbl]; have := hf.size x.text; omega
theorem sayL_len {β : Type} {one : NdF β → List UInt8 × Int} {cx : NdF β → Nat} : ∀ (m : List (NdF β)), (∀ x ∈ m, (one x).1.length ≤ cx x) → (sayL one m).1.length ≤ (m.map cx).sum
  | [], _ => Nat.zero_le _
  | x :: r, h => by
    have h1 := h x (List.mem_cons_self ..)
    have h2 := sayL_len r fun y hy => h y (List.mem_cons_of_mem _ hy)
    unfold sayL
    rw [List.map_cons, List.sum_cons]
    split
    · omega
    · show ((one x).1 ++ (sayL one r).1).length ≤ _
      rw [List.length_append]; omega
/-- each text of a message is no longer than C -/
def TextN (C : Nat) : (n : Nat) → List (Nd n) → Prop
  | 0, _ => True
  | n + 1, m => ∀ x ∈ (m : List (NdF (Nd n))), x.text.size ≤ C ∧ ∀ c ∈ x.cases, TextN C n c.2
theorem textN_of_bulk (C : Nat) : (n : Nat) → (m : List (Nd n)) → (m.map (Enc.node n).bulk).sum ≤ C → TextN C n m
  | 0, _, _ => trivial
  | n + 1, m, h => fun x hx => by
    have h1 := mem_sum (Enc.node (n + 1)).bulk m x hx
    rw [node_bulk n x] at h1
    refine ⟨by omega, fun c hc => textN_of_bulk C n c.2 ?_⟩
    have h2 := mem_sum (Enc.cas (Enc.node n)).bulk x.cases c hc
    rw [cas_bulk] at h2
    omega
theorem sayN_len {C : Nat} {s : SetV} {f : ByteArray → Option ArgV} (hC : 400 ≤ C) (hf : ArgIn C f) : (n : Nat) → (m : List (Nd n)) → (mark : DecV) → GoodN n m → TextN C n m → (sayN s f n m mark).1.length ≤ costN C n m
  | 0, _, _, _, _ => Nat.zero_le _
  | n + 1, m, mark, hg, ht => sayL_len (m : List (NdF (Nd n))) fun x hx =>
    oneO_len hC (ht x hx).1 hf (hg x hx) fun c hc hk d => sayN_len hC hf n c.2 d ((hg x hx).2 hk |>.2 c hc) ((ht x hx).2 c hc)
end Go.Proofs.YtjdfpoppimcikaaGreatDoor
