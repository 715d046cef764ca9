/- Messages that a call made and writes into: a text, a body. -/
import Derived.Test.YtjdfpoppimcikaaGreatDoorNamesB
import Derived.Test.YtjdfpoppimcikaaGreatDoorTrim
import Derived.BigQuiet
import Derived.Deep.QuietTactic
import Derived.Test.YtjdfpoppimcikaaGreatDoorMsgB
namespace Go.Proofs.YtjdfpoppimcikaaGreatDoor
open Go.RowKit

theorem below_undrewC {B : Nat} {w w' : World} (h : Below B w.drew w') : Below B w w' := ⟨h.os, h.tape, h.output, h.size, h.block⟩
theorem own_at {W : World} {base : Nat} {e : TypeId} {size : Nat} {A : Option Addr} {n c : Nat} {xs : List Value} (h : W.ownsRow base e size (.slice A n c) n xs) (k : Nat) (hk : k < n * size) :
    ∃ g, A = some ⟨g, 0, none⟩ ∧ base ≤ g ∧ g < W.heap.size ∧ W.cell? ⟨g, k, none⟩ = xs[k]? ∧ W.frozen? ⟨g, k, none⟩ = false := by
  obtain ⟨hlen, ⟨_, h0⟩ | ⟨g, cap, cur, hv, hb, hh, hc, hm, hcs, ht⟩⟩ := h
  · subst h0; omega
  · injection hv with hv1 _ hv3
    refine ⟨g, hv1, hb, Blk.lt (t := e) (cs := cur) hh, ?_, Blk.frozen (t := e) (cs := cur) hh k⟩
    rw [Blk.cell (t := e) (cs := cur) hh k, ← ht, List.getElem?_take, if_pos hk, Array.getElem?_toList]
section
variable {β : Type}
theorem flatC_set : ∀ (l : List (CB β)) (k : Nat) (h : k < l.length) (c : CB β), c.key = l[k].key → flatC (l.set k c) = (flatC l).set (k * 2 + 1) c.u
  | [], k, h, _, _ => by cases h
  | p :: l, 0, _, c, hc => by
    have hc : c.key = p.key := hc
    show CB.row c ++ flatC l = (CB.row p ++ flatC l).set 1 c.u
    simp [CB.row, hc]
  | p :: l, k + 1, h, c, hc => by
    have ih := flatC_set l k (by simpa using h) c hc
    show CB.row p ++ flatC (l.set k c) = (CB.row p ++ flatC l).set ((k + 1) * 2 + 1) c.u
    rw [ih, show (k + 1) * 2 + 1 = (k * 2 + 1) + 1 + 1 from by omega]
    simp [CB.row]
theorem flatM_text : ∀ (l : List (CN β)) (i : Nat) (h : i < l.length) (t : ByteArray), flatM (l.set i { l[i] with text := t }) = (flatM l).set (i * 4 + 1) (.string t)
  | [], i, h, _ => by cases h
  | p :: l, 0, _, t => by
    show CN.row { p with text := t } ++ flatM l = (CN.row p ++ flatM l).set 1 (.string t)
    simp [CN.row]
  | p :: l, i + 1, h, t => by
    have ih := flatM_text l i (by simpa using h) t
    show CN.row p ++ flatM (l.set i { (l[i]'(by simpa using h)) with text := t }) = (CN.row p ++ flatM l).set ((i + 1) * 4 + 1) (.string t)
    rw [ih, show (i + 1) * 4 + 1 = (i * 4 + 1) + 1 + 1 + 1 + 1 from by omega]
    simp [CN.row]
theorem flatM_same : ∀ (l : List (CN β)) (i : Nat) (h : i < l.length) (y : CN β), y.row = l[i].row → flatM (l.set i y) = flatM l
  | [], i, h, _, _ => by cases h
  | p :: l, 0, _, y, hy => by
    have hy : y.row = p.row := hy
    show CN.row y ++ flatM l = CN.row p ++ flatM l
    rw [hy]
  | p :: l, i + 1, h, y, hy => by
    have ih := flatM_same l i (by simpa using h) y hy
    show CN.row p ++ flatM (l.set i y) = CN.row p ++ flatM l
    rw [ih]
theorem pair_set (l : List (CN β)) (i : Nat) (h : i < l.length) (y : CN β) (hy : y.v = l[i].v) (hp : l.Pairwise fun x y => ∀ r, x.v.ownBlock = some r → y.v.ownBlock ≠ some r) :
    (l.set i y).Pairwise fun x y => ∀ r, x.v.ownBlock = some r → y.v.ownBlock ≠ some r := by
  rw [List.pairwise_iff_getElem] at hp ⊢
  have hv : ∀ j (hj : j < (l.set i y).length), ((l.set i y)[j]).v = (l[j]'(by simpa using hj)).v := fun j hj => by
    rw [List.getElem_set]
    split
    · rename_i e; subst e; exact hy
    · rfl
  intro a b ha hb hab r h1
  rw [hv] at h1 ⊢
  exact hp a b (by simpa using ha) (by simpa using hb) hab r h1
theorem pair_ne (l : List (CN β)) (hp : l.Pairwise fun x y => ∀ r, x.v.ownBlock = some r → y.v.ownBlock ≠ some r) {i j : Nat} (hi : i < l.length) (hj : j < l.length) (hne : i ≠ j) {r : Nat} (h : l[i].v.ownBlock = some r) : l[j].v.ownBlock ≠ some r := by
  rw [List.pairwise_iff_getElem] at hp
  rcases Nat.lt_or_ge i j with hlt | hge
  · exact hp i j hi hj hlt r h
  · intro h2
    exact hp j i hj hi (by omega) r h2 h
theorem mem_set_at {α : Type} {l : List α} {i : Nat} {y x : α} (h : x ∈ l.set i y) : (x = y ∧ i < l.length) ∨ ∃ j, ∃ hj : j < l.length, j ≠ i ∧ x = l[j] := by
  obtain ⟨j, hj, rfl⟩ := List.getElem_of_mem h
  rw [List.getElem_set]
  have hj' : j < l.length := by simpa using hj
  split
  · rename_i e; subst e; exact .inl ⟨rfl, hj'⟩
  · rename_i e; exact .inr ⟨j, hj', fun h => e h.symm, rfl⟩
theorem Sep.setText {E : Enc β} (hE : E.Laws) {base g n c : Nat} {W : World} {xs : List (CN β)} (h : Sep E base W (.slice (some ⟨g, 0, none⟩) n c) xs) (i : Nat) (hi : i < xs.length) (t : ByteArray) :
    Sep E base (W.setCell ⟨g, i * 4 + 1, none⟩ (.string t)) (.slice (some ⟨g, 0, none⟩) n c) (xs.set i { xs[i] with text := t }) := by
  have hn : n = xs.length := by
    obtain ⟨A, cap, hv, _⟩ := own_slice h.row
    injection hv
  subst hn
  have hg : ∀ (k : Nat), k ≠ g → (W.setCell ⟨g, i * 4 + 1, none⟩ (.string t)).heap[k]? = W.heap[k]? := fun k hk => Below.heap_setCell _ _ _ _ (by exact hk)
  have hs : (W.setCell ⟨g, i * 4 + 1, none⟩ (.string t)).heap.size = W.heap.size := by simp [World.setCell]
  have hold : ∀ x ∈ xs, (W.setCell ⟨g, i * 4 + 1, none⟩ (.string t)).ownsRow base 76 2 x.v x.bods.length (flatC x.bods) := fun x hx =>
    own_keep (h.cas x hx) fun k hk _ => hg k fun e => own_type h.row (h.cas x hx) (by decide) rfl (by rw [hk, e])
  have hbod : ∀ x ∈ xs, ∀ b ∈ x.bods, BodOk E base (W.setCell ⟨g, i * 4 + 1, none⟩ (.string t)) b ∧ away (.slice (some ⟨g, 0, none⟩) xs.length c) b.s b.e ∧ ∀ y ∈ xs, away y.v b.s b.e := fun x hx b hb => by
    obtain ⟨k1, k2, k3⟩ := h.bod x hx b hb
    refine ⟨k1.keep hE (fun k h1 h2 => hg k fun e => ?_) (by rw [hs]; exact Nat.le_refl _), k2, k3⟩
    have := k2 g rfl
    omega
  have hmem : ∀ {x : CN β}, x ∈ xs.set i { xs[i] with text := t } → ∃ y ∈ xs, y.v = x.v ∧ y.bods = x.bods := fun {x} hx => by
    rcases mem_set_at hx with ⟨rfl, _⟩ | ⟨j, hj, _, rfl⟩
    · exact ⟨_, List.getElem_mem hi, rfl, rfl⟩
    · exact ⟨_, List.getElem_mem hj, rfl, rfl⟩
  refine ⟨?_, fun x hx => ?_, pair_set xs i hi _ rfl h.apart, fun x hx b hb => ?_⟩
  · rw [flatM_text xs i hi t, List.length_set]
    exact own_setN h.row (i * 4 + 1) _ (by omega)
  · obtain ⟨y, hy, e1, e2⟩ := hmem hx
    rw [← e1, ← e2]
    exact hold y hy
  · obtain ⟨y, hy, e1, e2⟩ := hmem hx
    obtain ⟨k1, k2, k3⟩ := hbod y hy b (by rw [e2]; exact hb)
    refine ⟨k1, k2, fun z hz => ?_⟩
    obtain ⟨z', hz', f1, _⟩ := hmem hz
    rw [← f1]
    exact k3 z' hz'
theorem Sep.setBody {E : Enc β} (hE : E.Laws) {base r n c : Nat} {W : World} {out : Value} {xs : List (CN β)} (h : Sep E base W out xs) (i : Nat) (hi : i < xs.length) (hv : xs[i].v = .slice (some ⟨r, 0, none⟩) n c)
    (k : Nat) (hk : k < xs[i].bods.length) (b : CB β) (hkey : b.key = xs[i].bods[k].key) (hb : BodOk E base W b) (ho : away out b.s b.e) (hy : ∀ y ∈ xs, away y.v b.s b.e) :
    Sep E base (W.setCell ⟨r, k * 2 + 1, none⟩ b.u) out (xs.set i { xs[i] with bods := xs[i].bods.set k b }) := by
  have hi' := List.getElem_mem hi
  have hg : ∀ (q : Nat), q ≠ r → (W.setCell ⟨r, k * 2 + 1, none⟩ b.u).heap[q]? = W.heap[q]? := fun q hq => Below.heap_setCell _ _ _ _ (by exact hq)
  have hs : (W.setCell ⟨r, k * 2 + 1, none⟩ b.u).heap.size = W.heap.size := by simp [World.setCell]
  have hvb : xs[i].v.ownBlock = some r := by rw [hv]; rfl
  have hn : n = xs[i].bods.length := by
    obtain ⟨A, cap, hv', _⟩ := own_slice (h.cas _ hi')
    rw [hv] at hv'
    injection hv'
  subst hn
  have hkeep : ∀ b : CB β, BodOk E base W b → away xs[i].v b.s b.e → BodOk E base (W.setCell ⟨r, k * 2 + 1, none⟩ b.u) b := fun b h1 h2 => by
    refine h1.keep hE (fun q p1 p2 => Below.heap_setCell _ _ _ _ fun e => ?_) (by simp [World.setCell])
    have e : q = r := e
    have := h2 r hvb
    omega
  have hkeep : ∀ d : CB β, BodOk E base W d → away xs[i].v d.s d.e → BodOk E base (W.setCell ⟨r, k * 2 + 1, none⟩ b.u) d := fun d h1 h2 => by
    refine h1.keep hE (fun q p1 p2 => Below.heap_setCell _ _ _ _ fun e => ?_) (by simp [World.setCell])
    have e : q = r := e
    have := h2 r hvb
    omega
  have hmv : ∀ {z : CN β}, z ∈ xs.set i { xs[i] with bods := xs[i].bods.set k b } → ∃ y ∈ xs, y.v = z.v := fun {z} hz => by
    rcases mem_set_at hz with ⟨rfl, _⟩ | ⟨j, hj, _, rfl⟩
    · exact ⟨_, hi', rfl⟩
    · exact ⟨_, List.getElem_mem hj, rfl⟩
  have hb3 : ∀ d : CB β, (∀ y ∈ xs, away y.v d.s d.e) → ∀ z ∈ xs.set i { xs[i] with bods := xs[i].bods.set k b }, away z.v d.s d.e := fun d hd z hz => by
    obtain ⟨y, hy', e⟩ := hmv hz
    rw [← e]
    exact hd y hy'
  refine ⟨?_, fun x hx => ?_, pair_set xs i hi _ rfl h.apart, fun x hx d hd => ?_⟩
  · rw [flatM_same xs i hi { xs[i] with bods := xs[i].bods.set k b } rfl, List.length_set]
    exact own_keep h.row fun q hq _ => hg q fun e => own_type (h.cas _ hi') h.row (by decide) hvb (by rw [hq, e])
  · rcases mem_set_at hx with ⟨rfl, _⟩ | ⟨j, hj, hne, rfl⟩
    · show (W.setCell ⟨r, k * 2 + 1, none⟩ b.u).ownsRow base 76 2 xs[i].v (xs[i].bods.set k b).length (flatC (xs[i].bods.set k b))
      rw [flatC_set _ k hk b hkey, List.length_set, hv]
      have h1 := h.cas _ hi'
      rw [hv] at h1
      exact own_setN h1 (k * 2 + 1) _ (by omega)
    · exact own_keep (h.cas _ (List.getElem_mem hj)) fun q hq _ => hg q fun e => pair_ne xs h.apart hi hj (fun e => hne e.symm) hvb (by rw [hq, e])
  · rcases mem_set_at hx with ⟨rfl, _⟩ | ⟨j, hj, hne, rfl⟩
    · rcases mem_set_at hd with ⟨rfl, _⟩ | ⟨q, hq, _, rfl⟩
      · exact ⟨hkeep d hb (hy _ hi'), ho, hb3 d hy⟩
      · obtain ⟨k1, k2, k3⟩ := h.bod _ hi' _ (List.getElem_mem hq)
        exact ⟨hkeep _ k1 (k3 _ hi'), k2, hb3 _ k3⟩
    · obtain ⟨k1, k2, k3⟩ := h.bod _ (List.getElem_mem hj) d hd
      exact ⟨hkeep _ k1 (k3 _ hi'), k2, hb3 _ k3⟩
end
end Go.Proofs.YtjdfpoppimcikaaGreatDoor
/- Small functions over lists of strings: is one among them; are two lists alike. -/

namespace Go.Proofs.YtjdfpoppimcikaaGreatDoor
open Go.RowKit

theorem eq_of_all {α : Type} {a b : List α} (hl : a.length = b.length) (h : ∀ q (h1 : q < a.length) (h2 : q < b.length), a[q] = b[q]) : a = b :=
  List.ext_getElem hl fun q h1 h2 => h q h1 h2

end Go.Proofs.YtjdfpoppimcikaaGreatDoor
/- linguisterref1.Only (as in RefA, for a seat that has no tags). -/

namespace Go.Proofs.YtjdfpoppimcikaaGreatDoor
open Go.RowKit

theorem bts_get (s : ByteArray) (q : Nat) (h : q < s.size) : (bts s)[q]'(by rw [bts_len]; exact h) = s[q] := by
  cases s with
  | mk d => exact Array.getElem_toList (xs := d) h
theorem all_bts (p : UInt8 → Bool) (s : ByteArray) (h : ∀ q (h : q < s.size), p s[q] = true) : (bts s).all p = true := by
  rw [List.all_eq_true]
  intro x hx
  obtain ⟨q, hq, rfl⟩ := List.getElem_of_mem hx
  rw [bts_len] at hq
  rw [bts_get s q hq]
  exact h q hq
theorem not_all_bts (p : UInt8 → Bool) (s : ByteArray) (j : Nat) (hj : j < s.size) (h : p s[j] = false) : (bts s).all p = false := by
  rw [← Bool.not_eq_true, List.all_eq_true]
  intro hx
  have := hx _ (List.getElem_mem (l := bts s) (n := j) (by rw [bts_len]; exact hj))
  rw [bts_get s j hj, h] at this
  cases this
/-- A function value that says of a byte what p says. -/
def Says (f : FuncId) (p : UInt8 → Bool) : Prop := ∀ (c : UInt8) (w : World), Calls Tryz.prog f #[.int .u8 c.toNat] w fun e w' => e = .returned (.bool (p c)) ∧ w = w'
set_option maxHeartbeats 400000 in
def onlyB (s o : ByteArray) (a b : Nat) : Bool := (bts s).all (fun c => (bts o).contains c) && (decide (a ≤ s.size) && decide (s.size ≤ b))
theorem take_contains (o : ByteArray) (c : UInt8) (k : Nat) (hk : k < o.size) : ((bts o).take (k + 1)).contains c = (((bts o).take k).contains c || (c == o[k])) := by
  have hk' : k < (bts o).length := by rw [bts_len]; exact hk
  rw [List.take_add_one, List.getElem?_eq_getElem hk', bts_get o k hk, List.contains_eq_any_beq, List.any_append, List.contains_eq_any_beq]
  simp
theorem all_at (p : UInt8 → Bool) (s : ByteArray) (j : Nat) (hj : j < s.size) (h : ((bts s).take j).all p = true) : ((bts s).take (j + 1)).all p = p s[j] := by
  have hj' : j < (bts s).length := by rw [bts_len]; exact hj
  rw [List.take_add_one, List.getElem?_eq_getElem hj', bts_get s j hj, List.all_append, h]
  simp
theorem not_all_at (p : UInt8 → Bool) (s : ByteArray) (j : Nat) (hj : j < s.size) (h : p s[j] = false) : (bts s).all p = false := not_all_bts p s j hj h
theorem u8_eq (c d : UInt8) : (c == d) = decide ((c.toNat : Int) = (d.toNat : Int)) := by
  rw [Bool.eq_iff_iff, beq_iff_eq, decide_eq_true_eq]
  refine ⟨fun h => by rw [h], fun h => ?_⟩
  exact UInt8.toNat_inj.1 (by omega)
end Go.Proofs.YtjdfpoppimcikaaGreatDoor
/- Names and exact keys as the document has them are the code's: plainly. -/

namespace Go.Proofs.YtjdfpoppimcikaaGreatDoor
open Go.RowKit

/- ## Names -/
def lowAlpha : ByteArray := ⟨#[97, 98, 99, 100, 101, 102, 103, 104, 105, 106, 107, 108, 109, 110, 111, 112, 113, 114, 115, 116, 117, 118, 119, 120, 121, 122]⟩
def nameQ (s : ByteArray) : Bool := onlyB s nameChars 1 20 && onlyB (s.extract 0 1) lowAlpha 1 1
theorem dropWhile_nil {α : Type} (p : α → Bool) : ∀ l : List α, l.dropWhile p = [] ↔ l.all p = true
  | [] => by simp
  | a :: l => by
    rw [List.dropWhile_cons, List.all_cons]
    cases h : p a with
    | true => simp [dropWhile_nil p l]
    | false => simp
theorem dropWhile_head {α : Type} (p : α → Bool) : ∀ (l : List α), (l.dropWhile p).all p = true → l.dropWhile p = []
  | [], _ => rfl
  | a :: l, h => by
    rw [List.dropWhile_cons] at h ⊢
    cases hp : p a with
    | true => rw [hp] at h; simp only [if_true] at h ⊢; exact dropWhile_head p l h
    | false => rw [hp] at h; simp [hp] at h
theorem trimN_nil (l cs : List UInt8) : Lib.trimS l cs = [] ↔ l.all (cs.contains ·) = true := by
  unfold Lib.trimS Lib.trimLeftS Lib.trimRightS
  rw [dropWhile_nil, List.all_reverse]
  constructor
  · intro h
    have h1 := dropWhile_head _ _ h
    rw [dropWhile_nil, List.all_reverse] at h1
    exact h1
  · intro h
    have h1 : l.reverse.dropWhile (cs.contains ·) = [] := by rw [dropWhile_nil, List.all_reverse]; exact h
    rw [h1]; rfl
theorem extract_one (s : ByteArray) (h : 0 < s.size) : bts (s.extract 0 1) = [(bts s).headD 0] := by
  unfold bts
  rw [ByteArray.data_extract, Array.toList_extract]
  obtain ⟨⟨l⟩⟩ := s
  cases l with
  | nil => exact absurd h (by decide)
  | cons a l => simp [List.extract]
theorem idxByte (l : List UInt8) (c : UInt8) : decide (0 ≤ Lib.indexByte l c) = l.contains c := by
  rw [Bool.eq_iff_iff, decide_eq_true_eq, List.contains_iff_mem]
  have hge := Lib.indexByte_ge l c
  constructor
  · intro h
    obtain ⟨o, ho⟩ := Int.eq_ofNat_of_zero_le h
    exact List.mem_of_getElem? (Lib.indexByte_some ho).1
  · intro h
    rcases Int.lt_or_le (Lib.indexByte l c) 0 with h1 | h1
    · obtain ⟨k, hk, he⟩ := List.getElem_of_mem h
      exact absurd (by rw [List.getElem?_eq_getElem hk, he]) (Lib.indexByte_none (show Lib.indexByte l c = -1 by omega) k)
    · exact h1
theorem nameQ_eq (s : ByteArray) : nameQ s = nameR s := by
  unfold nameQ nameR onlyB
  by_cases h0 : s.size = 0
  · obtain rfl : s = ByteArray.empty := ByteArray.size_eq_zero_iff.1 h0
    decide +kernel
  have hp : 0 < s.size := by omega
  have hs : (s.extract 0 1).size = 1 := by
    have h1 := congrArg List.length (extract_one s hp)
    rw [bts_len] at h1
    exact h1
  rw [extract_one s hp, hs]
  have ht : (trimName s).toList.isEmpty = (bts s).all (fun c => (bts nameChars).contains c) := by
    rw [Bool.eq_iff_iff, List.isEmpty_iff, ← trimN_nil]
    unfold trimName
    rw [ByteArray.toList_eq]
    rfl
  have h1 : (s.size == 0) = false := by rw [beq_eq_false_iff_ne]; exact h0
  have h2 : decide (0 ≤ headOf s) = (bts lowAlpha).contains ((bts s).headD 0) := idxByte _ _
  rw [ht, h1, h2]
  have h3 : decide (1 ≤ s.size) = true := decide_eq_true hp
  rw [h3]
  simp only [List.all_cons, List.all_nil, Bool.and_true, Bool.not_false, Bool.true_and]
  cases (bts s).all (fun c => (bts nameChars).contains c) <;> cases decide (s.size ≤ 20) <;> simp

/- ## Numbers of three digits at most -/
def dg3 (n : Nat) : List UInt8 :=
  if n < 10 then [UInt8.ofNat (48 + n)] else if n < 100 then [UInt8.ofNat (48 + n / 10), UInt8.ofNat (48 + n % 10)] else [UInt8.ofNat (48 + n / 100), UInt8.ofNat (48 + n / 10 % 10), UInt8.ofNat (48 + n % 10)]
def isDg (c : UInt8) : Bool := decide (48 ≤ c.toNat) && decide (c.toNat ≤ 57)
def numL (l : List UInt8) : Nat := l.foldl (fun a c => 10 * a + (c.toNat - 48)) 0
def refNum (l : List UInt8) : Int := if l = [] then -1 else if l.all isDg = true then (if dg3 (numL l) = l then (numL l : Int) else -1) else -1
theorem dec_dg3 (n : Nat) (h : n < 1000) : Lib.decDigits n = dg3 n := by
  unfold dg3
  by_cases h1 : n < 10
  · rw [if_pos h1, Lib.decDigits_one h1]
  · by_cases h2 : n < 100
    · rw [if_neg h1, if_pos h2, Lib.decDigits_two h1 h2]
    · rw [if_neg h1, if_neg h2, Lib.decDigits, dif_neg h1]
      have e1 : n / 10 / 10 = n / 100 := by omega
      rw [Lib.decDigits_two (by omega) (by omega), e1]
      rfl
theorem itoa_dg3 (n : Nat) (h : n < 1000) : Lib.itoa (n : Int) = dg3 n := by
  unfold Lib.itoa
  rw [if_neg (by omega), Int.toNat_natCast]
  exact dec_dg3 n h
set_option maxRecDepth 100000 in
theorem atoi_dg3 : ∀ n : Fin 1000, atoiO (dg3 n.val) = some (n.val : Int) := by decide +kernel
set_option maxRecDepth 100000 in
theorem ref_dg3 : ∀ n : Fin 1000, refNum (dg3 n.val) = (n.val : Int) ∧ (dg3 n.val).length ≤ 3 := by decide +kernel
theorem numL_lt (l : List UInt8) (hl : l.length ≤ 3) (hd : l.all isDg = true) : numL l < 1000 := by
  have key : ∀ c, isDg c = true → c.toNat - 48 ≤ 9 := fun c h => by
    unfold isDg at h; simp at h; omega
  rw [List.all_eq_true] at hd
  match l, hl with
  | [], _ => decide
  | [a], _ => have := key a (hd a (by simp)); simp only [numL, List.foldl]; omega
  | [a, b], _ => have := key a (hd a (by simp)); have := key b (hd b (by simp)); simp only [numL, List.foldl]; omega
  | [a, b, c], _ => have := key a (hd a (by simp)); have := key b (hd b (by simp)); have := key c (hd c (by simp)); simp only [numL, List.foldl]; omega
theorem refNum_iff (l : List UInt8) (hl : l.length ≤ 3) : 0 ≤ refNum l ↔ ∃ n, n < 1000 ∧ l = dg3 n := by
  constructor
  · intro h
    unfold refNum at h
    split at h
    · omega
    · split at h
      · rename_i hd
        split at h
        · rename_i he
          exact ⟨numL l, numL_lt l hl hd, he.symm⟩
        · omega
      · omega
  · rintro ⟨n, hn, rfl⟩
    have := (ref_dg3 ⟨n, hn⟩).1
    dsimp only at this
    omega

/- ## Exact keys -/
def tailB (s : ByteArray) : List UInt8 := (bts s).drop 1
def headQ (s : ByteArray) (c : UInt8) : Bool := match bts s with | x :: _ => x == c | [] => false
def exactQ (s : ByteArray) : Int := if headQ s 61 = false then -1 else if 4 < s.size then -1 else refNum (tailB s)
theorem isE_head (s : ByteArray) : isE s = headQ s 61 := by
  unfold isE headQ Lib.hasPrefix bts
  cases s.data.toList with
  | nil => rfl
  | cons a l =>
    show ((61 : UInt8) == a && List.isPrefixOf [] l) = (a == 61)
    rw [show List.isPrefixOf [] l = true from by cases l <;> rfl, Bool.and_true, Bool.eq_iff_iff, beq_iff_eq, beq_iff_eq]
    exact eq_comm
theorem restE_tail (s : ByteArray) (h : isE s = true) : bts (restE s) = tailB s := by
  unfold restE tailB
  show Lib.trimPrefix s.data.toList [61] = _
  unfold Lib.trimPrefix
  unfold isE at h
  rw [if_pos h]
  rfl
theorem exact_iff (s : ByteArray) : 0 ≤ exactR s ↔ isE s = true ∧ ∃ n, n < 1000 ∧ tailB s = dg3 n := by
  unfold exactR
  cases he : isE s with
  | false => simp
  | true =>
    rw [if_neg (by simp), restE_tail s he]
    constructor
    · intro h
      refine ⟨rfl, ?_⟩
      split at h
      · omega
      · rename_i n hn
        split at h
        · omega
        · split at h
          · omega
          · split at h
            · rename_i h1 h2 h3
              obtain ⟨k, rfl⟩ := Int.eq_ofNat_of_zero_le (show 0 ≤ n by omega)
              refine ⟨k, by omega, ?_⟩
              rw [beq_iff_eq, ByteArray.toList_eq, ByteArray.toList_eq] at h3
              have h4 : Lib.itoa (k : Int) = bts (restE s) := h3
              rw [itoa_dg3 k (by omega), restE_tail s he] at h4
              exact h4.symm
            · omega
    · rintro ⟨_, n, hn, ht⟩
      rw [ht]
      have h1 := atoi_dg3 ⟨n, hn⟩
      dsimp only at h1
      rw [h1]
      dsimp only
      rw [if_neg (by omega), if_neg (by omega), if_pos ?_]
      · omega
      · rw [beq_iff_eq, ByteArray.toList_eq, ByteArray.toList_eq]
        show Lib.itoa (n : Int) = bts (restE s)
        rw [itoa_dg3 n hn, restE_tail s he, ht]
theorem exactQ_iff (s : ByteArray) : 0 ≤ exactQ s ↔ 0 ≤ exactR s := by
  rw [exact_iff]
  unfold exactQ
  rw [isE_head]
  cases he : headQ s 61 with
  | false => simp
  | true =>
    rw [if_neg (by simp)]
    have hlen : (tailB s).length = s.size - 1 := by unfold tailB; rw [List.length_drop, bts_len]
    by_cases h4 : 4 < s.size
    · rw [if_pos h4]
      constructor
      · intro h; omega
      · rintro ⟨_, n, hn, ht⟩
        have := (ref_dg3 ⟨n, hn⟩).2
        dsimp only at this
        rw [← ht, hlen] at this
        omega
    · rw [if_neg h4, refNum_iff _ (by omega)]
      simp
theorem exactQ_lt (s : ByteArray) : decide (exactQ s < 0) = !decide (0 ≤ exactR s) := by
  have h := exactQ_iff s
  rw [Bool.eq_iff_iff, Bool.not_eq_true', decide_eq_true_eq, decide_eq_false_iff_not, ← h]
  omega
def kinds5 : List ByteArray := [⟨#[122, 101, 114, 111]⟩, ⟨#[111, 110, 101]⟩, ⟨#[116, 119, 111]⟩, ⟨#[102, 101, 119]⟩, ⟨#[109, 97, 110, 121]⟩]
def otherK : ByteArray := ⟨#[111, 116, 104, 101, 114]⟩
theorem keyM_eq (kind : Int) (k : ByteArray) : (!keyM kind k) = if kind = 5 then !nameQ k else ((!eqs k otherK && !(kinds5.any (eqs · k))) && decide (exactQ k < 0)) := by
  unfold keyM
  by_cases h5 : kind = 5
  · rw [if_pos h5, if_pos h5, nameQ_eq]
  · rw [if_neg h5, if_neg h5, exactQ_lt]
    have e : kindsB = kinds5 ++ [otherK] := rfl
    have e2 : eqs otherK k = eqs k otherK := by
      rw [Bool.eq_iff_iff, eqs_iff, eqs_iff]; exact eq_comm
    rw [e, List.any_append, List.any_cons, List.any_nil, Bool.or_false, e2]
    cases eqs k otherK <;> cases kinds5.any (eqs · k) <;> cases decide (0 ≤ exactR k) <;> rfl
end Go.Proofs.YtjdfpoppimcikaaGreatDoor
