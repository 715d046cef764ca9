/- Messages that a call made and writes into: a text, a body. -/
import Derived.Test.YtjdfpoppimcikaaGreatDoorNamesB
import Derived.Test.YtjdfpoppimcikaaGreatDoorSeqT
import Derived.Test.YtjdfpoppimcikaaGreatDoorNodeE
import Derived.Laws.IdiomCopy
import Derived.Laws.IdiomStrings
namespace Go.Proofs.YtjdfpoppimcikaaGreatDoor
open Go.RowKit

theorem below_undrewC {B : Nat} {w w' : World} (h : Below B w.drew w') : Below B w w' := ⟨h.os, h.tape, h.output, h.size, h.block⟩
theorem own_at {W : World} {base : Nat} {e : TypeId} {size : Nat} {A : Option Addr} {n c : Nat} {xs : List Value} (h : W.ownsRow base e size (.slice A n c) n xs) (k : Nat) (hk : k < n * size) :
    ∃ g, A = some ⟨g, 0, none⟩ ∧ base ≤ g ∧ g < W.heap.size ∧ W.cell? ⟨g, k, none⟩ = xs[k]? ∧ W.frozen? ⟨g, k, none⟩ = false := by
  obtain ⟨hlen, ⟨_, h0⟩ | ⟨g, cap, cur, hv, hb, hh, hc, hm, hcs, ht⟩⟩ := h
  · subst h0; omega
  · injection hv with hv1 _ hv3
    refine ⟨g, hv1, hb, Blk.lt (t := e) (cs := cur) hh, ?_, Blk.frozen (t := e) (cs := cur) hh k⟩
    rw [Blk.cell (t := e) (cs := cur) hh k, ← ht, List.getElem?_take, if_pos hk, Array.getElem?_toList]
section
variable {β : Type}
theorem flatC_set : ∀ (l : List (CB β)) (k : Nat) (h : k < l.length) (c : CB β), c.key = l[k].key → flatC (l.set k c) = (flatC l).set (k * 2 + 1) c.u
  | [], k, h, _, _ => by cases h
  | p :: l, 0, _, c, hc => by
    have hc : c.key = p.key := hc
    show CB.row c ++ flatC l = (CB.row p ++ flatC l).set 1 c.u
    simp [CB.row, hc]
  | p :: l, k + 1, h, c, hc => by
    have ih := flatC_set l k (by simpa using h) c hc
    show CB.row p ++ flatC (l.set k c) = (CB.row p ++ flatC l).set ((k + 1) * 2 + 1) c.u
    rw [ih, show (k + 1) * 2 + 1 = (k * 2 + 1) + 1 + 1 from by omega]
    simp [CB.row]
theorem flatM_text : ∀ (l : List (CN β)) (i : Nat) (h : i < l.length) (t : ByteArray), flatM (l.set i { l[i] with text := t }) = (flatM l).set (i * 4 + 1) (.string t)
  | [], i, h, _ => by cases h
  | p :: l, 0, _, t => by
    show CN.row { p with text := t } ++ flatM l = (CN.row p ++ flatM l).set 1 (.string t)
    simp [CN.row]
  | p :: l, i + 1, h, t => by
    have ih := flatM_text l i (by simpa using h) t
    show CN.row p ++ flatM (l.set i { (l[i]'(by simpa using h)) with text := t }) = (CN.row p ++ flatM l).set ((i + 1) * 4 + 1) (.string t)
    rw [ih, show (i + 1) * 4 + 1 = (i * 4 + 1) + 1 + 1 + 1 + 1 from by omega]
    simp [CN.row]
theorem flatM_same : ∀ (l : List (CN β)) (i : Nat) (h : i < l.length) (y : CN β), y.row = l[i].row → flatM (l.set i y) = flatM l
  | [], i, h, _, _ => by cases h
  | p :: l, 0, _, y, hy => by
    have hy : y.row = p.row := hy
    show CN.row y ++ flatM l = CN.row p ++ flatM l
    rw [hy]
  | p :: l, i + 1, h, y, hy => by
    have ih := flatM_same l i (by simpa using h) y hy
    show CN.row p ++ flatM (l.set i y) = CN.row p ++ flatM l
    rw [ih]
theorem pair_set (l : List (CN β)) (i : Nat) (h : i < l.length) (y : CN β) (hy : y.v = l[i].v) (hp : l.Pairwise fun x y => ∀ r, x.v.ownBlock = some r → y.v.ownBlock ≠ some r) :
    (l.set i y).Pairwise fun x y => ∀ r, x.v.ownBlock = some r → y.v.ownBlock ≠ some r := by
  rw [List.pairwise_iff_getElem] at hp ⊢
  have hv : ∀ j (hj : j < (l.set i y).length), ((l.set i y)[j]).v = (l[j]'(by simpa using hj)).v := fun j hj => by
    rw [List.getElem_set]
    split
    · rename_i e; subst e; exact hy
    · rfl
  intro a b ha hb hab r h1
  rw [hv] at h1 ⊢
  exact hp a b (by simpa using ha) (by simpa using hb) hab r h1
theorem pair_ne (l : List (CN β)) (hp : l.Pairwise fun x y => ∀ r, x.v.ownBlock = some r → y.v.ownBlock ≠ some r) {i j : Nat} (hi : i < l.length) (hj : j < l.length) (hne : i ≠ j) {r : Nat} (h : l[i].v.ownBlock = some r) : l[j].v.ownBlock ≠ some r := by
  rw [List.pairwise_iff_getElem] at hp
  rcases Nat.lt_or_ge i j with hlt | hge
  · exact hp i j hi hj hlt r h
  · intro h2
    exact hp j i hj hi (by omega) r h2 h
theorem mem_set_at {α : Type} {l : List α} {i : Nat} {y x : α} (h : x ∈ l.set i y) : (x = y ∧ i < l.length) ∨ ∃ j, ∃ hj : j < l.length, j ≠ i ∧ x = l[j] := by
  obtain ⟨j, hj, rfl⟩ := List.getElem_of_mem h
  rw [List.getElem_set]
  have hj' : j < l.length := by simpa using hj
  split
  · rename_i e; subst e; exact .inl ⟨rfl, hj'⟩
  · rename_i e; exact .inr ⟨j, hj', fun h => e h.symm, rfl⟩
theorem Sep.setText {E : Enc β} (hE : E.Laws) {base g n c : Nat} {W : World} {xs : List (CN β)} (h : Sep E base W (.slice (some ⟨g, 0, none⟩) n c) xs) (i : Nat) (hi : i < xs.length) (t : ByteArray) :
    Sep E base (W.setCell ⟨g, i * 4 + 1, none⟩ (.string t)) (.slice (some ⟨g, 0, none⟩) n c) (xs.set i { xs[i] with text := t }) := by
  have hn : n = xs.length := by
    obtain ⟨A, cap, hv, _⟩ := own_slice h.row
    injection hv
  subst hn
  have hg : ∀ (k : Nat), k ≠ g → (W.setCell ⟨g, i * 4 + 1, none⟩ (.string t)).heap[k]? = W.heap[k]? := fun k hk => Below.heap_setCell _ _ _ _ (by exact hk)
  have hs : (W.setCell ⟨g, i * 4 + 1, none⟩ (.string t)).heap.size = W.heap.size := by simp [World.setCell]
  have hold : ∀ x ∈ xs, (W.setCell ⟨g, i * 4 + 1, none⟩ (.string t)).ownsRow base 76 2 x.v x.bods.length (flatC x.bods) := fun x hx =>
    own_keep (h.cas x hx) fun k hk _ => hg k fun e => own_type h.row (h.cas x hx) (by decide) rfl (by rw [hk, e])
  have hbod : ∀ x ∈ xs, ∀ b ∈ x.bods, BodOk E base (W.setCell ⟨g, i * 4 + 1, none⟩ (.string t)) b ∧ away (.slice (some ⟨g, 0, none⟩) xs.length c) b.s b.e ∧ ∀ y ∈ xs, away y.v b.s b.e := fun x hx b hb => by
    obtain ⟨k1, k2, k3⟩ := h.bod x hx b hb
    refine ⟨k1.keep hE (fun k h1 h2 => hg k fun e => ?_) (by rw [hs]; exact Nat.le_refl _), k2, k3⟩
    have := k2 g rfl
    omega
  have hmem : ∀ {x : CN β}, x ∈ xs.set i { xs[i] with text := t } → ∃ y ∈ xs, y.v = x.v ∧ y.bods = x.bods := fun {x} hx => by
    rcases mem_set_at hx with ⟨rfl, _⟩ | ⟨j, hj, _, rfl⟩
    · exact ⟨_, List.getElem_mem hi, rfl, rfl⟩
    · exact ⟨_, List.getElem_mem hj, rfl, rfl⟩
  refine ⟨?_, fun x hx => ?_, pair_set xs i hi _ rfl h.apart, fun x hx b hb => ?_⟩
  · rw [flatM_text xs i hi t, List.length_set]
    exact own_setN h.row (i * 4 + 1) _ (by omega)
  · obtain ⟨y, hy, e1, e2⟩ := hmem hx
    rw [← e1, ← e2]
    exact hold y hy
  · obtain ⟨y, hy, e1, e2⟩ := hmem hx
    obtain ⟨k1, k2, k3⟩ := hbod y hy b (by rw [e2]; exact hb)
    refine ⟨k1, k2, fun z hz => ?_⟩
    obtain ⟨z', hz', f1, _⟩ := hmem hz
    rw [← f1]
    exact k3 z' hz'
theorem Sep.setBody {E : Enc β} (hE : E.Laws) {base r n c : Nat} {W : World} {out : Value} {xs : List (CN β)} (h : Sep E base W out xs) (i : Nat) (hi : i < xs.length) (hv : xs[i].v = .slice (some ⟨r, 0, none⟩) n c)
    (k : Nat) (hk : k < xs[i].bods.length) (b : CB β) (hkey : b.key = xs[i].bods[k].key) (hb : BodOk E base W b) (ho : away out b.s b.e) (hy : ∀ y ∈ xs, away y.v b.s b.e) :
    Sep E base (W.setCell ⟨r, k * 2 + 1, none⟩ b.u) out (xs.set i { xs[i] with bods := xs[i].bods.set k b }) := by
  have hi' := List.getElem_mem hi
  have hg : ∀ (q : Nat), q ≠ r → (W.setCell ⟨r, k * 2 + 1, none⟩ b.u).heap[q]? = W.heap[q]? := fun q hq => Below.heap_setCell _ _ _ _ (by exact hq)
  have hs : (W.setCell ⟨r, k * 2 + 1, none⟩ b.u).heap.size = W.heap.size := by simp [World.setCell]
  have hvb : xs[i].v.ownBlock = some r := by rw [hv]; rfl
  have hn : n = xs[i].bods.length := by
    obtain ⟨A, cap, hv', _⟩ := own_slice (h.cas _ hi')
    rw [hv] at hv'
    injection hv'
  subst hn
  have hkeep : ∀ b : CB β, BodOk E base W b → away xs[i].v b.s b.e → BodOk E base (W.setCell ⟨r, k * 2 + 1, none⟩ b.u) b := fun b h1 h2 => by
    refine h1.keep hE (fun q p1 p2 => Below.heap_setCell _ _ _ _ fun e => ?_) (by simp [World.setCell])
    have e : q = r := e
    have := h2 r hvb
    omega
  have hkeep : ∀ d : CB β, BodOk E base W d → away xs[i].v d.s d.e → BodOk E base (W.setCell ⟨r, k * 2 + 1, none⟩ b.u) d := fun d h1 h2 => by
    refine h1.keep hE (fun q p1 p2 => Below.heap_setCell _ _ _ _ fun e => ?_) (by simp [World.setCell])
    have e : q = r := e
    have := h2 r hvb
    omega
  have hmv : ∀ {z : CN β}, z ∈ xs.set i { xs[i] with bods := xs[i].bods.set k b } → ∃ y ∈ xs, y.v = z.v := fun {z} hz => by
    rcases mem_set_at hz with ⟨rfl, _⟩ | ⟨j, hj, _, rfl⟩
    · exact ⟨_, hi', rfl⟩
    · exact ⟨_, List.getElem_mem hj, rfl⟩
  have hb3 : ∀ d : CB β, (∀ y ∈ xs, away y.v d.s d.e) → ∀ z ∈ xs.set i { xs[i] with bods := xs[i].bods.set k b }, away z.v d.s d.e := fun d hd z hz => by
    obtain ⟨y, hy', e⟩ := hmv hz
    rw [← e]
    exact hd y hy'
  refine ⟨?_, fun x hx => ?_, pair_set xs i hi _ rfl h.apart, fun x hx d hd => ?_⟩
  · rw [flatM_same xs i hi { xs[i] with bods := xs[i].bods.set k b } rfl, List.length_set]
    exact own_keep h.row fun q hq _ => hg q fun e => own_type (h.cas _ hi') h.row (by decide) hvb (by rw [hq, e])
  · rcases mem_set_at hx with ⟨rfl, _⟩ | ⟨j, hj, hne, rfl⟩
    · show (W.setCell ⟨r, k * 2 + 1, none⟩ b.u).ownsRow base 76 2 xs[i].v (xs[i].bods.set k b).length (flatC (xs[i].bods.set k b))
      rw [flatC_set _ k hk b hkey, List.length_set, hv]
      have h1 := h.cas _ hi'
      rw [hv] at h1
      exact own_setN h1 (k * 2 + 1) _ (by omega)
    · exact own_keep (h.cas _ (List.getElem_mem hj)) fun q hq _ => hg q fun e => pair_ne xs h.apart hi hj (fun e => hne e.symm) hvb (by rw [hq, e])
  · rcases mem_set_at hx with ⟨rfl, _⟩ | ⟨j, hj, hne, rfl⟩
    · rcases mem_set_at hd with ⟨rfl, _⟩ | ⟨q, hq, _, rfl⟩
      · exact ⟨hkeep d hb (hy _ hi'), ho, hb3 d hy⟩
      · obtain ⟨k1, k2, k3⟩ := h.bod _ hi' _ (List.getElem_mem hq)
        exact ⟨hkeep _ k1 (k3 _ hi'), k2, hb3 _ k3⟩
    · obtain ⟨k1, k2, k3⟩ := h.bod _ (List.getElem_mem hj) d hd
      exact ⟨hkeep _ k1 (k3 _ hi'), k2, hb3 _ k3⟩
end
end Go.Proofs.YtjdfpoppimcikaaGreatDoor
/- group.digits, group.check, group.Put at threes. -/

namespace Go.Proofs.YtjdfpoppimcikaaGreatDoor
open Go.RowKit Go.Sort

theorem own_setAll {base g c : Nat} {e : TypeId} : ∀ (vs : List Value) (o n : Nat) (w : World) (xs : List Value), w.ownsRow base e 1 (.slice (some ⟨g, 0, none⟩) n c) n xs → o + vs.length ≤ n →
    (w.setCells g o vs).ownsRow base e 1 (.slice (some ⟨g, 0, none⟩) n c) n (xs.take o ++ vs ++ xs.drop (o + vs.length))
  | [], o, n, w, xs, h, _ => by
    show w.ownsRow _ _ _ _ _ _
    rw [List.append_nil, List.length_nil, Nat.add_zero, List.take_append_drop]
    exact h
  | v :: vs, o, n, w, xs, h, hl => by
    rw [List.length_cons] at hl
    have h1 := own_setN h o v (by omega)
    have hx : xs.length = n := by have := h.1; omega
    have h2 := own_setAll vs (o + 1) n _ _ h1 (by omega)
    have e1 : (xs.set o v).take (o + 1) = xs.take o ++ [v] := by
      rw [List.take_set, List.take_succ_eq_append_getElem (by omega)]
      rw [List.set_append_right _ _ (by rw [List.length_take]; omega), List.length_take, Nat.min_eq_left (by omega), Nat.sub_self]
      rfl
    have e2 : (xs.set o v).drop (o + 1 + vs.length) = xs.drop (o + (v :: vs).length) := by
      rw [List.drop_set_of_lt (by omega), List.length_cons]
      congr 1; omega
    rw [e1, e2] at h2
    have e3 : xs.take o ++ [v] ++ vs = xs.take o ++ (v :: vs) := by simp
    rw [e3] at h2
    exact h2
end Go.Proofs.YtjdfpoppimcikaaGreatDoor
/- group.digits, group.check, group.Put at threes: the walks. -/

namespace Go.Proofs.YtjdfpoppimcikaaGreatDoor
open Go.RowKit Go.Sort

def digitChars : ByteArray := ⟨#[48, 49, 50, 51, 52, 53, 54, 55, 56, 57]⟩
def digitsB (s : ByteArray) : Bool := !(s.toList.isEmpty) && (Lib.trimS s.data.toList digitChars.data.toList).isEmpty
theorem asciiDig : ∀ (j : Nat) b, digitChars.data.toList[j]? = some b → b.toNat < 128 := by
  have h : ∀ b ∈ digitChars.data.toList, b.toNat < 128 := by decide
  exact fun j b hb => h b (List.mem_of_getElem? hb)
set_option maxHeartbeats 1600000 in
set_option maxRecDepth 100000 in
theorem gdigits_any (s : ByteArray) (w : World) (hs : s.size ≤ 1000000000) : Calls Tryz.prog 125 #[.string s] w fun e w' => e = .returned (.bool (digitsB s)) ∧ Below w.heap.size w w' := by
  have HT : Hid (Calls Tryz.prog 47 #[.string s, .string digitChars] w fun e w' => e = .returned (.string ⟨(Lib.trimS s.data.toList digitChars.data.toList).toArray⟩) ∧ Below w.heap.size w w') := Lib.hid (trim_any s digitChars w (by omega) (by decide) asciiDig)
  have HR : Hid (digitsB s = (!(s.toList.isEmpty) && (Lib.trimS s.data.toList digitChars.data.toList).isEmpty)) := Lib.hid rfl
  generalize digitsB s = r at *
  unfold digitChars at *
  generalize hz : Lib.trimS s.data.toList (⟨#[48, 49, 50, 51, 52, 53, 54, 55, 56, 57]⟩ : ByteArray).data.toList = t at *
  clear hz
  cases he : s.toList.isEmpty with
  | true =>
    have hq : (s.toList == []) = true := by simpa using he
    obtain rfl : r = false := by rw [HR.out, he]; rfl
    clear he
    go_enter Tryz.func125, Tryz.ntmps125
    go_wp2_with fail
    go_ret
    exact ⟨rfl, Below.refl _ _⟩
  | false =>
    have hq : (s.toList == []) = false := by cases h : s.toList with
      | nil => rw [h] at he; cases he
      | cons a l => rfl
    obtain rfl : r = t.isEmpty := by rw [HR.out, he]; rfl
    clear he HR
    have htt : (⟨t.toArray⟩ : ByteArray).toList = t := by rw [ByteArray.toList_eq]
    generalize hT : (⟨t.toArray⟩ : ByteArray) = T at *
    clear hT
    cases t with
    | nil =>
      have hq2 : (T.toList == []) = true := by rw [htt]; rfl
      clear htt
      go_enter Tryz.func125, Tryz.ntmps125
      go_wp2_with fail
      refine HT.out.mono ?_
      clear HT
      rintro e w1 ⟨rfl, hb⟩
      have HB := Lib.hid hb
      clear hb
      go_wp2_with fail
      go_ret
      exact ⟨rfl, HB.out⟩
    | cons a l =>
      have hq2 : (T.toList == []) = false := by rw [htt]; rfl
      clear htt
      go_enter Tryz.func125, Tryz.ntmps125
      go_wp2_with fail
      refine HT.out.mono ?_
      clear HT
      rintro e w1 ⟨rfl, hb⟩
      have HB := Lib.hid hb
      clear hb
      go_wp2_with fail
      go_ret
      exact ⟨rfl, HB.out⟩
set_option maxHeartbeats 1600000 in
set_option maxRecDepth 100000 in
theorem gcheck_any (w : World) : Calls Tryz.prog 126 #[.int .i64 3, .int .i64 0, .int .u8 44] w fun e w' => e = .returned .nilIface ∧ w' = w := by
  go_enter Tryz.func126, Tryz.ntmps126
  go_wp2_with fail
  go_ret
  exact ⟨rfl, rfl⟩
def partsF : Nat → List UInt8 → List (List UInt8)
  | 0, l => [l]
  | n + 1, l => if 3 < l.length then l.drop (l.length - 3) :: partsF n (l.take (l.length - 3)) else [l]
def partsG (l : List UInt8) : List (List UInt8) := partsF l.length l
def putG (s : ByteArray) : List UInt8 := if digitsB s then Lib.join (partsG (bts s)).reverse [44] else []
theorem parts_stop (n : Nat) (l : List UInt8) (h : ¬ 3 < l.length) : partsF n l = [l] := by
  cases n with
  | zero => rfl
  | succ n => exact if_neg h
theorem parts_sum : ∀ (n : Nat) (l : List UInt8), ((partsF n l).map List.length).sum = l.length ∧ (partsF n l).length ≤ l.length + 1
  | 0, l => ⟨by simp [partsF], by simp [partsF]⟩
  | n + 1, l => by
    unfold partsF
    split
    · obtain ⟨h1, h2⟩ := parts_sum n (l.take (l.length - 3))
      rw [List.length_take] at h1 h2
      simp only [List.map_cons, List.sum_cons, List.length_cons, List.length_drop, h1]
      omega
    · simp
theorem join_len (sep : List UInt8) : ∀ (ps : List (List UInt8)), (Lib.join ps sep).length ≤ (ps.map List.length).sum + ps.length * sep.length
  | [] => by simp [Lib.join]
  | [a] => by simp [Lib.join]
  | a :: b :: l => by
    have h := join_len sep (b :: l)
    have e : Lib.join (a :: b :: l) sep = a ++ sep ++ Lib.join (b :: l) sep := by
      show List.intercalate sep (a :: b :: l) = _
      rw [List.intercalate_cons_cons]; rfl
    rw [e]
    simp only [List.length_append, List.map_cons, List.sum_cons, List.length_cons] at h ⊢
    rw [Nat.add_mul, Nat.one_mul]
    omega
theorem putG_len (s : ByteArray) : (putG s).length ≤ 2 * s.size + 1 := by
  unfold putG
  split
  · have h1 := join_len [44] (partsG (bts s)).reverse
    obtain ⟨h2, h3⟩ : ((partsG (bts s)).map List.length).sum = (bts s).length ∧ (partsG (bts s)).length ≤ (bts s).length + 1 := parts_sum (bts s).length (bts s)
    have e1 : ((partsG (bts s)).reverse.map List.length).sum = (bts s).length := by rw [List.map_reverse, List.sum_reverse]; exact h2
    rw [e1, List.length_reverse, List.length_singleton, Nat.mul_one] at h1
    have h4 := bts_len s
    omega
  · exact Nat.zero_le _
theorem conv_comma (w : World) : (convert 58 9 (.slice (some ⟨w.heap.size, 0, none⟩) 1 1)).run Tryz.prog (w.alloc (.cells #[.int .u8 44] 5)) = .ok (.string ⟨#[44]⟩) (w.alloc (.cells #[.int .u8 44] 5)) := by
  refine run_convert_bytes_back (P := Tryz.prog) _ 58 9 5 ⟨w.heap.size, 0, none⟩ 1 [44] Tryz.underlying58 Tryz.underlying5 Tryz.underlying9 ?_
  intro j hj
  have : j = 0 := by simp at hj; omega
  subst this
  exact ((Blk.new w 5 #[.int .u8 44]).cell 0).trans rfl
theorem info_strG : (Tryz.prog.info? 9).map (fun i => (i.zero, i.size, i.bytes)) = some (some (.string ByteArray.empty), 1, 16) := by kernel_rfl
theorem one_newG (W : World) (a : Value) (t : TypeId) : ∀ q u, ([a] : List Value)[q]? = some u → (W.alloc (.cells #[a] t)).cell? ⟨W.heap.size, 0 + q, none⟩ = some u := fun q u hq => by
  rw [Nat.zero_add, (Blk.new W t #[a]).cell q]; simpa using hq
theorem strsOf_list (l : List (List UInt8)) : ∀ (n : Nat), n = l.length → Lib.strsOf (fun i => str (l.getD i [])) n = l := by
  rintro n rfl
  refine List.ext_getElem (by simp [Lib.strsOf]) fun i h1 h2 => ?_
  simp [Lib.strsOf]
  rw [List.getElem?_eq_getElem h2]
  rfl
theorem below_setAll {B g : Nat} {w : World} (hg : B ≤ g) : ∀ (vs : List Value) (o : Nat) (w' : World), Below B w w' → Below B w (w'.setCells g o vs)
  | [], _, _, h => h
  | v :: vs, o, w', h => below_setAll hg vs (o + 1) _ (h.setCell (p := ⟨g, o, none⟩) hg v)
set_option maxHeartbeats 6400000 in
set_option maxRecDepth 100000 in
theorem put_any (s : ByteArray) (w : World) (hs : s.size ≤ 1000000) :
    Calls Tryz.prog 90 #[.string s, .int .i64 3, .int .i64 0, .int .u8 44] w fun e w' => e = .returned (.tuple #[.string (str (putG s)), if digitsB s then .nilIface else .iface 67 (.int .i64 3)]) ∧ Below w.heap.size w w' := by
  have HD := Lib.hid (gdigits_any s w (by omega))
  have HC : Hid (∀ W, Calls Tryz.prog 126 #[.int .i64 3, .int .i64 0, .int .u8 44] W fun e w' => e = .returned .nilIface ∧ w' = W) := Lib.hid fun W => gcheck_any W
  have HR : Hid (putG s = if digitsB s then Lib.join (partsG (bts s)).reverse [44] else []) := Lib.hid rfl
  have hlen := putG_len s
  generalize putG s = r at *
  generalize digitsB s = b at *
  cases b with
  | false =>
    obtain rfl : r = [] := by rw [HR.out]; rfl
    go_enter Tryz.func90, Tryz.ntmps90
    go_wp2_with fail
    refine HD.out.mono ?_
    clear HD
    rintro e w1 ⟨rfl, hb⟩
    have HB := Lib.hid hb
    clear hb
    go_wp2_with fail
    go_ret2
    exact ⟨rfl, HB.out⟩
  | true =>
    have HR2 : Hid (r = Lib.join (partsG (bts s)).reverse [44]) := Lib.hid (by rw [HR.out]; rfl)
    clear HR
    go_enter Tryz.func90, Tryz.ntmps90
    go_wp2_with fail
    refine HD.out.mono ?_
    clear HD
    rintro e w1 ⟨rfl, hb⟩
    have HB := Lib.hid hb
    clear hb
    go_wp2_with fail
    refine (HC.out _).mono ?_
    clear HC
    rintro e w2 ⟨rfl, rfl⟩
    go_wp2_with fail
    go_loopw [0, 11, 12] (fun sv pv zv wr => ∃ (l : List UInt8) (ps : List (List UInt8)) (n : Nat), sv = .string (str l) ∧ zv = .int .i64 3 ∧ l.length ≤ n ∧ ps.length + n ≤ 1000002 ∧ Hid (partsG (bts s) = ps ++ partsF n l) ∧ wr.ownsRow w2.heap.size 9 1 pv ps.length (ps.map fun x => Value.string (str x)) ∧ Below w.heap.size w wr ∧ w2.heap.size ≤ wr.heap.size) (fun sv _ _ _ => match sv with | .string x => x.size | _ => 0)
    case atStart => exact ⟨bts s, [], (bts s).length, by rw [str_bts], rfl, Nat.le_refl _, by rw [bts_len]; simp; omega, Lib.hid rfl, own_nil, HB.out, Nat.le_refl _⟩
    case round =>
      obtain ⟨l, ps, n, rfl, rfl, hln, hpn, HP, hown, hbr, hsr⟩ := hrel
      obtain ⟨A, c, rfl, _⟩ := own_slice hown
      have HO := Lib.hid hown
      have HBr := Lib.hid hbr
      have hz : (str l).size = l.length := str_size l
      clear hown hbr
      by_cases hl3 : 3 < l.length
      · obtain ⟨m, rfl⟩ : ∃ m, n = m + 1 := ⟨n - 1, by omega⟩
        have HP2 : Hid (partsG (bts s) = (ps ++ [l.drop (l.length - 3)]) ++ partsF m (l.take (l.length - 3))) := Lib.hid (by
          rw [HP.out, List.append_assoc]
          congr 1
          exact if_pos hl3)
        have hl1 : (l.take (l.length - 3)).length = l.length - 3 := by rw [List.length_take]; omega
        obtain ⟨k, hk⟩ : ∃ k : Nat, l.length = k + 3 := ⟨l.length - 3, by omega⟩
        have EX := Lib.hid (extractD l 0 k)
        have EY := Lib.hid (extractD l k (str l).size)
        have i1 : (3 : Int) < ((str l).size : Int) := by omega
        have hw : wrap64 (((str l).size : Int) - 3) = (k : Int) := by unfold wrap64; omega
        have i2 : (0 : Int) ≤ (k : Int) := Int.natCast_nonneg k
        have i3 : (k : Int) ≤ ((str l).size : Int) := by omega
        have i4 : k ≤ (str l).size := by omega
        have hps : ps.length ≤ 1000000 := by omega
        have hF : Hid (l.length - 3 = k ∧ (l.take k).length + 3 = l.length ∧ (str l).size = l.length) := Lib.hid ⟨by omega, by rw [List.length_take]; omega, hz⟩
        have hkm : k ≤ m := by omega
        have hpm : ps.length + 1 + m ≤ 1000002 := by omega
        have EX2 : (str l).extract 0 k = str (l.take k) := by rw [EX.out, List.drop_zero]
        have EY2 : (str l).extract k (str l).size = str (l.drop k) := by rw [EY.out, List.take_of_length_le (by omega)]
        have HP3 : Hid (partsG (bts s) = (ps ++ [l.drop k]) ++ partsF m (l.take k)) := Lib.hid (by rw [HP2.out, hF.out.1])
        have HOw : Hid ((wr.alloc (.cells #[.string (str (l.drop k))] 9)).ownsRow w2.heap.size 9 1 (.slice A ps.length c) ps.length (ps.map fun x => Value.string (str x))) := Lib.hid (own_below HO.out ((Below.refl _ _).alloc (Nat.le_refl _) _) (Nat.le_refl _))
        have HBw : Hid (Below w.heap.size w (wr.alloc (.cells #[.string (str (l.drop k))] 9))) := Lib.hid (HBr.out.alloc (by have := HBr.out.size; omega) _)
        have hlk : (l.take k).length ≤ m := by have := hF.out.2.1; omega
        have hw2s := HB.out.size
        generalize hSY : str (l.drop k) = SY at *
        have HSY := Lib.hid hSY
        clear hSY
        clear HP HP2 hk hln hpn hl1 hl3 EX EY hz HO
        go_wp2_with (at_builtin; refine wpList_append_any rfl _ _ 211 rfl w2.heap.size 9 Tryz.underlying211 info_strG rfl (by decide) (ps.map fun x => Value.string (str x)) rfl HOw.out [.string SY] rfl rfl (.inr ⟨_, _, rfl, one_newG wr _ _⟩) (by simp [Value.oneCell']) (by unfold maxLen; omega) (by omega) (by simp; omega) ?_)
        intro v7 w7 hown7 hgrow7 _
        obtain ⟨A7, c7, hv7, _⟩ := own_slice hown7
        subst hv7
        have HO7 : Hid (w7.ownsRow w2.heap.size 9 1 (.slice A7 (ps ++ [l.drop k]).length c7) (ps ++ [l.drop k]).length ((ps ++ [l.drop k]).map fun x => Value.string (str x))) := Lib.hid (by
          rw [List.length_append, List.map_append, List.map_singleton, List.length_singleton, HSY.out]
          exact hown7)
        have HB7 : Hid (Below w.heap.size w w7) := Lib.hid (HBw.out.grown hgrow7 (by simp; omega) (fun q e => by have := (own_lt HOw.out e).1; omega))
        have hs7 : w2.heap.size ≤ w7.heap.size := by have := hgrow7.size; rw [World.size_alloc] at this; omega
        have el : (ps ++ [l.drop k]).length = ps.length + 1 := by rw [List.length_append, List.length_singleton]
        rw [el] at HO7
        clear hown7 hgrow7 HOw HBw HBr el
        go_wp2_with fail
        go_roundw
        case rel => exact ⟨l.take k, ps ++ [l.drop k], m, rfl, rfl, hlk, by rw [List.length_append, List.length_singleton]; omega, HP3, by rw [List.length_append, List.length_singleton]; exact HO7.out, HB7.out, hs7⟩
        case measure =>
          have h1 := hF.out
          show (str (l.take k)).size < (str l).size
          rw [str_size, str_size]
          omega
      · have HP2 : Hid (partsG (bts s) = ps ++ [l]) := Lib.hid (by rw [HP.out, parts_stop n l hl3])
        have i1 : ¬ ((3 : Int) < ((str l).size : Int)) := by omega
        have hps : ps.length ≤ 1000002 := by omega
        have hw2s := HB.out.size
        have HOw : Hid ((wr.alloc (.cells #[.string (str l)] 9)).ownsRow w2.heap.size 9 1 (.slice A ps.length c) ps.length (ps.map fun x => Value.string (str x))) := Lib.hid (own_below HO.out ((Below.refl _ _).alloc (Nat.le_refl _) _) (Nat.le_refl _))
        have HBw : Hid (Below w.heap.size w (wr.alloc (.cells #[.string (str l)] 9))) := Lib.hid (HBr.out.alloc (by have := HBr.out.size; omega) _)
        clear HP hl3 hz HO hln hpn
        go_wp2_with (at_builtin; refine wpList_append_any rfl _ _ 211 rfl w2.heap.size 9 Tryz.underlying211 info_strG rfl (by decide) (ps.map fun x => Value.string (str x)) rfl HOw.out [.string (str l)] rfl rfl (.inr ⟨_, _, rfl, one_newG wr _ _⟩) (by simp [Value.oneCell']) (by unfold maxLen; omega) (by omega) (by simp; omega) ?_)
        intro v7 w7 hown7 hgrow7 _
        have hPl : (partsG (bts s)).length = ps.length + 1 := by rw [HP2.out, List.length_append, List.length_singleton]
        have hown8 : w7.ownsRow w2.heap.size 9 1 v7 (partsG (bts s)).length ((partsG (bts s)).map fun x => Value.string (str x)) := by
          rw [hPl, HP2.out, List.map_append, List.map_singleton]
          exact hown7
        have HB7 : Hid (Below w.heap.size w w7) := Lib.hid (HBw.out.grown hgrow7 (by simp; omega) (fun q e => by have := (own_lt HOw.out e).1; omega))
        have hPs : (partsG (bts s)).length ≤ 1000003 := by omega
        have hjl : (Lib.join (partsG (bts s)).reverse [44]).length ≤ 1000000000 := by rw [← HR2.out]; omega
        have HJl := Lib.hid hjl
        clear hown7 hgrow7 HOw HBw HBr HP2 hlen hps hs
        generalize partsG (bts s) = P at *
        obtain ⟨g, cap, rfl, hg1, hg2⟩ := own_form hown8 (by omega)
        have hcs : ∀ i, i < P.length → w7.cell? ⟨g, 0 + i, none⟩ = some (.string (str (P.getD i []))) ∧ w7.frozen? ⟨g, 0 + i, none⟩ = false := fun i hi => by
          obtain ⟨g', hA, _, _, h3, h4⟩ := own_at hown8 i (by omega)
          injection hA with hA
          injection hA with hA
          subst hA
          rw [Nat.zero_add]
          refine ⟨?_, h4⟩
          rw [h3, List.getElem?_map, List.getElem?_eq_getElem hi, List.getD_eq_getElem?_getD, List.getElem?_eq_getElem hi]
          rfl
        have HRev : Hid (Calls Tryz.prog 127 #[.slice (some ⟨g, 0, none⟩) P.length cap] w7 fun e w' => e = .returned (.tuple #[]) ∧ ∃ q, w' = (w7.drewN q).setCells g 0 (P.reverse.map encStr)) := Lib.hid (by
          have h := Tryz.slices_Reverse_string_cells g 0 P.length cap (fun i => str (P.getD i [])) w7 (by omega) (fun i hi => (hcs i hi).1) (fun i hi => (hcs i hi).2)
          rw [strsOf_list P P.length rfl] at h
          exact h)
        have HOwn := Lib.hid hown8
        have HPl := Lib.hid hPl
        have HPs := Lib.hid hPs
        clear hcs hown8 hjl hPl hPs
        go_wp2_with fail
        refine HRev.out.mono ?_
        clear HRev
        rintro e w8 ⟨rfl, q, hw8⟩
        have hPl := HPl.out
        have hPs := HPs.out
        have hl9 : (P.reverse.map encStr).length = P.length := by rw [List.length_map, List.length_reverse]
        have hown9 : w8.ownsRow w2.heap.size 9 1 (.slice (some ⟨g, 0, none⟩) P.reverse.length cap) P.reverse.length (P.reverse.map fun x => Value.string (str x)) := by
          have h := own_setAll (P.reverse.map encStr) 0 P.length (w7.drewN q) _ (own_below HOwn.out (below_drewN (Below.refl _ _) q) (Nat.le_refl _)) (by omega)
          rw [List.take_zero, List.nil_append, Nat.zero_add, hl9, List.drop_of_length_le (by rw [List.length_map]; exact Nat.le_refl _), List.append_nil, ← hw8] at h
          rw [List.length_reverse]
          exact h
        have HB8 : Hid (Below w.heap.size w w8) := Lib.hid (by rw [hw8]; exact below_setAll (by omega) _ _ _ (below_drewN HB7.out q))
        have hb9 : Below w8.heap.size w8 (w8.alloc (.cells #[.int .u8 44] 5)) := (Below.refl _ _).alloc (Nat.le_refl _) _
        have HJ := Lib.hid (join_anyJ _ P.reverse [44] w2.heap.size (w8.alloc (.cells #[.int .u8 44] 5)) (own_below hown9 hb9 (Nat.le_refl _)) (by rw [List.length_reverse]; omega) HJl.out)
        rw [List.length_reverse] at HJ
        have HB9 : Hid (Below w.heap.size w (w8.alloc (.cells #[.int .u8 44] 5))) := Lib.hid (HB8.out.trans (hb9.mono HB8.out.size))
        have hcv := conv_comma w8
        clear hw8 hl9 hown9 hb9 HOwn HB7 HB8 hPl hPs
        go_wp2_with fail
        refine HJ.out.mono ?_
        clear HJ
        rintro e w10 ⟨rfl, hb10⟩
        have HB10 := Lib.hid (HB9.out.trans (hb10.mono HB9.out.size))
        clear hb10 hcv
        go_wp2_with fail
        go_ret2
        exact ⟨by rw [HR2.out]; rfl, HB10.out⟩
end Go.Proofs.YtjdfpoppimcikaaGreatDoor
