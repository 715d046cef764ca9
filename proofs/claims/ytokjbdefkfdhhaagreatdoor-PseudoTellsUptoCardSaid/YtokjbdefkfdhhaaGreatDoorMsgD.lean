/- msg.size at any depth; msg.cases and msg.check. -/
import Derived.Test.YtokjbdefkfdhhaaGreatDoorMsgC
import Derived.Test.YtokjbdefkfdhhaaGreatDoorAppend
namespace Go.Proofs.YtokjbdefkfdhhaaGreatDoor
open Go.RowKit

/- ## Small: no list in it is too long -/
def smallF {β : Type} (S : β → Prop) (x : NdF β) : Prop := x.text.size ≤ 1000000000 ∧ x.cases.length ≤ 10000000 ∧ ∀ c ∈ x.cases, c.1.size ≤ 1000000000 ∧ c.2.length ≤ 10000000 ∧ ∀ y ∈ c.2, S y
def SmallN : (n : Nat) → Nd n → Prop
  | 0, _ => True
  | n + 1, x => smallF (SmallN n) x
structure MsgIn (n : Nat) (m : List (Nd n)) : Prop where
  len : m.length ≤ 10000000
  each : ∀ x ∈ m, SmallN n x
theorem MsgIn.body {n : Nat} {m : List (Nd (n + 1))} (h : MsgIn (n + 1) m) {x : NdF (Nd n)} (hx : x ∈ (m : List (NdF (Nd n)))) {c : ByteArray × List (Nd n)} (hc : c ∈ x.cases) : MsgIn n c.2 := by
  have h1 : smallF (SmallN n) x := h.each x hx
  exact ⟨(h1.2.2 c hc).2.1, (h1.2.2 c hc).2.2⟩

/- ## The size -/
def sizeN : (n : Nat) → List (Nd n) → Nat → Int × Bool
  | 0, _, _ => (0, false)
  | n + 1, m, d => sizeG (sizeN n) (m : List (NdF (Nd n))) d
theorem empty_list : ∀ (m : List (Nd 0)), m = []
  | [] => rfl
  | x :: _ => nomatch (show Empty from x)
theorem sizeN_bound : (n : Nat) → (m : List (Nd n)) → (d : Nat) → d ≤ 6 → MsgIn n m → 0 ≤ (sizeN n m d).1 ∧ (sizeN n m d).1 ≤ ((7 - d : Nat) : Int) * 1000000000
  | 0, _, d, hd, _ => ⟨by show (0 : Int) ≤ 0; omega, by show (0 : Int) ≤ _; omega⟩
  | n + 1, m, d, hd, hm => by
    have h := sizeG_bound (sizeN n) (d := d) (G := ((7 - (d + 1) : Nat) : Int) * 1000000000) (by omega) (m : List (NdF (Nd n))) (fun h5 x hx c hc => sizeN_bound n c.2 (d + 1) (by omega) (hm.body hx hc)) (Nat.le_trans hm.len (by decide))
    have e : ((7 - d : Nat) : Int) = ((7 - (d + 1) : Nat) : Int) + 1 := by omega
    refine ⟨h.1, Int.le_trans h.2 ?_⟩
    rw [e]; omega
theorem size_any : (n : Nat) → (m : List (Nd n)) → (d : Nat) → (v : Value) → (lo : Nat) → (w : World) → d ≤ 6 → MsgIn n m → ListOk (Enc.node n) w lo w.heap.size v m →
    Calls Tryz.prog 35 #[v, .int .i64 (d : Int)] w fun e w' => e = .returned (.tuple #[.int .i64 (sizeN n m d).1, .bool (sizeN n m d).2]) ∧ Below w.heap.size w w'
  | 0, m, d, v, lo, w, hd, hm, hv => by
    obtain rfl := empty_list m
    obtain ⟨A, c, rfl, _⟩ := hv.form
    have h := size_walk (E := Enc.none_) Enc.none_laws (fun _ _ => (0, false)) ([] : List (NdF Empty)) d (.slice A 0 c) lo w hd (ListOk.nil c A) (Nat.zero_le _) (fun x hx => by cases hx) (fun _ x hx => by cases hx) (Lib.hid fun _ x hx => by cases hx)
    have e : sizeG (fun (_ : List Empty) (_ : Nat) => ((0 : Int), false)) ([] : List (NdF Empty)) d = (0, false) := by
      unfold sizeG
      rw [if_neg (by simp)]
      rfl
    rw [e] at h
    exact h
  | n + 1, m, d, v, lo, w, hd, hm, hv => by
    exact size_walk (E := Enc.node n) (Enc.node_laws n) (sizeN n) (m : List (NdF (Nd n))) d v lo w hd hv (Nat.le_trans hm.len (by decide))
      (fun x hx => by have h1 : smallF (SmallN n) x := hm.each x hx; have := h1.2.1; omega)
      (fun h5 x hx c hc => by
        have h := sizeN_bound n c.2 (d + 1) (by omega) (hm.body hx hc)
        exact ⟨h.1, by have : ((7 - (d + 1) : Nat) : Int) ≤ 7 := by omega
                       omega⟩)
      (Lib.hid fun h5 x hx c hc W V hW hV => by
        have h := size_any n c.2 (d + 1) V lo W (by omega) (hm.body hx hc) hV
        exact h)
end Go.Proofs.YtokjbdefkfdhhaaGreatDoor
