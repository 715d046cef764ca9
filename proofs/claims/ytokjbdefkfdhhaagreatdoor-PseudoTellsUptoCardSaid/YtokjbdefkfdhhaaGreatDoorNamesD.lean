/- (*needs).all at any depth; names.of, names.Of. -/
import Derived.Test.YtokjbdefkfdhhaaGreatDoorNamesC
namespace Go.Proofs.YtokjbdefkfdhhaaGreatDoor
open Go.RowKit

def allN : (n : Nat) → List (Nd n) → List Ned → List Ned
  | 0, _, l => l
  | n + 1, m, l => nodA (allN n) (m : List (NdF (Nd n))) l
def cntN : (n : Nat) → List (Nd n) → Nat
  | 0, _ => 0
  | n + 1, m => cntM (cntN n) (m : List (NdF (Nd n)))
theorem casA_len {β : Type} {g : List β → List Ned → List Ned} {cnt : List β → Nat} (h : ∀ b n, (g b n).length ≤ n.length + cnt b) : ∀ (cs : List (ByteArray × List β)) (n : List Ned), (casA g cs n).length ≤ n.length + cntC cnt cs
  | [], n => by show n.length ≤ _; omega
  | c :: r, n => by
    have h1 := casA_len h r (g c.2 n)
    have h2 := h c.2 n
    have e : cntC cnt (c :: r) = cnt c.2 + cntC cnt r := by unfold cntC; rw [List.map_cons, List.sum_cons]
    show (casA g r (g c.2 n)).length ≤ _
    omega
theorem nodA_len {β : Type} {g : List β → List Ned → List Ned} {cnt : List β → Nat} (h : ∀ b n, (g b n).length ≤ n.length + cnt b) : ∀ (m : List (NdF β)) (n : List Ned), (nodA g m n).length ≤ n.length + cntM cnt m
  | [], n => by show n.length ≤ _; omega
  | x :: r, n => by
    have h1 := nodA_len h r (casA g (casesR x) (addN n x.kind x.text))
    have h2 := casA_len h (casesR x) (addN n x.kind x.text)
    have h3 := addN_len n x.kind x.text
    have e : cntM cnt (x :: r) = 1 + cntC cnt (casesR x) + cntM cnt r := by unfold cntM; rw [List.map_cons, List.sum_cons]
    show (nodA g r (casA g (casesR x) (addN n x.kind x.text))).length ≤ _
    omega
theorem allN_len : (n : Nat) → (m : List (Nd n)) → (l : List Ned) → (allN n m l).length ≤ l.length + cntN n m
  | 0, _, l => by show l.length ≤ _; omega
  | n + 1, m, l => nodA_len (allN_len n) (m : List (NdF (Nd n))) l
theorem all_any : (n : Nat) → (m : List (Nd n)) → (v : Value) → (q base : Nat) → (l : List Ned) → (lo : Nat) → (w : World) → MsgIn n m → ListOk (Enc.node n) w lo base v m → NeS base q l w → base ≤ q → l.length + cntN n m ≤ 100000000 →
    Calls Tryz.prog 24 #[.pointer (some ⟨q, 0, none⟩), v] w fun e w' => e = .returned (.tuple #[]) ∧ BK base w w' ∧ NeS base q (allN n m l) w'
  | 0, m, v, q, base, l, lo, w, hm, hv, hS, hbq, hl => by
    obtain rfl := empty_list m
    obtain ⟨A, c, rfl, _⟩ := hv.form
    exact all_walk (E := Enc.none_) Enc.none_laws (fun _ n => n) (fun _ => 0) ([] : List (NdF Empty)) (.slice A 0 c) q base l lo w (ListOk.nil c A) hS hbq (Nat.zero_le _) (Lib.hid fun _ n => Nat.le_refl _) (by show l.length + 0 ≤ _; omega) (fun x hx => by cases hx) (Lib.hid fun x hx => by cases hx)
  | n + 1, m, v, q, base, l, lo, w, hm, hv, hS, hbq, hl => by
    exact all_walk (E := Enc.node n) (Enc.node_laws n) (allN n) (cntN n) (m : List (NdF (Nd n))) v q base l lo w hv hS hbq hm.len (Lib.hid (allN_len n)) hl (fun x hx => by have h1 : smallF (SmallN n) x := hm.each x hx; exact h1.2.1)
      (Lib.hid fun x hx c hc W U n' hW hbs hU hS' hl' => all_any n c.2 U q base n' lo W (hm.body hx hc) hU hS' hbq hl')
/-- what names.of tells: a fault, or the needs -/
def ofR (n : Nat) (m : List (Nd n)) : Int × List Ned :=
  if checkAll n m ≠ 0 then (checkAll n m, []) else if (allN n m []).any (fun x => x.num && x.text) = true then (7, []) else (0, allN n m [])
set_option maxHeartbeats 3200000 in
theorem of_any (n : Nat) (m : List (Nd n)) (v : Value) (lo : Nat) (w : World) (hm : MsgIn n m) (hc : cntN n m ≤ 10000000) (hv : ListOk (Enc.node n) w lo w.heap.size v m) (hV : MV w) :
    Calls Tryz.prog 15 #[v] w fun e w' => Below w.heap.size w w' ∧ ∃ u, e = .returned (.tuple #[u, errV (ofR n m).1]) ∧ w'.ownsRow w.heap.size 52 3 u (ofR n m).2.length (flatN (ofR n m).2) := by
  have HC := Lib.hid (Check_any n m v lo w hm hv hV)
  have HA : Hid (∀ W q, Below w.heap.size w W → w.heap.size ≤ q → NeS w.heap.size q [] W → Calls Tryz.prog 24 #[.pointer (some ⟨q, 0, none⟩), v] W fun e w' => e = .returned (.tuple #[]) ∧ BK w.heap.size W w' ∧ NeS w.heap.size q (allN n m []) w') := Lib.hid fun W q hW hq hS =>
    all_any n m v q w.heap.size [] lo W hm (hv.below (Enc.node_laws n) hW) hS hq (by show 0 + _ ≤ _; omega)
  have HR : Hid (ofR n m = if checkAll n m ≠ 0 then (checkAll n m, []) else if (allN n m []).any (fun x => x.num && x.text) = true then (7, []) else (0, allN n m [])) := Lib.hid rfl
  have hlen : (allN n m []).length ≤ 10000000 := by have := allN_len n m []; simp at this; omega
  generalize checkAll n m = ck at *
  generalize allN n m [] = L at *
  clear hv hV hm hc
  go_enter Tryz.func15, Tryz.ntmps15
  go_wp2_with fail
  refine HC.out.mono ?_
  clear HC
  rintro e w1 ⟨rfl, hb1⟩
  have HB1 := Lib.hid hb1
  clear hb1
  by_cases h0 : ck = 0
  · subst h0
    rw [errV_zero]
    obtain ⟨W2, eW2⟩ : ∃ W2, W2 = w1.alloc (.cells #[.slice none 0 0] 48) := ⟨_, rfl⟩
    have hb2 : Below w1.heap.size w1 W2 := by rw [eW2]; exact (Below.refl _ _).alloc (Nat.le_refl _) _
    have m2 : Blk W2 w1.heap.size 48 #[.slice none 0 0] := by rw [eW2]; exact Blk.new _ _ _
    have HB2 := Lib.hid (HB1.out.trans (hb2.mono HB1.out.size))
    have HA2 := Lib.hid (HA.out W2 w1.heap.size HB2.out HB1.out.size ⟨_, m2, own_nil⟩)
    have HW2 := Lib.hid eW2
    have hs1 := HB1.out.size
    clear eW2 hb2 m2 HA
    go_upto_region 5 with fail
    rw [← HW2.out]
    clear HW2
    go_wp2_with fail
    refine HA2.out.mono ?_
    clear HA2
    rintro e w3 ⟨rfl, hb3, hS3⟩
    obtain ⟨u, hq3, hr3⟩ := hS3.box
    obtain ⟨UA, Uc, rfl, _⟩ := own_slice hr3
    have HB3 := Lib.hid (HB2.out.trans hb3.below)
    have x0 : w3.cell? ⟨w1.heap.size, 0, none⟩ = some (.slice UA L.length Uc) := (hq3.cell 0).trans rfl
    have HCo := Lib.hid (containsO_any L (.slice UA L.length Uc) 0 w3 (neds_of_own hr3 (Nat.zero_le _) (Nat.le_refl _)) (by omega))
    have Q3 := Lib.hid hq3
    have R3 := Lib.hid hr3
    have HR2 : Hid (ofR n m = if L.any (fun x => x.num && x.text) = true then (7, []) else (0, L)) := Lib.hid (by rw [HR.out, if_neg (by simp)])
    generalize L.any (fun x => x.num && x.text) = X at *
    clear hb3 hS3 hq3 hr3 HR HB2
    go_wp2_with fail
    refine HCo.out.mono ?_
    clear HCo
    rintro e w4 ⟨rfl, hb4⟩
    have HB4 := Lib.hid (HB3.out.trans (hb4.mono HB3.out.size))
    have R4 := Lib.hid (own_below R3.out hb4 (Nat.le_refl _))
    have x4 : w4.cell? ⟨w1.heap.size, 0, none⟩ = some (.slice UA L.length Uc) := ((Q3.out.below hb4 Q3.out.lt).cell 0).trans rfl
    clear hb4 x0 Q3 R3
    cases X with
    | true =>
      have HE : Hid (ofR n m = (7, [])) := Lib.hid (by rw [HR2.out, if_pos rfl])
      clear HR2
      go_wp2_with fail
      go_ret2
      refine ⟨HB4.out, .slice none 0 0, ?_, ?_⟩
      · rw [HE.out]; rfl
      · rw [HE.out]; exact own_nil
    | false =>
      have HE : Hid (ofR n m = (0, L)) := Lib.hid (by rw [HR2.out, if_neg (by decide)])
      clear HR2
      go_wp2_with fail
      go_ret2
      refine ⟨HB4.out, .slice UA L.length Uc, ?_, ?_⟩
      · rw [HE.out]; rfl
      · rw [HE.out]; exact R4.out
  · have HE : Hid (ofR n m = (ck, [])) := Lib.hid (by rw [HR.out, if_pos h0])
    rw [errV_ne h0]
    clear HR HA
    go_wp2_with fail
    go_ret2
    refine ⟨HB1.out, .slice none 0 0, ?_, ?_⟩
    · rw [HE.out, errV_ne h0]; rfl
    · rw [HE.out]; exact own_nil
end Go.Proofs.YtokjbdefkfdhhaaGreatDoor
