/- linguisterref2.NodeFault at any depth; MsgFault: what the code's Check tells. -/
import Derived.Test.YtokjbdefkfdhhaaGreatDoorQNode
namespace Go.Proofs.YtokjbdefkfdhhaaGreatDoor
open Go.RowKit

theorem nodeFault_any : (n : Nat) → (m : List (Nd n)) → (v : Value) → (mark : Bool) → (lo : Nat) → (w : World) → MsgIn n m → ListOk (Enc.node n) w lo w.heap.size v m →
    Calls Tryz.prog 19 #[v, .bool mark] w fun e w' => e = .returned (.int .i64 (checkN n m mark)) ∧ Below w.heap.size w w'
  | 0, m, v, mark, lo, w, hm, hv => by
    obtain rfl := empty_list m
    obtain ⟨A, c, rfl, _⟩ := hv.form
    exact nodeFault_walk (E := Enc.none_) Enc.none_laws (fun _ _ => 0) ([] : List (NdF Empty)) (.slice A 0 c) mark lo w (ListOk.nil c A) (Nat.zero_le _) (Lib.hid fun x hx => by cases hx) (Lib.hid fun x hx => by cases hx)
  | n + 1, m, v, mark, lo, w, hm, hv => by
    refine nodeFault_walk (E := Enc.node n) (Enc.node_laws n) (checkN n) (m : List (NdF (Nd n))) v mark lo w hv hm.len (Lib.hid fun x hx => ?_) (Lib.hid fun x hx c hc mk W U hW hU => ?_)
    · have h1 : smallF (SmallN n) x := hm.each x hx
      exact ⟨h1.1, h1.2.1, fun c hc => (h1.2.2 c hc).1⟩
    · exact nodeFault_any n c.2 U mk lo W (hm.body hx hc) hU
set_option maxHeartbeats 1600000 in
set_option maxRecDepth 100000 in
theorem msgFault_any (n : Nat) (m : List (Nd n)) (v : Value) (lo : Nat) (w : World) (hm : MsgIn n m) (hv : ListOk (Enc.node n) w lo w.heap.size v m) :
    Calls Tryz.prog 9 #[v] w fun e w' => e = .returned (.int .i64 (checkAll n m)) ∧ Below w.heap.size w w' := by
  have HS := Lib.hid (large_any n m 0 v lo w (by decide) hm hv)
  have HC : Hid (∀ W, Below w.heap.size w W → Calls Tryz.prog 19 #[v, .bool false] W fun e w' => e = .returned (.int .i64 (checkN n m false)) ∧ Below W.heap.size W w') := Lib.hid fun W hW =>
    nodeFault_any n m v false lo W hm ((hv.below (Enc.node_laws n) hW).mono (Enc.node_laws n) (Nat.le_refl _) hW.size)
  have HE : Hid (checkAll n m = if (sizeN n m 0).2 = true then 4 else checkN n m false) := Lib.hid rfl
  generalize sizeN n m 0 = z at *
  obtain ⟨z1, z2⟩ := z
  dsimp only at HS HE
  generalize checkN n m false = k at *
  clear hv hm
  go_enter Tryz.func9, Tryz.ntmps9
  go_wp2_with fail
  refine HS.out.mono ?_
  clear HS
  rintro e w1 ⟨rfl, hb1⟩
  have HB1 := Lib.hid hb1
  have HC1 := Lib.hid (HC.out w1 hb1)
  clear hb1 HC
  cases z2 with
  | true =>
    have HE2 : Hid (checkAll n m = 4) := Lib.hid (by rw [HE.out, if_pos rfl])
    clear HE HC1
    go_wp2_with fail
    go_ret
    exact ⟨by rw [HE2.out]; rfl, HB1.out⟩
  | false =>
    have HE2 : Hid (checkAll n m = k) := Lib.hid (by rw [HE.out, if_neg (by decide)])
    clear HE
    go_wp2_with fail
    refine HC1.out.mono ?_
    clear HC1
    rintro e w2 ⟨rfl, hb2⟩
    have HB2 := Lib.hid (HB1.out.trans (hb2.mono HB1.out.size))
    clear hb2
    go_wp2_with fail
    go_ret
    exact ⟨by rw [HE2.out]; rfl, HB2.out⟩
end Go.Proofs.YtokjbdefkfdhhaaGreatDoor
