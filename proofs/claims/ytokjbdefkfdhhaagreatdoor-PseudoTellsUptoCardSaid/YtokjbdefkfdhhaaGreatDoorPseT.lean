/- pseudo.Message; linguisterlaw4.PseudoTells. -/
import Derived.Test.YtokjbdefkfdhhaaGreatDoorPMsgW
import Derived.Test.YtokjbdefkfdhhaaGreatDoorPsoW
import Derived.Test.YtokjbdefkfdhhaaGreatDoorSMsg
import Derived.Test.YtokjbdefkfdhhaaGreatDoorMsgG
import Derived.Test.YtokjbdefkfdhhaaGreatDoorTold
namespace Go.Proofs.YtokjbdefkfdhhaaGreatDoor
open Go.RowKit

theorem message_any : (n : Nat) → (m : List (Nd n)) → (v : Value) → (lo : Nat) → (w : World) → MsgIn n m → ListOk (Enc.node n) w lo w.heap.size v m →
    Calls Tryz.prog 22 #[v] w fun e w' => Below w.heap.size w w' ∧ ∃ u, e = .returned u ∧ ListOk (Enc.node n) w' w.heap.size w'.heap.size u (pseN n m)
  | 0, m, v, lo, w, hm, hv => by
    obtain rfl := empty_list m
    obtain ⟨A, c, rfl, _⟩ := hv.form
    have h := message_walk (E := Enc.none_) Enc.none_laws (fun l => l) ([] : List (NdF Empty)) (.slice A 0 c) lo w (ListOk.nil c A) (Nat.zero_le _) (Lib.hid fun x hx => by cases hx) (Lib.hid fun x hx => by cases hx)
    refine h.mono ?_
    rintro e w' ⟨hb, out, xs, rfl, hx, hs⟩
    obtain rfl : xs = [] := by simpa using hx
    obtain ⟨B, d, hv', _⟩ := own_slice hs.row
    exact ⟨hb, _, rfl, by rw [hv']; exact ListOk.nil d B⟩
  | n + 1, m, v, lo, w, hm, hv => by
    refine (message_walk (E := Enc.node n) (Enc.node_laws n) (pseN n) (m : List (NdF (Nd n))) v lo w hv hm.len
      (Lib.hid fun x hx => by have h1 : smallF (SmallN n) x := hm.each x hx; exact ⟨h1.1, h1.2.1⟩)
      (Lib.hid fun x hx c hc W U _ hU => message_any n c.2 U lo W (hm.body hx (casesR_sub hc)) hU)).mono ?_
    rintro e w' ⟨hb, out, xs, rfl, hx, hs⟩
    refine ⟨hb, _, rfl, ?_⟩
    have h := hs.list (Enc.node_laws n) (Nat.le_refl _) (Nat.le_refl _)
    rw [hx] at h
    exact h
set_option maxHeartbeats 1600000 in
set_option maxRecDepth 100000 in
theorem Message_any (n : Nat) (m : List (Nd n)) (v : Value) (lo : Nat) (w : World) (hm : MsgIn n m) (hv : ListOk (Enc.node n) w lo w.heap.size v m) (hV : MV w) :
    Calls Tryz.prog 11 #[v] w fun e w' => Below w.heap.size w w' ∧ ∃ u, e = .returned (.tuple #[u, errV (checkAll n m)]) ∧ (checkAll n m = 0 → ListOk (Enc.node n) w' w.heap.size w'.heap.size u (pseN n m)) ∧ (checkAll n m ≠ 0 → u = .slice none 0 0) := by
  have HC := Lib.hid (Check_any n m v lo w hm hv hV)
  have HM : Hid (∀ W, Below w.heap.size w W → Calls Tryz.prog 22 #[v] W fun e w' => Below W.heap.size W w' ∧ ∃ u, e = .returned u ∧ ListOk (Enc.node n) w' W.heap.size w'.heap.size u (pseN n m)) := Lib.hid fun W hW =>
    message_any n m v lo W hm ((hv.below (Enc.node_laws n) hW).mono (Enc.node_laws n) (Nat.le_refl _) hW.size)
  generalize checkAll n m = f at *
  clear hv hV hm
  go_enter Tryz.func11, Tryz.ntmps11
  go_wp2_with fail
  refine HC.out.mono ?_
  clear HC
  rintro e w1 ⟨rfl, hb1⟩
  have HB1 := Lib.hid hb1
  have HM1 := Lib.hid (HM.out w1 hb1)
  clear hb1 HM
  by_cases hf : f = 0
  · subst hf
    rw [errV_zero]
    go_wp2_with fail
    refine HM1.out.mono ?_
    clear HM1
    rintro e w2 ⟨hb2, u, rfl, hu⟩
    have HB2 := Lib.hid (HB1.out.trans (hb2.mono HB1.out.size))
    have hu2 := hu.mono (Enc.node_laws n) HB1.out.size (Nat.le_refl _)
    obtain ⟨UA, Uc, rfl, _⟩ := hu.form
    have HU := Lib.hid hu2
    clear hb2 hu hu2
    go_wp2_with fail
    go_ret2
    refine ⟨HB2.out, _, rfl, ?_⟩
    first | exact ⟨HU.out, trivial⟩ | exact HU.out | exact ⟨fun _ => HU.out, fun h => absurd rfl h⟩
  · rw [errV_ne hf]
    clear HM1
    go_wp2_with fail
    go_ret2
    exact ⟨HB1.out, .slice none 0 0, by rw [errV_ne hf]; rfl, fun h => absurd h hf, fun _ => rfl⟩
theorem pse_lens : (n : Nat) → (m : List (Nd n)) → MsgIn n m → LenIn n (pseN n m)
  | 0, _, _ => ⟨Nat.zero_le _, fun x hx => nomatch hx⟩
  | n + 1, m, h => by
    have hl : ((m : List (NdF (Nd n))).map (pseX (pseN n))).length = m.length := List.length_map _
    refine ⟨?_, fun x hx => ?_⟩
    · show ((m : List (NdF (Nd n))).map (pseX (pseN n))).length ≤ _
      rw [hl]; exact h.len
    · obtain ⟨y, hy, rfl⟩ := List.mem_map.1 (show x ∈ (m : List (NdF (Nd n))).map (pseX (pseN n)) from hx)
      have h1 : smallF (SmallN n) y := h.each y hy
      show lenF (LenN n) (pseX (pseN n) y)
      refine ⟨?_, fun c hc => ?_⟩
      · show ((casesR y).map _).length ≤ _
        rw [List.length_map]
        exact Nat.le_trans (casesR_len y) h1.2.1
      · obtain ⟨d, hd, rfl⟩ := List.mem_map.1 (show c ∈ (casesR y).map (fun c => (c.1, pseN n c.2)) from hc)
        have h3 := pse_lens n d.2 (h.body hy (casesR_sub hd))
        exact ⟨h3.len, h3.each⟩
theorem bee_text : ((textP ⟨#[98, 101, 101]⟩).toList == [91, 98, 101, 101, 101, 101, 93]) = true := by decide +kernel
set_option maxHeartbeats 6400000 in
set_option maxRecDepth 100000 in
theorem pseudoTells_any (n : Nat) (m : List (Nd n)) (s : ByteArray) (v : Value) (w : World) (hm : MsgIn n m) (hs : s.size ≤ 1000000000) (hv : ListOk (Enc.node n) w 0 w.heap.size v m) (hV : MV w) (hE : ErrVar w) :
    Calls Tryz.prog 4 #[.string s, v] w fun e w' => e = .returned (.bool true) ∧ Below w.heap.size w w' := by
  have HF := Lib.hid (pstext_any ⟨#[98, 101, 101]⟩ w (by decide))
  have HV : Hid (∀ W, Below w.heap.size w W → ListOk (Enc.node n) W 0 W.heap.size v m) := Lib.hid fun W hW => (hv.below (Enc.node_laws n) hW).mono (Enc.node_laws n) (Nat.le_refl _) hW.size
  have HMf : Hid (∀ W, Below w.heap.size w W → Calls Tryz.prog 9 #[v] W fun e w' => e = .returned (.int .i64 (checkAll n m)) ∧ Below W.heap.size W w') := Lib.hid fun W hW => msgFault_any n m v 0 W hm (HV.out W hW)
  have HPs : Hid (∀ W, Below w.heap.size w W → Calls Tryz.prog 10 #[v] W fun e w' => Below W.heap.size W w' ∧ ∃ u, e = .returned u ∧ ListOk (Enc.node n) w' W.heap.size w'.heap.size u (pseN n m)) := Lib.hid fun W hW => by
    have h := pso_any n m v 0 W hm (HV.out W hW)
    rwa [(pse_same n m).1] at h
  have HMe : Hid (∀ W, Below w.heap.size w W → Calls Tryz.prog 11 #[v] W fun e w' => Below W.heap.size W w' ∧ ∃ u, e = .returned (.tuple #[u, errV (checkAll n m)]) ∧ (checkAll n m = 0 → ListOk (Enc.node n) w' W.heap.size w'.heap.size u (pseN n m)) ∧ (checkAll n m ≠ 0 → u = .slice none 0 0)) := Lib.hid fun W hW =>
    Message_any n m v 0 W hm (HV.out W hW) (hV.below hW)
  have HEr : Hid (∀ W, Below w.heap.size w W → ErrVar W) := Lib.hid fun W hW => hE.below hW hE.lt
  have HLe := Lib.hid (pse_lens n m hm)
  have HTx : Hid (∀ W, Calls Tryz.prog 8 #[.string s] W fun e w' => e = .returned (.string (textP s)) ∧ Below W.heap.size W w') := Lib.hid fun W => pstext_any s W hs
  have HVw : Hid (∀ W, Calls Tryz.prog 14 #[.string s] W fun e w' => e = .returned (.string (str (dblL (bts s)))) ∧ ∃ n, w' = W.drewN n) := Lib.hid fun W => vowels_any s W hs
  have HTd : Hid (textP s = (⟨#[91]⟩ : ByteArray) ++ str (dblL (bts s)) ++ (⟨#[93]⟩ : ByteArray)) := Lib.hid rfl
  have hdl : (str (dblL (bts s))).size ≤ 2000000000 := by
    have h1 := dblL_len (bts s)
    have h2 : (str (dblL (bts s))).size = (dblL (bts s)).length := by rw [← bts_len]; rfl
    rw [bts_len] at h1
    omega
  have hbee := bee_text
  clear hv hV hE hm
  generalize str (dblL (bts s)) = D at *
  generalize textP ⟨#[98, 101, 101]⟩ = BT at *
  generalize textP s = TS at *
  generalize pseN n m = pm at *
  generalize checkAll n m = f at *
  go_enter Tryz.func4, Tryz.ntmps4
  go_wp2_with fail
  refine HF.out.mono ?_
  clear HF
  rintro e w1 ⟨rfl, hb1⟩
  have HB1 := Lib.hid hb1
  have HM1 := Lib.hid (HMf.out w1 hb1)
  clear hb1 HMf
  go_wp2_with fail
  refine HM1.out.mono ?_
  clear HM1
  rintro e w2 ⟨rfl, hb2⟩
  have HB2 := Lib.hid (HB1.out.trans (hb2.mono HB1.out.size))
  clear hb2
  go_upto_if 17 with fail
  go_cut [7] (fun u wx => Below w.heap.size w wx ∧ (f = 0 → ListOk (Enc.node n) wx 0 wx.heap.size u pm) ∧ (f ≠ 0 → u = .slice none 0 0))
  case first =>
    clear HMe HEr HLe HTx HVw HTd
    by_cases hf : f = 0
    · subst hf
      have HP2 := Lib.hid (HPs.out w2 HB2.out)
      clear HPs
      go_wp2_with fail
      refine HP2.out.mono ?_
      clear HP2
      rintro e w3 ⟨hb3, u, rfl, hu⟩
      have HB3 := Lib.hid (HB2.out.trans (hb3.mono HB2.out.size))
      have HU := Lib.hid hu
      clear hb3 hu
      go_wp2_with fail
      go_meet
      case rel => exact ⟨HB3.out, fun _ => HU.out.mono (Enc.node_laws n) (Nat.zero_le _) (Nat.le_refl _), fun h => absurd rfl h⟩
    · have hf' : ¬ (f == (0 : Int)) = true := by simpa using hf
      clear HPs
      go_wp2_with fail
      go_meet
      case rel => exact ⟨HB2.out, fun h => absurd h hf, fun _ => rfl⟩
  case rest =>
    clear HPs
    obtain ⟨hb3, hu0, hu1⟩ := hcut
    rename_i u7
    have HU : Hid ((f = 0 → ListOk (Enc.node n) wc 0 wc.heap.size u7 pm) ∧ (f ≠ 0 → u7 = .slice none 0 0)) := Lib.hid ⟨hu0, hu1⟩
    have HB3 := Lib.hid hb3
    have HMe3 := Lib.hid (HMe.out wc hb3)
    clear hb3 hu0 hu1 HMe
    go_wp2_with fail
    refine HMe3.out.mono ?_
    clear HMe3
    rintro e w4 ⟨hb4, x, rfl, hx0, hx1⟩
    have HB4 := Lib.hid (HB3.out.trans (hb4.mono HB3.out.size))
    have hse := serror_any f f w4 (HEr.out w4 HB4.out)
    rw [show decide (f = f) = true from decide_eq_true rfl] at hse
    have HSe := Lib.hid hse
    have HSm : Hid (∀ W, Below w4.heap.size w4 W → Calls Tryz.prog 13 #[x, u7] W fun e w' => e = .returned (.bool true) ∧ Below W.heap.size W w') := Lib.hid fun W hW => by
      by_cases hf : f = 0
      · have e1 := HU.out.1 hf
        have e2 := hx0 hf
        have hb5 := hb4.trans (hW.mono hb4.size)
        exact smsg_same n pm x u7 _ _ _ _ W HLe.out (e2.below (Enc.node_laws n) hW) (e1.below (Enc.node_laws n) hb5) hW.size hb5.size
      · obtain rfl := HU.out.2 hf
        obtain rfl := hx1 hf
        exact smsg_same n ([] : List (Nd n)) _ _ 0 0 0 0 W ⟨Nat.zero_le _, fun x hx => nomatch hx⟩ (ListOk.nil 0 none) (ListOk.nil 0 none) (Nat.zero_le _) (Nat.zero_le _)
    clear hse hb4 hx0 hx1 HU HLe HEr
    go_wp2_with fail
    refine HSe.out.mono ?_
    clear HSe
    rintro e w5 ⟨rfl, hb5⟩
    have HB5 := Lib.hid (HB4.out.trans (hb5.mono HB4.out.size))
    have HSm5 := Lib.hid (HSm.out w5 hb5)
    clear hb5 HSm
    go_wp2_with fail
    refine HSm5.out.mono ?_
    clear HSm5
    rintro e w6 ⟨rfl, hb6⟩
    have HB6 := Lib.hid (HB5.out.trans (hb6.mono HB5.out.size))
    clear hb6
    have q1 : ¬ (9223372036854775807 < 1 + D.size) := by omega
    have q2 : ¬ (9223372036854775807 < 1 + D.size + 1) := by omega
    go_wp2_with fail
    refine (HTx.out w6).mono ?_
    clear HTx
    rintro e w7 ⟨rfl, hb7⟩
    have HB7 := Lib.hid (HB6.out.trans (hb7.mono HB6.out.size))
    clear hb7
    go_wp2_with fail
    refine (HVw.out w7).mono ?_
    clear HVw
    rintro e w8 ⟨rfl, n8, rfl⟩
    have hts : TS = (⟨#[91]⟩ : ByteArray) ++ D ++ (⟨#[93]⟩ : ByteArray) := HTd.out
    subst hts
    go_wp2_with fail
    go_ret
    exact ⟨rfl, below_drawnM HB7.out n8⟩
end Go.Proofs.YtokjbdefkfdhhaaGreatDoor
