/- linguisterref2.Clean at any depth; PseudoOf. -/
import Derived.Test.YtjdfpoppimcikaaGreatDoorClean
import Derived.Test.YtjdfpoppimcikaaGreatDoorPMsgW
import Derived.Test.YtjdfpoppimcikaaGreatDoorNamesA
import Derived.Test.YtjdfpoppimcikaaGreatDoorMsgE
import Derived.Test.YtjdfpoppimcikaaGreatDoorSayB
import Derived.Test.YtjdfpoppimcikaaGreatDoorWipW
namespace Go.Proofs.YtjdfpoppimcikaaGreatDoor
open Go.RowKit

section
variable {α : Type}
theorem step_set (f : α → α) : ∀ (l : List α) (q : Nat) (h : q < l.length), ((l.take q).map f ++ l.drop q).set q (f l[q]) = (l.take (q + 1)).map f ++ l.drop (q + 1)
  | [], q, h => by cases h
  | x :: l, 0, _ => by simp
  | x :: l, q + 1, h => by
    have := step_set f l q (by simpa using h)
    simpa using this
theorem mid_len (f : α → α) (l : List α) (q : Nat) : ((l.take q).map f ++ l.drop q).length = l.length := by
  rw [List.length_append, List.length_map, List.length_take, List.length_drop]; omega
theorem mid_at (f : α → α) : ∀ (l : List α) (q : Nat) (h : q < l.length), ((l.take q).map f ++ l.drop q)[q]'(by rw [mid_len]; exact h) = l[q]
  | [], q, h => by cases h
  | x :: l, 0, _ => by simp
  | x :: l, q + 1, h => by
    have := mid_at f l q (by simpa using h)
    simpa using this
end
section
variable {β : Type}
theorem plain_len {xs : List (CN β)} {M : List (NdF β)} (h : xs.map CN.plain = M) : xs.length = M.length := by rw [← h, List.length_map]
theorem plain_at {xs : List (CN β)} {M : List (NdF β)} (h : xs.map CN.plain = M) (j : Nat) (hj : j < xs.length) (hM : j < M.length) : xs[j].plain = M[j] := by
  subst h
  rw [List.getElem_map]
theorem plain_text {xs : List (CN β)} {M : List (NdF β)} (h : xs.map CN.plain = M) (j : Nat) (hj : j < xs.length) (t : ByteArray) {y : NdF β} (hy : xs[j].plain = y) : (xs.set j { xs[j] with text := t }).map CN.plain = M.set j { y with text := t } := by
  rw [List.map_set, h, ← hy]; rfl
theorem plain_body {xs : List (CN β)} {M : List (NdF β)} (h : xs.map CN.plain = M) (j : Nat) (hj : j < xs.length) (q : Nat) (b : CB β) {y : NdF β} (hy : xs[j].plain = y) : (xs.set j { xs[j] with bods := xs[j].bods.set q b }).map CN.plain = M.set j { y with cases := y.cases.set q b.plain } := by
  rw [List.map_set, h, ← hy]
  congr 1
  show (⟨_, _, _, (xs[j].bods.set q b).map CB.plain⟩ : NdF β) = ⟨_, _, _, (xs[j].bods.map CB.plain).set q b.plain⟩
  rw [List.map_set]
  rfl
/-- the cells of a node that was made -/
theorem Sep.cells {E : Enc β} {base : Nat} {W : World} {A : Option Addr} {n c : Nat} {xs : List (CN β)} (h : Sep E base W (.slice A n c) xs) (j : Nat) (hj : j < xs.length) :
    n = xs.length ∧ ∃ g, A = some ⟨g, 0, none⟩ ∧ base ≤ g ∧ g < W.heap.size ∧ W.cell? ⟨g, j * 4, none⟩ = some (.int .i64 xs[j].kind) ∧ W.cell? ⟨g, j * 4 + 1, none⟩ = some (.string xs[j].text) ∧ W.cell? ⟨g, j * 4 + 3, none⟩ = some xs[j].v ∧ ∀ k, W.frozen? ⟨g, k, none⟩ = false := by
  obtain ⟨A', c', hv, _⟩ := own_slice h.row
  injection hv with _ hn _
  subst hn
  refine ⟨rfl, ?_⟩
  obtain ⟨g, hA, h1, h2, h3, h4⟩ := own_at h.row (j * 4) (by omega)
  have hat := flatM_at xs j hj
  have hc : ∀ q u, q < 4 → (CN.row xs[j])[q]? = some u → W.cell? ⟨g, j * 4 + q, none⟩ = some u := fun q u hq hu => by
    obtain ⟨g', hA', _, _, h3', _⟩ := own_at h.row (j * 4 + q) (by omega)
    rw [hA] at hA'
    injection hA' with hA'
    injection hA' with hA'
    subst hA'
    rw [h3', ← hu, ← hat, List.getElem?_take, if_pos hq, List.getElem?_drop]
  refine ⟨g, hA, h1, h2, hc 0 _ (by decide) rfl, hc 1 _ (by decide) rfl, hc 3 _ (by decide) rfl, ?_⟩
  obtain ⟨_, ⟨_, h0⟩ | ⟨g', cap, cur, hv', hb', hh, _⟩⟩ := h.row
  · omega
  · rw [hA] at hv'
    injection hv' with e1
    injection e1 with e1
    injection e1 with e1
    subst e1
    exact fun k => Blk.frozen (t := 30) (cs := cur) hh k
/-- the cells of a case that was made -/
theorem Sep.body {E : Enc β} {base : Nat} {W : World} {out : Value} {xs : List (CN β)} (h : Sep E base W out xs) (j : Nat) (hj : j < xs.length) (q : Nat) (hq : q < xs[j].bods.length) :
    ∃ r c, xs[j].v = .slice (some ⟨r, 0, none⟩) xs[j].bods.length c ∧ base ≤ r ∧ r < W.heap.size ∧ W.cell? ⟨r, q * 2 + 1, none⟩ = some xs[j].bods[q].u ∧ W.frozen? ⟨r, q * 2 + 1, none⟩ = false := by
  have hc := h.cas _ (List.getElem_mem hj)
  obtain ⟨A, c, hv, _⟩ := own_slice hc
  rw [hv] at hc
  obtain ⟨r, hA, h1, h2, h3, h4⟩ := own_at hc (q * 2 + 1) (by omega)
  refine ⟨r, c, by rw [hv, hA], h1, h2, ?_, h4⟩
  have hat := flatC_at xs[j].bods q hq
  have e : (flatC xs[j].bods)[q * 2 + 1]? = (CB.row xs[j].bods[q])[1]? := by rw [← hat, List.getElem?_take, if_pos (by decide), List.getElem?_drop]
  rw [h3, e]; rfl
end
end Go.Proofs.YtjdfpoppimcikaaGreatDoor
/- linguisterref2.PseudoOf: the walk; at any depth. -/

namespace Go.Proofs.YtjdfpoppimcikaaGreatDoor
open Go.RowKit

end Go.Proofs.YtjdfpoppimcikaaGreatDoor
/- pseudo.Message; linguisterlaw4.PseudoTells. -/

namespace Go.Proofs.YtjdfpoppimcikaaGreatDoor
open Go.RowKit

theorem message_any : (n : Nat) → (m : List (Nd n)) → (v : Value) → (lo : Nat) → (w : World) → MsgIn n m → ListOk (Enc.node n) w lo w.heap.size v m →
    Calls Tryz.prog 27 #[v] w fun e w' => Below w.heap.size w w' ∧ ∃ u, e = .returned u ∧ ListOk (Enc.node n) w' w.heap.size w'.heap.size u (pseN n m)
  | 0, m, v, lo, w, hm, hv => by
    obtain rfl := empty_list m
    obtain ⟨A, c, rfl, _⟩ := hv.form
    have h := message_walk (E := Enc.none_) Enc.none_laws (fun l => l) ([] : List (NdF Empty)) (.slice A 0 c) lo w (ListOk.nil c A) (Nat.zero_le _) (Lib.hid fun x hx => by cases hx) (Lib.hid fun x hx => by cases hx)
    refine h.mono ?_
    rintro e w' ⟨hb, out, xs, rfl, hx, hs⟩
    obtain rfl : xs = [] := by simpa using hx
    obtain ⟨B, d, hv', _⟩ := own_slice hs.row
    exact ⟨hb, _, rfl, by rw [hv']; exact ListOk.nil d B⟩
  | n + 1, m, v, lo, w, hm, hv => by
    refine (message_walk (E := Enc.node n) (Enc.node_laws n) (pseN n) (m : List (NdF (Nd n))) v lo w hv hm.len
      (Lib.hid fun x hx => by have h1 : smallF (SmallN n) x := hm.each x hx; exact ⟨h1.1, h1.2.1⟩)
      (Lib.hid fun x hx c hc W U _ hU => message_any n c.2 U lo W (hm.body hx (casesR_sub hc)) hU)).mono ?_
    rintro e w' ⟨hb, out, xs, rfl, hx, hs⟩
    refine ⟨hb, _, rfl, ?_⟩
    have h := hs.list (Enc.node_laws n) (Nat.le_refl _) (Nat.le_refl _)
    rw [hx] at h
    exact h
set_option maxHeartbeats 1600000 in
set_option maxRecDepth 100000 in
theorem Message_any (n : Nat) (m : List (Nd n)) (v : Value) (lo : Nat) (w : World) (hm : MsgIn n m) (hv : ListOk (Enc.node n) w lo w.heap.size v m) (hV : MV w) :
    Calls Tryz.prog 14 #[v] w fun e w' => Below w.heap.size w w' ∧ ∃ u, e = .returned (.tuple #[u, errV (checkAll n m)]) ∧ (checkAll n m = 0 → ListOk (Enc.node n) w' w.heap.size w'.heap.size u (pseN n m)) ∧ (checkAll n m ≠ 0 → u = .slice none 0 0) := by
  have HC := Lib.hid (Check_any n m v lo w hm hv hV)
  have HM : Hid (∀ W, Below w.heap.size w W → Calls Tryz.prog 27 #[v] W fun e w' => Below W.heap.size W w' ∧ ∃ u, e = .returned u ∧ ListOk (Enc.node n) w' W.heap.size w'.heap.size u (pseN n m)) := Lib.hid fun W hW =>
    message_any n m v lo W hm ((hv.below (Enc.node_laws n) hW).mono (Enc.node_laws n) (Nat.le_refl _) hW.size)
  generalize checkAll n m = f at *
  clear hv hV hm
  go_enter Tryz.func14, Tryz.ntmps14
  go_wp2_with fail
  refine HC.out.mono ?_
  clear HC
  rintro e w1 ⟨rfl, hb1⟩
  have HB1 := Lib.hid hb1
  have HM1 := Lib.hid (HM.out w1 hb1)
  clear hb1 HM
  by_cases hf : f = 0
  · subst hf
    rw [errV_zero]
    go_wp2_with fail
    refine HM1.out.mono ?_
    clear HM1
    rintro e w2 ⟨hb2, u, rfl, hu⟩
    have HB2 := Lib.hid (HB1.out.trans (hb2.mono HB1.out.size))
    have hu2 := hu.mono (Enc.node_laws n) HB1.out.size (Nat.le_refl _)
    obtain ⟨UA, Uc, rfl, _⟩ := hu.form
    have HU := Lib.hid hu2
    clear hb2 hu hu2
    go_wp2_with fail
    go_ret2
    refine ⟨HB2.out, _, rfl, ?_⟩
    first | exact ⟨HU.out, trivial⟩ | exact HU.out | exact ⟨fun _ => HU.out, fun h => absurd rfl h⟩
  · rw [errV_ne hf]
    clear HM1
    go_wp2_with fail
    go_ret2
    exact ⟨HB1.out, .slice none 0 0, by rw [errV_ne hf]; rfl, fun h => absurd h hf, fun _ => rfl⟩
theorem pse_lens : (n : Nat) → (m : List (Nd n)) → MsgIn n m → LenIn n (pseN n m)
  | 0, _, _ => ⟨Nat.zero_le _, fun x hx => nomatch hx⟩
  | n + 1, m, h => by
    have hl : ((m : List (NdF (Nd n))).map (pseX (pseN n))).length = m.length := List.length_map _
    refine ⟨?_, fun x hx => ?_⟩
    · show ((m : List (NdF (Nd n))).map (pseX (pseN n))).length ≤ _
      rw [hl]; exact h.len
    · obtain ⟨y, hy, rfl⟩ := List.mem_map.1 (show x ∈ (m : List (NdF (Nd n))).map (pseX (pseN n)) from hx)
      have h1 : smallF (SmallN n) y := h.each y hy
      show lenF (LenN n) (pseX (pseN n) y)
      refine ⟨?_, fun c hc => ?_⟩
      · show ((casesR y).map _).length ≤ _
        rw [List.length_map]
        exact Nat.le_trans (casesR_len y) h1.2.1
      · obtain ⟨d, hd, rfl⟩ := List.mem_map.1 (show c ∈ (casesR y).map (fun c => (c.1, pseN n c.2)) from hc)
        have h3 := pse_lens n d.2 (h.body hy (casesR_sub hd))
        exact ⟨h3.len, h3.each⟩
theorem bee_text : ((textP ⟨#[98, 101, 101]⟩).toList == [91, 98, 101, 101, 101, 101, 93]) = true := by decide +kernel
end Go.Proofs.YtjdfpoppimcikaaGreatDoor
/- linguisterlaw5.MsgOwn. -/

namespace Go.Proofs.YtjdfpoppimcikaaGreatDoor
open Go.RowKit

def factP : List UInt8 := [123, 97, 125]
theorem factP_ok : parE factP = 0 := by decide +kernel
theorem factP_one : (parM factP).length = 1 := by decide +kernel
/-- the message that Parse tells -/
def parG (l : List UInt8) : List (Nd 7) := if parE l = 0 then parM l else []
theorem parG_bulk (l : List UInt8) : ((parG l).map (Enc.node 7).bulk).sum ≤ 6000 := by
  unfold parG
  by_cases h : parE l = 0
  · rw [if_pos h]
    by_cases hl : 2000 < l.length
    · rw [parE_long hl] at h; exact absurd h (by decide)
    · cases ho : readM 7 false l with
      | none => rw [parE_none hl ho] at h; exact absurd h (by decide)
      | some p =>
        obtain ⟨m, r⟩ := p
        cases r with
        | cons x r => rw [parE_rest hl ho] at h; exact absurd h (by decide)
        | nil =>
          rw [(parE_read hl ho).2]
          have := readM_len 7 false l m [] ho
          simp only [List.length_nil] at this
          omega
  · rw [if_neg h]; exact Nat.zero_le _
theorem parG_in (l : List UInt8) : MsgIn 7 (parG l) := msgIn_of_bulk 7 _ (Nat.le_trans (parG_bulk l) (by decide))
theorem parG_cnt (l : List UInt8) : cntN 7 (parG l) ≤ 10000000 := Nat.le_trans (cnt_of_bulk 7 _) (Nat.le_trans (parG_bulk l) (by decide))
theorem bts_back (s : ByteArray) : str (bts s) = s := str_bts s
/-- a message that lies in memory, in whatever world behind -/
theorem mkN_later {n lo hi : Nat} {w W : World} {v : Value} {m : List (Nd n)} (h : MkN n lo hi w v m) (hb : Below hi w W) (hs : hi ≤ w.heap.size) : ListOk (Enc.node n) W 0 W.heap.size v m :=
  (((mkN_laws n).keep h fun g _ g2 => hb.block g g2).list).mono (Enc.node_laws n) (Nat.zero_le _) (Nat.le_trans hs hb.size)
set_option maxHeartbeats 6400000 in
set_option maxRecDepth 100000 in
theorem msgOwn_any (s lang : ByteArray) (args : List ArgV) (vA : Value) (x : ByteArray) (w : World) (hi : ∀ m : List (Nd 7), (m.map (Enc.node 7).bulk).sum ≤ 1048576 → SayIn 7 m args) (hL : lang.size ≤ maxLen) (hA : ListOk Enc.argV w 0 w.heap.size vA args) (hV : EvV w) :
    Calls Tryz.prog 4 #[.string s, .string lang, vA, .string x] w fun e w' => e = .returned (.bool true) ∧ Below w.heap.size w w' := by
  obtain ⟨A, c, rfl, _⟩ := hA.form
  have HP0 : Hid (Calls Tryz.prog 9 #[.string ⟨#[123, 97, 125]⟩] w fun e w' => ParR factP w e w') := Lib.hid (mParse_any factP w hV.mv)
  have HPs : Hid (∀ W, Below w.heap.size w W → Calls Tryz.prog 9 #[.string s] W fun e w' => Below W.heap.size W w' ∧ ∃ v, e = .returned (.tuple #[v, errV (parE (bts s))]) ∧ MkN 7 W.heap.size w'.heap.size w' v (parG (bts s))) := Lib.hid fun W hW => by
    have h1 := mParse_any (bts s) W (hV.below hW).mv
    rw [str_bts] at h1
    exact h1
  obtain ⟨G, hG⟩ : ∃ G, G = parG (bts s) := ⟨_, rfl⟩
  have hbk := parG_bulk (bts s)
  have hin := parG_in (bts s)
  have hct := parG_cnt (bts s)
  rw [← hG] at HPs hbk hin hct
  have hSI := hi G (Nat.le_trans hbk (by decide))
  have HSay : Hid (∀ W v, Below w.heap.size w W → ListOk (Enc.node 7) W 0 W.heap.size v G → Calls Tryz.prog 6 #[v, .string lang, .slice A args.length c] W fun e w' => (∃ r, e = .returned r) ∧ Below W.heap.size W w') := Lib.hid fun W v hW hv =>
    (Say_any 7 G v lang args (.slice A args.length c) 0 0 W hSI hL hv ((hA.below Enc.argV_laws hW).mono Enc.argV_laws (Nat.le_refl _) hW.size) (hV.below hW)).mono fun e w' ⟨h1, h2⟩ => ⟨⟨_, h1⟩, h2⟩
  have HOf : Hid (∀ W v, Below w.heap.size w W → ListOk (Enc.node 7) W 0 W.heap.size v G → Calls Tryz.prog 12 #[v] W fun e w' => (∃ r, e = .returned r) ∧ Below W.heap.size W w') := Lib.hid fun W v hW hv =>
    (Of_any 7 G v 0 W hin hct hv (hV.below hW).mv).mono fun e w' ⟨h1, u, h2, _⟩ => ⟨⟨_, h2⟩, h1⟩
  have HFi : Hid (∀ W v, Below w.heap.size w W → ListOk (Enc.node 7) W 0 W.heap.size v G → Calls Tryz.prog 13 #[v, .slice A args.length c] W fun e w' => (∃ r, e = .returned r) ∧ Below W.heap.size W w') := Lib.hid fun W v hW hv =>
    (fits_any 7 G v 0 args (.slice A args.length c) 0 W hin hct hv (hV.below hW).mv ((hA.below Enc.argV_laws hW).mono Enc.argV_laws (Nat.le_refl _) hW.size) hSI.len (Lib.hid fun a ha => Nat.le_trans (hSI.name a ha) (by decide))).mono fun e w' ⟨h1, h2⟩ => ⟨⟨_, h1⟩, h2⟩
  have HPs2 : Hid (∀ W v, Below w.heap.size w W → ListOk (Enc.node 7) W 0 W.heap.size v G → Calls Tryz.prog 14 #[v] W fun e w' => (∃ r, e = .returned r) ∧ Below W.heap.size W w') := Lib.hid fun W v hW hv =>
    (Message_any 7 G v 0 W hin hv (hV.below hW).mv).mono fun e w' ⟨h1, u, h2, _⟩ => ⟨⟨_, h2⟩, h1⟩
  have HSm : Hid (∀ W u v, ListOk (Enc.node 7) W 0 W.heap.size u G → ListOk (Enc.node 7) W 0 W.heap.size v G → Calls Tryz.prog 11 #[u, v] W fun e w' => e = .returned (.bool true) ∧ Below W.heap.size W w') := Lib.hid fun W u v hu hv =>
    smsg_same 7 G u v 0 0 _ _ W hin.lens hu hv (Nat.le_refl _) (Nat.le_refl _)
  have HWp : Hid (∀ lo hi W v, MkN 7 lo hi W v G → Calls Tryz.prog 10 #[v, .string x] W fun e w' => e = .returned (.tuple #[]) ∧ Below lo W w') := Lib.hid fun lo hi W v h =>
    (wipe_any lo x 7 v W (MkN.shape 7 hin h)).mono fun e w' ⟨h1, h2⟩ => ⟨h1, h2.below⟩
  have HLn := Lib.hid factP_one
  have HOk := Lib.hid factP_ok
  have her : ∃ er, er = errV (parE (bts s)) ∧ (er = .nilIface ∨ ∃ z, er = .iface 67 (.int .i64 z)) := ⟨_, rfl, by
    by_cases h : parE (bts s) = 0
    · exact .inl (by rw [h]; rfl)
    · exact .inr ⟨_, errV_ne h⟩⟩
  obtain ⟨er, her1, her2⟩ := her
  rw [← her1] at HPs
  clear her1 hG hbk hin hct hSI hi hV hA hL
  rcases her2 with rfl | ⟨z, rfl⟩
  all_goals
    go_enter Tryz.func4, Tryz.ntmps4
    go_wp2_with fail
    refine HP0.out.mono ?_
    clear HP0
    rintro e w1 ⟨hb1, v0, rfl, hk0⟩
    rw [HOk.out, if_pos rfl] at hk0
    obtain ⟨A0, c0, rfl⟩ := hk0.form
    rw [HOk.out, errV_zero, HLn.out]
    have HB1 := Lib.hid hb1
    have HP1 := Lib.hid (HPs.out w1 hb1)
    clear hb1 hk0
    go_wp2_with fail
    refine HP1.out.mono ?_
    clear HP1
    rintro e w2 ⟨hb2, vm, rfl, hm2⟩
    obtain ⟨Am, cm, rfl⟩ := hm2.form
    have HB2 := Lib.hid (HB1.out.trans (hb2.mono HB1.out.size))
    have HMl : Hid (∀ W, Below w2.heap.size w2 W → ListOk (Enc.node 7) W 0 W.heap.size (.slice Am G.length cm) G) := Lib.hid fun W hW => mkN_later hm2 hW (Nat.le_refl _)
    have HP2 := Lib.hid (HPs.out w2 HB2.out)
    clear hb2 hm2
    go_wp2_with fail
    refine HP2.out.mono ?_
    clear HP2
    rintro e w3 ⟨hb3, vk, rfl, hk3⟩
    obtain ⟨Ak, ck, rfl⟩ := hk3.form
    have HB23 := Lib.hid hb3
    have HW3 := Lib.hid (HWp.out _ _ _ _ hk3)
    have hW3d : ∀ n, MkN 7 w2.heap.size w3.heap.size (w3.drewN n) (.slice Ak G.length ck) G := fun n => (mkN_laws 7).keep hk3 fun _ _ _ => rfl
    have HW3 : Hid (∀ n, Calls Tryz.prog 10 #[.slice Ak G.length ck, .string x] (w3.drewN n) fun e w' => e = .returned (.tuple #[]) ∧ Below w2.heap.size (w3.drewN n) w') := Lib.hid fun n => HWp.out _ _ _ _ (hW3d n)
    clear hb3 hk3 hW3d
    go_wp2_with fail
    go_quiet (fail)
    go_wp2_with fail
    refine (HW3.out _).mono ?_
    clear HW3
    rintro e w4 ⟨rfl, hb4⟩
    have HB24 := Lib.hid ((below_drewN HB23.out _).trans hb4)
    have HB4 := Lib.hid (HB2.out.trans (HB24.out.mono HB2.out.size))
    have HP4 := Lib.hid (HPs.out w4 HB4.out)
    clear hb4
    go_wp2_with fail
    refine HP4.out.mono ?_
    clear HP4
    rintro e w5 ⟨hb5, va, rfl, ha5⟩
    obtain ⟨Aa, ca, rfl⟩ := ha5.form
    have HAl : Hid (∀ W, Below w5.heap.size w5 W → ListOk (Enc.node 7) W 0 W.heap.size (.slice Aa G.length ca) G) := Lib.hid fun W hW => mkN_later ha5 hW (Nat.le_refl _)
    have HB25 := Lib.hid (HB24.out.trans (hb5.mono HB24.out.size))
    have HB5 := Lib.hid (HB4.out.trans (hb5.mono HB4.out.size))
    have HS5 := Lib.hid (HSm.out w5 _ _ (HAl.out w5 (Below.refl _ _)) (HMl.out w5 HB25.out))
    clear hb5 ha5
    go_wp2_with fail
    refine HS5.out.mono ?_
    clear HS5
    rintro e w6 ⟨rfl, hb6⟩
    have HB56 := Lib.hid hb6
    have HB26 := Lib.hid (HB25.out.trans (hb6.mono HB25.out.size))
    have HB6 := Lib.hid (HB5.out.trans (hb6.mono HB5.out.size))
    have HQ6 := Lib.hid (HSay.out w6 _ HB6.out (HMl.out w6 HB26.out))
    clear hb6
    go_wp2_with fail
    refine HQ6.out.mono ?_
    clear HQ6
    rintro e w7 ⟨⟨r7, rfl⟩, hb7⟩
    have HB57 := Lib.hid (HB56.out.trans (hb7.mono HB56.out.size))
    have HB27 := Lib.hid (HB26.out.trans (hb7.mono HB26.out.size))
    have HB7 := Lib.hid (HB6.out.trans (hb7.mono HB6.out.size))
    have HQ7 := Lib.hid (HOf.out w7 _ HB7.out (HMl.out w7 HB27.out))
    clear hb7
    go_wp2_with fail
    refine HQ7.out.mono ?_
    clear HQ7
    rintro e w8 ⟨⟨r8, rfl⟩, hb8⟩
    have HB58 := Lib.hid (HB57.out.trans (hb8.mono HB57.out.size))
    have HB28 := Lib.hid (HB27.out.trans (hb8.mono HB27.out.size))
    have HB8 := Lib.hid (HB7.out.trans (hb8.mono HB7.out.size))
    have HQ8 := Lib.hid (HFi.out w8 _ HB8.out (HMl.out w8 HB28.out))
    clear hb8
    go_wp2_with fail
    refine HQ8.out.mono ?_
    clear HQ8
    rintro e w9 ⟨⟨r9, rfl⟩, hb9⟩
    have HB59 := Lib.hid (HB58.out.trans (hb9.mono HB58.out.size))
    have HB29 := Lib.hid (HB28.out.trans (hb9.mono HB28.out.size))
    have HB9 := Lib.hid (HB8.out.trans (hb9.mono HB8.out.size))
    have HQ9 := Lib.hid (HPs2.out w9 _ HB9.out (HMl.out w9 HB29.out))
    clear hb9
    go_wp2_with fail
    refine HQ9.out.mono ?_
    clear HQ9
    rintro e w10 ⟨⟨r10, rfl⟩, hb10⟩
    have HB510 := Lib.hid (HB59.out.trans (hb10.mono HB59.out.size))
    have HB210 := Lib.hid (HB29.out.trans (hb10.mono HB29.out.size))
    have HB10 := Lib.hid (HB9.out.trans (hb10.mono HB9.out.size))
    have HS10 := Lib.hid (HSm.out w10 _ _ (HAl.out w10 HB510.out) (HMl.out w10 HB210.out))
    clear hb10
    go_wp2_with fail
    refine HS10.out.mono ?_
    clear HS10
    rintro e w11 ⟨rfl, hb11⟩
    have HB11 := Lib.hid (HB10.out.trans (hb11.mono HB10.out.size))
    clear hb11
    go_wp2_with fail
    go_quiet (fail)
    go_wp2_with fail
    go_ret
    exact ⟨rfl, below_drewN HB11.out _⟩
end Go.Proofs.YtjdfpoppimcikaaGreatDoor
