/- names.Of; linguistersame.Args at the same. -/
import Derived.Laws.StructEq
import Derived.Deep.QuietTactic
import Derived.BigQuiet
import Derived.Test.YtokjbdefkfdhhaaGreatDoorNamesD
namespace Go.Proofs.YtokjbdefkfdhhaaGreatDoor
open Go.RowKit

def argV (x : Ned) : List Value := [.string x.name, .bool x.num, .int .i64 0, .int .i64 0, .string ByteArray.empty]
def flatG (l : List Ned) : List Value := l.flatMap argV
theorem flatG_snoc (l : List Ned) (x : Ned) : flatG (l ++ [x]) = flatG l ++ argV x := by simp [flatG]
theorem flatG_length (l : List Ned) : (flatG l).length = l.length * 5 := by
  induction l with
  | nil => rfl
  | cons p l ih => show (argV p ++ flatG l).length = _; rw [List.length_append, ih]; simp [argV]; omega
theorem flatG_at : ∀ (l : List Ned) (i : Nat) (h : i < l.length), ((flatG l).drop (i * 5)).take 5 = argV l[i]
  | [], i, h => by cases h
  | p :: l, 0, _ => by show ((argV p ++ flatG l).drop (0 * 5)).take 5 = _; simp [argV]
  | p :: l, i + 1, h => by
    have ih := flatG_at l i (by simpa using h)
    show ((argV p ++ flatG l).drop ((i + 1) * 5)).take 5 = _
    rw [show (i + 1) * 5 = (argV p).length + i * 5 from by simp [argV]; omega, List.drop_append, List.drop_eq_nil_of_le (Nat.le_add_right _ _), Nat.add_sub_cancel_left]
    exact ih
def Enc.argN : Enc Ned := ⟨5, 56, fun _ _ _ cs x => cs = argV x, fun _ _ => True, fun _ => 1⟩
theorem Enc.argN_laws : Enc.argN.Laws := ⟨fun h => by cases h; rfl, fun h _ => h, fun h _ _ => h⟩
theorem args_of_own {w : World} {base lo hi : Nat} {v : Value} {l : List Ned} (h : w.ownsRow base 34 5 v l.length (flatG l)) (hb : lo ≤ base) (hs : w.heap.size ≤ hi) : ListOk Enc.argN w lo hi v l :=
  ListOk.of_own (E := Enc.argN) h hb hs fun i hl => flatG_at l i hl
theorem ListOk.argAt {w : World} {lo hi : Nat} {A : Option Addr} {n c : Nat} {l : List Ned} (h : ListOk Enc.argN w lo hi (.slice A n c) l) (i : Nat) (hl : i < l.length) :
    ∃ b o, A = some ⟨b, o, none⟩ ∧ lo ≤ b ∧ b < hi ∧ w.cell? ⟨b, o + i * 5, none⟩ = some (.string l[i].name) ∧ w.cell? ⟨b, o + i * 5 + 1, none⟩ = some (.bool l[i].num) ∧ w.cell? ⟨b, o + i * 5 + 2, none⟩ = some (.int .i64 0) ∧ w.cell? ⟨b, o + i * 5 + 3, none⟩ = some (.int .i64 0) ∧ w.cell? ⟨b, o + i * 5 + 4, none⟩ = some (.string ByteArray.empty) := by
  obtain ⟨A', c', hv, _, hi'⟩ := h
  injection hv with hv1 _ _
  subst hv1
  obtain ⟨b, o, cs, hA, h1, h2, h3, h4⟩ := hi' i hl
  have h4' : cs = argV l[i] := h4
  subst h4'
  exact ⟨b, o, hA, h1, h2, h3 0 _ rfl, h3 1 _ rfl, h3 2 _ rfl, h3 3 _ rfl, h3 4 _ rfl⟩
theorem info_argN : (Tryz.prog.info? 34).map (fun i => (i.zero, i.size, i.bytes)) = some (some (.agg #[.string ByteArray.empty, .bool false, .int .i64 0, .int .i64 0, .string ByteArray.empty]), 5, 56) := by kernel_rfl
theorem five_news (w : World) (a b c d e : Value) (t : TypeId) : ∀ q u, ([a, b, c, d, e] : List Value)[q]? = some u → (w.alloc (.cells #[a, b, c, d, e] t)).cell? ⟨w.heap.size, 0 + q, none⟩ = some u := fun q u hq => by
  rw [Nat.zero_add, (Blk.new w t #[a, b, c, d, e]).cell q]; simpa using hq
set_option maxHeartbeats 3200000 in
set_option maxRecDepth 100000 in
theorem Of_any (n : Nat) (m : List (Nd n)) (v : Value) (lo : Nat) (w : World) (hm : MsgIn n m) (hc : cntN n m ≤ 10000000) (hv : ListOk (Enc.node n) w lo w.heap.size v m) (hV : MV w) :
    Calls Tryz.prog 5 #[v] w fun e w' => Below w.heap.size w w' ∧ ∃ u, e = .returned (.tuple #[u, errV (ofR n m).1]) ∧ w'.ownsRow w.heap.size 34 5 u (ofR n m).2.length (flatG (ofR n m).2) := by
  have HO := Lib.hid (of_any n m v lo w hm hc hv hV)
  have hlen : (ofR n m).2.length ≤ 10000000 := by
    have h := allN_len n m []
    simp at h
    unfold ofR
    split
    · exact Nat.zero_le _
    · split
      · exact Nat.zero_le _
      · show (allN n m []).length ≤ _; omega
  have hnil : (ofR n m).1 ≠ 0 → (ofR n m).2 = [] := by
    unfold ofR
    split
    · exact fun _ => rfl
    · split
      · exact fun _ => rfl
      · exact fun h => absurd rfl h
  generalize ofR n m = R at *
  obtain ⟨f, L⟩ := R
  dsimp only at HO hlen hnil ⊢
  clear hv hV hm hc
  go_enter Tryz.func5, Tryz.ntmps5
  go_wp2_with fail
  refine HO.out.mono ?_
  clear HO
  rintro e w1 ⟨hb1, u, rfl, hr1⟩
  have HB1 := Lib.hid hb1
  obtain ⟨UA, Uc, rfl, _⟩ := own_slice hr1
  by_cases h0 : f = 0
  · subst h0
    rw [errV_zero]
    have HL : Hid (∀ W, Below w1.heap.size w1 W → ListOk Enc.ned W 0 w1.heap.size (.slice UA L.length Uc) L) := Lib.hid fun W hW => (neds_of_own hr1 (Nat.zero_le _) (Nat.le_refl _)).below Enc.ned_laws hW
    have hs1 := hb1.size
    clear hb1 hr1 hnil
    go_wp2_with fail
    go_loopw [6, 8, 19] (fun o _ i wr => ∃ j : Nat, j ≤ L.length ∧ i = .int .i64 (j : Int) ∧ wr.ownsRow w1.heap.size 34 5 o (L.take j).length (flatG (L.take j)) ∧ Below w1.heap.size w1 wr) (fun _ _ i _ => L.length - (intOf i).toNat)
    case atStart => exact ⟨0, Nat.zero_le _, rfl, own_nil, Below.refl _ _⟩
    case round =>
      obtain ⟨j, hj, rfl, hown, hb⟩ := hrel
      have HO := Lib.hid hown
      have HB := Lib.hid hb
      have hbs := hb.size
      have htl : (L.take j).length = j := by rw [List.length_take]; omega
      obtain ⟨OA, Oc, rfl, _⟩ := own_slice hown
      by_cases hlt : j < L.length
      · have i1 : (0 : Int) ≤ (j : Int) := Int.natCast_nonneg j
        have i2 : (j : Int) < (L.length : Int) := by omega
        have HTk : Hid (L.take (j + 1) = L.take j ++ [L[j]]) := Lib.hid (List.take_succ_eq_append_getElem hlt)
        obtain ⟨b0, o0, rfl, _, _, x0, x1, x2⟩ := (HL.out _ hb).nedAt j hlt
        rw [htl] at HO ⊢
        generalize L[j] = x at *
        obtain ⟨y0, y1, y2⟩ := x
        dsimp only at x0 x1 x2
        clear hown hb
        have HN5 : Hid (∀ q u, ([Value.string y0, .bool y1, .int .i64 0, .int .i64 0, .string ⟨#[]⟩] : List Value)[q]? = some u → ((wr.alloc (.cells #[.string y0, .bool y1, .bool y2] 52)).alloc (.cells #[.string y0, .bool y1, .int .i64 0, .int .i64 0, .string ⟨#[]⟩] 34)).cell? ⟨wr.heap.size + 1, 0 + q, none⟩ = some u) := Lib.hid (by
          have h := five_news (wr.alloc (.cells #[.string y0, .bool y1, .bool y2] 52)) (.string y0) (.bool y1) (.int .i64 0) (.int .i64 0) (.string ⟨#[]⟩) 34
          rwa [World.size_alloc] at h)
        go_wp2_with (at_builtin; refine wpList_append_any rfl _ _ 23 rfl w1.heap.size 34 Tryz.underlying23 info_argN rfl (by decide) (flatG (L.take j)) rfl ((HO.out.alloc _).alloc _) [.string y0, .bool y1, .int .i64 0, .int .i64 0, .string ⟨#[]⟩] rfl rfl (.inr ⟨_, _, rfl, HN5.out⟩) (by simp [Value.oneCell']) (by unfold maxLen; omega) (by omega) (by simp; omega) ?_)
        intro v3 w3 hown3 hgrow3 _
        have HB3 := Lib.hid (((HB.out.alloc hbs _).alloc (by simp; omega) _).grown hgrow3 (by simp; omega) (fun r e => (own_lt HO.out e).1))
        have HO3 : Hid (w3.ownsRow w1.heap.size 34 5 v3 (L.take (j + 1)).length (flatG (L.take (j + 1)))) := Lib.hid (by
          rw [HTk.out, List.length_append, flatG_snoc, htl]
          exact hown3)
        clear hown3 hgrow3
        go_wp2_with fail
        go_roundw
        case rel => exact ⟨j + 1, by omega, by go_num, HO3.out, HB3.out⟩
        case measure => simp [intOf]; omega
      · obtain rfl : j = L.length := by omega
        rw [List.take_length] at HO
        have HF := Lib.hid (HB1.out.trans (HB.out.mono hs1))
        have HOf : Hid (wr.ownsRow w.heap.size 34 5 (.slice OA L.length Oc) L.length (flatG L)) := Lib.hid (own_mono HO.out hs1)
        rw [htl]
        clear hown hb HO
        go_wp2_with fail
        go_ret2
        exact ⟨HF.out, _, rfl, HOf.out⟩
  · rw [errV_ne h0]
    have hL := hnil h0
    subst hL
    clear hb1 hr1
    go_wp2_with fail
    go_ret2
    exact ⟨HB1.out, .slice none 0 0, by rw [errV_ne h0]; rfl, own_nil⟩
set_option maxHeartbeats 1600000 in
set_option maxRecDepth 100000 in
theorem args_same (l : List Ned) (u v : Value) (lo lo' : Nat) (w : World) (hu : ListOk Enc.argN w lo w.heap.size u l) (hv : ListOk Enc.argN w lo' w.heap.size v l) (hn : l.length ≤ 10000000) :
    Calls Tryz.prog 6 #[u, v] w fun e w' => e = .returned (.bool true) ∧ Below w.heap.size w w' := by
  obtain ⟨A, c, rfl, _⟩ := hu.form
  obtain ⟨B, d, rfl, _⟩ := hv.form
  have HU := Lib.hid hu
  have HV := Lib.hid hv
  clear hu hv
  go_enter Tryz.func6, Tryz.ntmps6
  go_wp2_with fail
  go_loopw [5] (fun i wr => ∃ j : Nat, j ≤ l.length ∧ i = .int .i64 j ∧ ∃ n, wr = w.drewN n) (fun i _ => l.length - (intOf i).toNat)
  case atStart => exact ⟨0, Nat.zero_le _, rfl, 0, rfl⟩
  case round =>
    obtain ⟨j, hj, rfl, n, rfl⟩ := hrel
    by_cases hlt : j < l.length
    · have i1 : (0 : Int) ≤ (j : Int) := Int.natCast_nonneg j
      have i2 : (j : Int) < (l.length : Int) := by omega
      obtain ⟨b1, o1, rfl, _, _, x0, x1, x2, x3, x4⟩ := HU.out.argAt j hlt
      obtain ⟨b2, o2, rfl, _, _, y0, y1, y2, y3, y4⟩ := HV.out.argAt j hlt
      generalize l[j] = e at *
      obtain ⟨e0, e1, e2⟩ := e
      dsimp only at x0 x1 y0 y1
      have hk : (e0.toList == e0.toList) = true := by simp
      go_wp2_with fail
      go_quiet (fail)
      go_wp2
      go_roundw
      case rel => exact ⟨j + 1, by omega, by go_num, _, rfl⟩
      case measure => simp [intOf]; omega
    · go_wp2_with fail
      go_ret
      exact ⟨rfl, below_drewN (Below.refl _ _) n⟩
end Go.Proofs.YtokjbdefkfdhhaaGreatDoor
