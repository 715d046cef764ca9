/- The store's calls in one form: what the laws take. -/
import Derived.Test.YtboilcfeegigcaaGreatDoorStoreM
import Derived.Test.YtboilcfeegigcaaGreatDoorStoreQ
import Derived.Test.YtboilcfeegigcaaGreatDoorLists
import Derived.Test.YtboilcfeegigcaaGreatDoorSmall
import Derived.Test.YtboilcfeegigcaaGreatDoorRefH
import Derived.Test.YtboilcfeegigcaaGreatDoorTold
namespace Go.Proofs.YtboilcfeegigcaaGreatDoor
open Go.RowKit Go.Maps

structure Stk (w0 wr : World) (b1 p M : Nat) (vs : List VR) : Prop where
  st : StoreSt w0.heap.size b1 wr p M vs
  below : Below w0.heap.size w0 wr
  hi : b1 ≤ wr.heap.size
section
variable {w0 wr W : World} {b1 p M : Nat} {vs : List VR}
theorem Stk.keep (h : Stk w0 wr b1 p M vs) (hb : Below wr.heap.size wr W) : Stk w0 W b1 p M vs := ⟨h.st.keep hb, h.below.trans (hb.mono h.below.size), Nat.le_trans h.hi hb.size⟩
theorem Stk.fr_below (h : Stk w0 wr b1 p M vs) (hf : Fr wr W (StX p M vs)) : Below w0.heap.size w0 W := Fr.below h.below hf h.below.size fun i hi => h.st.low i hi
theorem stk_new (w0 wr : World) (hb : Below w0.heap.size w0 wr) : Calls Tryz.prog 6 #[] wr fun e w' => ∃ p M, e = .returned (.pointer (some ⟨p, 0, none⟩)) ∧ Stk w0 w' w'.heap.size p M [] ∧ Below wr.heap.size wr w' :=
  (new_any wr).mono fun e w' ⟨p, M, he, hs, hw⟩ => ⟨p, M, he, ⟨⟨⟨Nat.le_trans hb.size hs.lp.1, hs.lp.2⟩, ⟨Nat.le_trans hb.size hs.lM.1, hs.lM.2⟩, hs.box, hs.all, hs.vers, hs.apart⟩, hb.trans (hw.mono hb.size), Nat.le_refl _⟩, hw⟩
def LoadTo (vs : List VR) (l : List Bun) (vs' : List VR) (e : Ending) : Prop :=
  (loadE l ≠ 0 ∧ vs' = vs ∧ e = .returned (.tuple #[.int .i64 0, errV (loadE l)])) ∨
  (loadE l = 0 ∧ ∃ r : VR, r.held = 0 ∧ r.buns = l ∧ vs' = vs ++ [r] ∧ e = .returned (.tuple #[.int .i64 ((vs.length + 1 : Nat) : Int), .nilIface]))
theorem Stk.load (h : Stk w0 wr b1 p M vs) (l : List Bun) (vl : Value) (hl : BunsIn wr vl l) (hm : MaxVar w0) (hn : vs.length ≤ 1200000) :
    Calls Tryz.prog 8 #[.pointer (some ⟨p, 0, none⟩), vl] wr fun e w' => ∃ vs', LoadTo vs l vs' e ∧ Stk w0 w' b1 p M vs' ∧ Fr wr w' (StX p M vs) :=
  (load_any h.st l vl hl (hm.below h.below) hn h.hi).mono fun e w' ⟨hf, hr⟩ => by
    have hb := h.fr_below hf
    rcases hr with ⟨h1, h2, h3⟩ | ⟨h1, r, h2, h3, h4, h5⟩
    · exact ⟨vs, .inl ⟨h1, rfl, h2⟩, ⟨h3, hb, Nat.le_trans h.hi hf.size⟩, hf⟩
    · exact ⟨vs ++ [r], .inr ⟨h1, r, h2, h3, rfl, h4⟩, ⟨h5, hb, Nat.le_trans h.hi hf.size⟩, hf⟩
def PinTo (vs vs' : List VR) (e : Ending) : Prop :=
  (vs = [] ∧ vs' = vs ∧ e = .returned (.tuple #[.int .i64 0, .iface 43 (.int .i64 2)])) ∨
  (∃ i, ∃ hi : i < vs.length, i + 1 = vs.length ∧ vs' = holdV vs i (vs[i].held + 1) hi ∧ e = .returned (.tuple #[.int .i64 vs.length, .nilIface]))
theorem Stk.pin (h : Stk w0 wr b1 p M vs) (hb : ∀ r ∈ vs, r.held ≤ 1000000000) (hl : vs.length ≤ 1300000) :
    Calls Tryz.prog 16 #[.pointer (some ⟨p, 0, none⟩)] wr fun e w' => ∃ vs', PinTo vs vs' e ∧ Stk w0 w' b1 p M vs' ∧ Fr wr w' (StX p M vs) :=
  (pin_any h.st hb hl).mono fun e w' hr => by
    rcases hr with ⟨h1, h2, h3, h4⟩ | ⟨i, hi, h1, h2, h3, h4⟩
    · exact ⟨vs, .inl ⟨h1, rfl, h2⟩, ⟨h3, h.fr_below h4, Nat.le_trans h.hi h4.size⟩, h4⟩
    · exact ⟨_, .inr ⟨i, hi, h1, rfl, h2⟩, ⟨h3, h.fr_below h4, Nat.le_trans h.hi h4.size⟩, h4⟩
def FreeTo (vs : List VR) (n : Int) (vs' : List VR) (e : Ending) : Prop :=
  ((n < 1 ∨ (vs.length : Int) < n ∨ ∃ i, ∃ hi : i < vs.length, n = ((i + 1 : Nat) : Int) ∧ vs[i].held = 0) ∧ vs' = vs ∧ e = .returned (.iface 43 (.int .i64 2))) ∨
  (∃ i, ∃ hi : i < vs.length, n = ((i + 1 : Nat) : Int) ∧ vs[i].held ≠ 0 ∧ vs' = holdV vs i (vs[i].held - 1) hi ∧ e = .returned .nilIface)
theorem Stk.free (h : Stk w0 wr b1 p M vs) (n : Int) (h1 : -9223372036854775808 ≤ n) (h2 : n ≤ 9223372036854775807) (hb : ∀ r ∈ vs, r.held ≤ 1000000000) :
    Calls Tryz.prog 17 #[.pointer (some ⟨p, 0, none⟩), .int .i64 n] wr fun e w' => ∃ vs', FreeTo vs n vs' e ∧ Stk w0 w' b1 p M vs' ∧ Fr wr w' (StX p M vs) :=
  (free_any h.st n h1 h2 hb).mono fun e w' hr => by
    rcases hr with ⟨k1, k2, rfl⟩ | ⟨i, hi, k1, k2, k3, k4, k5, k6⟩
    · exact ⟨vs, .inl ⟨free_none k1, rfl, k2⟩, h, Fr.refl _ _⟩
    · exact ⟨_, .inr ⟨i, hi, k3, k2, rfl, k4⟩, ⟨k5, h.fr_below k6, Nat.le_trans h.hi k6.size⟩, k6⟩
theorem Stk.get (h : Stk w0 wr b1 p M vs) (n : Int) (tag key : ByteArray) (h1 : -9223372036854775808 ≤ n) (h2 : n ≤ 9223372036854775807) (ht : tag.size ≤ maxLen) (hk : key.size ≤ maxLen) :
    Calls Tryz.prog 12 #[.pointer (some ⟨p, 0, none⟩), .int .i64 n, .string tag, .string key] wr fun e w' => e = GetRes (getOf vs n tag key) ∧ wr = w' := get_any h.st n tag key h1 h2 ht hk
theorem Stk.kept (h : Stk w0 wr b1 p M vs) (hl : vs.length ≤ 1300000) :
    Calls Tryz.prog 10 #[.pointer (some ⟨p, 0, none⟩)] wr fun e w' => ∃ A c, e = .returned (.slice A (numsTo vs vs.length).length c) ∧ w'.ownsRow wr.heap.size 3 1 (.slice A (numsTo vs vs.length).length c) (numsTo vs vs.length).length ((numsTo vs vs.length).map (.int .i64)) ∧ Below wr.heap.size wr w' ∧ Stk w0 w' b1 p M vs :=
  (kept_any h.st hl).mono fun e w' ⟨v, he, ho, hb⟩ => by
    have e1 : (keptV vs).length = (numsTo vs vs.length).length := by rw [numsTo_all, List.length_map]
    have e2 : ((keptV vs).map fun m => Value.int .i64 m.1) = (numsTo vs vs.length).map (.int .i64) := by rw [numsTo_all, List.map_map]; rfl
    rw [e1, e2] at ho
    obtain ⟨A, c, rfl, _⟩ := own_slice ho
    exact ⟨A, c, he, ho, hb, h.keep hb⟩
theorem Stk.row (h : Stk w0 wr b1 p M vs) (hf : Fr wr W (StX p M vs)) {base : Nat} {e : TypeId} {size : Nat} {v : Value} {n : Nat} {xs : List Value} (ho : wr.ownsRow base e size v n xs)
    (h1 : e ≠ 54) (h2 : e ≠ 58) : W.ownsRow base e size v n xs := h.st.row hf ho h1 h2
end
theorem ints_of_own {w : World} {base lo hi : Nat} {e : TypeId} {v : Value} {l : List Int} (h : w.ownsRow base e 1 v l.length (l.map (.int .i64))) (hb : lo ≤ base) (hs : w.heap.size ≤ hi) : ListOk Enc.int w lo hi v l :=
  ListOk.of_own (E := Enc.int) h hb hs fun i hl => by
    show _ = _
    have e1 : Enc.int.sz = 1 := rfl
    rw [e1, Nat.mul_one, ← List.map_drop, ← List.map_take, List.drop_eq_getElem_cons hl]
    rfl
end Go.Proofs.YtboilcfeegigcaaGreatDoor
/- linguistersame.Ints: are two lists of numbers alike. -/

namespace Go.Proofs.YtboilcfeegigcaaGreatDoor
open Go.RowKit

set_option maxHeartbeats 400000 in
theorem ints_any (v u : Value) (a b : List Int) (lo hi lo' hi' : Nat) (w : World) (hv : ListOk Enc.int w lo hi v a) (hu : ListOk Enc.int w lo' hi' u b) (hn : a.length ≤ 140737488355328) (hm : b.length ≤ 140737488355328) :
    Calls Tryz.prog 18 #[v, u] w fun e w' => e = .returned (.bool (decide (a = b))) ∧ ∃ n, w' = w.drewN n := by
  obtain ⟨A, c, rfl, hlc⟩ := hv.form
  obtain ⟨B, d, rfl, hld⟩ := hu.form
  by_cases hab : a.length = b.length
  · have hbl : ((a.length : Int) != (b.length : Int)) = false := by simp [hab]
    have HAB := Lib.hid hab
    clear hab
    go_enter Tryz.func18, Tryz.ntmps18
    go_wp2
    go_loopw [5] (fun i wr => ∃ j : Nat, j ≤ a.length ∧ i = .int .i64 j ∧ (∀ q (h : q < a.length) (h2 : q < b.length), q < j → a[q] = b[q]) ∧ ∃ n, wr = w.drewN n) (fun i _ => a.length - (intOf i).toNat)
    case atStart => exact ⟨0, Nat.zero_le _, rfl, fun _ _ _ h => absurd h (by omega), 0, rfl⟩
    case round =>
      obtain ⟨j, hj, rfl, hno0, n, rfl⟩ := hrel
      have hno := Lib.hid hno0
      clear hno0
      by_cases hlt : j < a.length
      · have hltb : j < b.length := by have := HAB.out; omega
        obtain ⟨b1, o1, rfl, h1, h2, hc⟩ := hv.intAt j hlt
        obtain ⟨b2, o2, rfl, h3, h4, hd⟩ := hu.intAt j hltb
        by_cases he : a[j] = b[j]
        · have he' : (a[j] != b[j]) = false := by simp [he]
          have HE := Lib.hid he
          clear he
          go_wp2
          go_quiet (fail)
          go_wp2
          go_roundw
          case rel => exact ⟨j + 1, by omega, by go_num, fun q hq hq2 hq3 => by
            rcases Nat.lt_or_eq_of_le (Nat.le_of_lt_succ hq3) with h | h
            · exact hno.out q hq hq2 h
            · subst h; exact HE.out, _, rfl⟩
          case measure => simp [intOf]; omega
        · have he' : (a[j] != b[j]) = true := by simp [he]
          have HE := Lib.hid he
          clear he
          go_wp2
          go_quiet (fail)
          go_wp2
          go_ret
          refine ⟨ret_bool (Eq.symm (decide_eq_false fun hab => HE.out ?_)), _, World.drewN_drewN _ _ _⟩
          subst hab; rfl
      · go_wp2
        go_ret
        exact ⟨ret_bool (Eq.symm (decide_eq_true (eq_of_all HAB.out fun q h1 h2 => hno.out q h1 h2 (by omega)))), _, rfl⟩
  · have hbl : ((a.length : Int) != (b.length : Int)) = true := by simp; omega
    have HAB := Lib.hid hab
    clear hab
    go_enter Tryz.func18, Tryz.ntmps18
    go_wp2
    go_ret
    exact ⟨ret_bool (Eq.symm (decide_eq_false fun h => HAB.out (by rw [h]))), 0, rfl⟩
end Go.Proofs.YtboilcfeegigcaaGreatDoor
/- What the laws of stores share: lists of loads, what Get tells, stored. -/

namespace Go.Proofs.YtboilcfeegigcaaGreatDoor
open Go.RowKit Go.Maps

structure LoadsIn (w : World) (v : Value) (L : List (List Bun)) : Prop where
  lo : ∃ lo, ListOk Enc.bun.list w lo w.heap.size v L
  len : L.length * 24 ≤ 140737488355328
  each : ∀ l ∈ L, l.length * 40 ≤ 140737488355328 ∧ ∀ b ∈ l, b.tag.size < 4294967281 ∧ b.ents.length ≤ 4398046511104 ∧ ∀ e ∈ b.ents, e.key.size ≤ 9223372036854775807 ∧ e.text.size ≤ 9223372036854775807
theorem LoadsIn.below {w w' : World} {v : Value} {L : List (List Bun)} (h : LoadsIn w v L) (hb : Below w.heap.size w w') : LoadsIn w' v L :=
  ⟨let ⟨lo, hl⟩ := h.lo; ⟨lo, (hl.below (Enc.list_laws Enc.bun_laws) hb).mono (Enc.list_laws Enc.bun_laws) (Nat.le_refl _) hb.size⟩, h.len, h.each⟩
theorem LoadsIn.at {w : World} {A : Option Addr} {n c : Nat} {L : List (List Bun)} (h : LoadsIn w (.slice A n c) L) (i : Nat) (hl : i < L.length) :
    ∃ b o V, A = some ⟨b, o, none⟩ ∧ w.cell? ⟨b, o + i, none⟩ = some V ∧ BunsIn w V L[i] := by
  obtain ⟨lo, A', c', hv, _, hi⟩ := h.lo
  obtain ⟨b, o, cs, hA, h1, h2, h3, V, h4, h5⟩ := hi i hl
  injection hv with hv1
  have e := h.each _ (List.getElem_mem hl)
  refine ⟨b, o, V, hv1.trans hA, ?_, ⟨⟨lo, h5⟩, e.1, e.2⟩⟩
  have h6 := h3 0 V (by rw [h4]; rfl)
  have e1 : Enc.bun.list.sz = 1 := rfl
  rw [e1, Nat.mul_one, Nat.add_zero] at h6
  exact h6
def getT (o : Option ByteArray) : ByteArray := o.getD ⟨#[]⟩
def getE (o : Option ByteArray) : Int := if o.isSome then 0 else 2
theorem getRes_eq (o : Option ByteArray) : GetRes o = .returned (.tuple #[.string (getT o), errV (getE o)]) := by cases o <;> rfl

theorem smallB_load : loadE [smallBun] = 0 := by decide +kernel
theorem smallB_text : textIn [smallBun] en hiK = some helloT := by decide +kernel
set_option maxHeartbeats 1600000 in
set_option maxRecDepth 100000 in
theorem stored_any (w : World) (hm : MaxVar w) : Calls Tryz.prog 13 #[] w fun e w' => e = .returned (.bool true) ∧ Below w.heap.size w w' := by
  have HM := Lib.hid hm
  clear hm
  go_enter Tryz.func13, Tryz.ntmps13
  go_wp2_with fail
  refine (stk_new w w (Below.refl _ _)).mono ?_
  rintro e w1 ⟨p, M, rfl, hS, _⟩
  have HS := Lib.hid hS
  clear hS
  go_wp2_with fail
  refine (small_any w1).mono ?_
  rintro e w2 ⟨hb2, A, c, rfl, hl⟩
  have HS2 := Lib.hid (HS.out.keep hb2)
  have HS3 := Lib.hid (HS2.out.keep (W := w2.alloc (.cells #[.string en, .slice A 1 c] 27)) ((Below.refl _ _).alloc (Nat.le_refl _) _))
  have HIn := Lib.hid (smallIn hl)
  clear hb2 hl HS
  go_wp2_with fail
  refine (HS3.out.load [smallBun] _ HIn.out HM.out (by simp)).mono ?_
  rintro e w3 ⟨vs, hto, hS4, _⟩
  rcases hto with ⟨h1, _⟩ | ⟨_, r, hr0, hrb, rfl, rfl⟩
  · exact absurd smallB_load h1
  have HS4 := Lib.hid hS4
  have hg : getOf ([] ++ [r]) 1 en hiK = some helloT := by
    have := getOf_at ([] ++ [r]) 0 (by simp) en hiK
    rw [if_pos (by unfold live; simp)] at this
    have e1 : ([] ++ [r])[0] = r := rfl
    rw [e1, hrb, smallB_text] at this
    exact this
  have HG := Lib.hid (HS4.out.get 1 en hiK (by omega) (by omega) (by decide) (by decide))
  rw [hg, show GetRes (some helloT) = .returned (.tuple #[.string ⟨#[104, 101, 108, 108, 111, 32, 123, 110, 97, 109, 101, 125]⟩, .nilIface]) from rfl] at HG
  clear hS4 hr0 hrb hg HS2 HS3
  go_wp2_with fail
  refine HG.out.mono ?_
  rintro e w4 ⟨rfl, rfl⟩
  go_wp2_with fail

  go_ret
  exact ⟨rfl, HS4.out.below⟩
end Go.Proofs.YtboilcfeegigcaaGreatDoor
