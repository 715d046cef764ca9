/- The variables that a message reads; numbers of a key; names. -/
import Derived.WalkSmall
import Derived.Lib.SmallJoins
import Derived.Lib.LaidTab
import Derived.Lib.ItoaLen
import Derived.Sort.Grow
import Derived.Test.YtokjbdefkfdhhaaGreatDoorTagS
import Derived.Test.YtokjbdefkfdhhaaGreatDoorTrim
import Derived.Test.YtokjbdefkfdhhaaGreatDoorShelf
namespace Go.Proofs.YtokjbdefkfdhhaaGreatDoor
open Go.RowKit Go.Sort

def kindsB : List ByteArray := [⟨#[122, 101, 114, 111]⟩, ⟨#[111, 110, 101]⟩, ⟨#[116, 119, 111]⟩, ⟨#[102, 101, 119]⟩, ⟨#[109, 97, 110, 121]⟩, ⟨#[111, 116, 104, 101, 114]⟩]
structure MV (w : World) : Prop where
  syn : ∃ tp p, w.var? Tryz.prog "strconv.ErrSyntax" = some #[.iface tp p]
  rng : ∃ tp p, w.var? Tryz.prog "strconv.ErrRange" = some #[.iface tp p]
  tab : Lib.TabIs Tryz.prog w "internal/strconv.uint64pow10" .u64 Lib.pow10Tab
  kin : ∃ b o c, 6 ≤ c ∧ b < w.heap.size ∧ w.cell? ⟨2, 0, none⟩ = some (.slice (some ⟨b, o, none⟩) 6 c) ∧ ∀ j (h : j < kindsB.length), w.cell? ⟨b, o + j, none⟩ = some (.string kindsB[j])
theorem cellLt {w : World} {g o : Nat} {v : Value} (h : w.cell? ⟨g, o, none⟩ = some v) : g < w.heap.size := by
  unfold World.cell? at h
  cases ho : w.heap[g]? with
  | none => simp [ho] at h
  | some o => exact (Array.getElem?_eq_some_iff.1 ho).1
theorem MV.below {w w' : World} (h : MV w) (hb : Below w.heap.size w w') : MV w' := by
  obtain ⟨t1, p1, h1⟩ := h.syn
  obtain ⟨t2, p2, h2⟩ := h.rng
  obtain ⟨b, o, c, k1, k2, k3, k4⟩ := h.kin
  exact ⟨⟨t1, p1, Joins.var_stays (g := 5) (by kernel_rfl) h1 hb (Nat.le_refl _)⟩, ⟨t2, p2, Joins.var_stays (g := 6) (by kernel_rfl) h2 hb (Nat.le_refl _)⟩, Joins.tab_stays (g := 7) (by kernel_rfl) h.tab hb (Nat.le_refl _),
    b, o, c, k1, Nat.lt_of_lt_of_le k2 hb.size, (hb.cell (p := ⟨_, 0, none⟩) (cellLt k3)).trans k3, fun j hj => (hb.cell (p := ⟨b, o + j, none⟩) k2).trans (k4 j hj)⟩
def atoiO (l : List UInt8) : Option Int := match Lib.atoiAll l with | .ok v => some v | _ => none
theorem atoi_any (s : ByteArray) (w : World) (hs : s.size ≤ 1000000000) (hv : MV w) :
    Calls Tryz.prog 73 #[.string s] w fun e w' => ((∃ v, e = .returned (.tuple #[.int .i64 v, .nilIface]) ∧ atoiO (bts s) = some v) ∨ ∃ v t p, e = .returned (.tuple #[.int .i64 v, .iface t p]) ∧ atoiO (bts s) = none) ∧ Below w.heap.size w w' := by
  obtain ⟨t1, p1, h1⟩ := hv.syn
  obtain ⟨t2, p2, h2⟩ := hv.rng
  cases h : Lib.atoiAll s.data.toList with
  | ok v =>
    refine (Tryz.strconv_Atoi_ok s (by omega) v h w).mono ?_
    rintro e w' ⟨rfl, hw⟩
    refine ⟨.inl ⟨v, rfl, by unfold atoiO bts; rw [h]⟩, ?_⟩
    rcases hw with rfl | ⟨t, rfl⟩
    · exact Below.refl _ _
    · exact Lib.bytesWorld_below _ _ _
  | «syntax» =>
    refine (Tryz.strconv_Atoi_syntax_var s (by omega) h t1 p1 w h1).mono ?_
    rintro e w' ⟨N, rfl, _, _, hb⟩
    exact ⟨.inr ⟨0, _, _, rfl, by unfold atoiO bts; rw [h]⟩, hb⟩
  | range =>
    refine (Tryz.strconv_Atoi_range_var s (by omega) h t2 p2 w h2).mono ?_
    rintro e w' ⟨N, rfl, _, _, hb⟩
    exact ⟨.inr ⟨_, _, _, rfl, by unfold atoiO bts; rw [h]⟩, hb⟩
theorem itoaM_any (n : Int) (w : World) (h0 : 0 ≤ n) (h1 : n ≤ 1000000) (hv : MV w) : Calls Tryz.prog 74 #[.int .i64 n] w fun e w' => e = .returned (.string (str (Lib.itoa n))) ∧ Below w.heap.size w w' :=
  (Tryz.strconv_Itoa n (by omega) (by omega) w hv.tab).mono fun e w' ⟨he, k, os, hw⟩ => ⟨he, by rw [hw]; exact ⟨rfl, rfl, rfl, by simp [grow, World.drewN], fun i hi => heap_grow_old (w.drewN k) os hi⟩⟩
/-- slices.Contains at a list of strings -/
theorem containsS_any (l : List ByteArray) (v : Value) (x : ByteArray) (lo hi : Nat) (w : World) (hl : ListOk Enc.str w lo hi v l) (hn : l.length ≤ 1000000000) :
    Calls Tryz.prog 60 #[v, .string x] w fun e w' => e = .returned (.bool (l.any (eqs · x))) ∧ w' = w := by
  obtain ⟨A, c, rfl, _⟩ := hl.form
  by_cases h0 : l.length = 0
  · obtain rfl := List.length_eq_zero_iff.1 h0
    exact Tryz.slices_Contains_string_empty A c x w
  · obtain ⟨b, o, rfl, _, _, _⟩ := hl.strAt 0 (by omega)
    have hcs : ∀ q, q < l.length → w.cell? ⟨b, o + q, none⟩ = some (.string (l.getD q ByteArray.empty)) := fun q hq => by
      obtain ⟨b', o', he, _, _, hc'⟩ := hl.strAt q hq
      injection he with he
      injection he with e1 e2
      subst e1; subst e2
      rw [hc', List.getD_eq_getElem?_getD, List.getElem?_eq_getElem hq]; rfl
    have h := Tryz.slices_Contains_string b o l.length c l x w (Nat.le_refl _) (by omega) hcs
    rw [List.take_length] at h
    have : l.any (eqs · x) = Lib.containsS l x := by
      rw [Bool.eq_iff_iff, List.any_eq_true, Lib.containsS_iff]
      constructor
      · rintro ⟨y, hy, he⟩; rw [← (eqs_iff _ _).1 he]; exact hy
      · intro hx; exact ⟨_, hx, eqs_self _⟩
    rw [this]
    exact h
def nameChars : ByteArray := ⟨#[97, 98, 99, 100, 101, 102, 103, 104, 105, 106, 107, 108, 109, 110, 111, 112, 113, 114, 115, 116, 117, 118, 119, 120, 121, 122, 48, 49, 50, 51, 52, 53, 54, 55, 56, 57, 95]⟩
def firstChars : ByteArray := ⟨#[97, 98, 99, 100, 101, 102, 103, 104, 105, 106, 107, 108, 109, 110, 111, 112, 113, 114, 115, 116, 117, 118, 119, 120, 121, 122]⟩
def trimName (s : ByteArray) : ByteArray := ⟨(Lib.trimS s.data.toList nameChars.data.toList).toArray⟩
def headOf (s : ByteArray) : Int := Lib.indexByte firstChars.data.toList ((bts s).headD 0)
def nameR (s : ByteArray) : Bool := !(s.size == 0) && decide (s.size ≤ 20) && (trimName s).toList.isEmpty && decide (0 ≤ headOf s)
theorem asciiName : ∀ (j : Nat) b, nameChars.data.toList[j]? = some b → b.toNat < 128 := by
  intro j b h
  have h1 : nameChars.data.toList.all (fun b => decide (b.toNat < 128)) = true := by decide +kernel
  exact of_decide_eq_true (List.all_eq_true.1 h1 b (List.mem_of_getElem? h))
theorem head_of {s : ByteArray} (h : 0 < s.size) : (s[0]'h) = (bts s).headD 0 := by
  obtain ⟨⟨l⟩⟩ := s
  cases l with
  | nil => exact absurd h (by decide)
  | cons a l => rfl
theorem head_byte (c : UInt8) : ((c.toNat : Nat) : Int).toNat.toUInt8 = c := by simp
set_option maxHeartbeats 1600000 in
theorem name_any (s : ByteArray) (w : World) : Calls Tryz.prog 58 #[.string s] w fun e w' => e = .returned (.bool (nameR s)) ∧ Below w.heap.size w w' := by
  have HR : Hid (nameR s = (!(s.size == 0) && decide (s.size ≤ 20) && (trimName s).toList.isEmpty && decide (0 ≤ headOf s))) := Lib.hid rfl
  by_cases h0 : s.size = 0
  · obtain rfl : s = ByteArray.empty := ByteArray.size_eq_zero_iff.1 h0
    have HE : Hid (nameR ByteArray.empty = false) := Lib.hid (by rw [HR.out]; rfl)
    clear HR h0
    go_enter Tryz.func58, Tryz.ntmps58
    go_wp2_with fail
    go_ret
    exact ⟨by rw [HE.out]; rfl, Below.refl _ _⟩
  have hq : s.toList.isEmpty = false := by
    rw [List.isEmpty_eq_false_iff]
    intro e
    rw [ByteArray.toList_eq] at e
    exact h0 (by have := congrArg List.length e; simpa using this)
  by_cases h1 : s.size ≤ 20
  · have HT : Hid (∀ W, Calls Tryz.prog 62 #[.string s, .string nameChars] W fun e w' => e = .returned (.string (trimName s)) ∧ Below W.heap.size W w') := Lib.hid fun W => trim_any s nameChars W (by omega) (by decide) asciiName
    have hi : (0 : Int) < (s.size : Int) := by omega
    have hpos : 0 < s.size := by omega
    have hhd := head_of hpos
    have HIx : Hid (∀ W, Calls Tryz.prog 29 #[.string firstChars, .int .u8 (s[0]'hpos).toNat] W fun e w' => e = .returned (.int .i64 (headOf s)) ∧ w' = W) := Lib.hid fun W => by
      have h := Tryz.strings_IndexByte firstChars ((s[0]'hpos).toNat : Int) W
      rw [head_byte, hhd] at h
      rw [hhd]
      exact h
    have h1' : decide (s.size ≤ 20) = true := decide_eq_true h1
    have h0' : (s.size == 0) = false := by rw [beq_eq_false_iff_ne]; exact h0
    rw [h0', h1'] at HR
    have h20 : (s.size : Int) ≤ 20 := by omega
    have HT1 := Lib.hid (HT.out w)
    clear h0' h1' HT hhd
    obtain ⟨X, hX⟩ : ∃ X, X = (trimName s).toList.isEmpty := ⟨_, rfl⟩
    have hX' : (trimName s).toList.isEmpty = X := hX.symm
    rw [← hX] at HR
    generalize trimName s = T at *
    unfold nameChars firstChars at *
    go_enter Tryz.func58, Tryz.ntmps58
    go_wp2_with fail
    refine HT1.out.mono ?_
    clear HT1
    rintro e w1 ⟨rfl, hb1⟩
    have HB1 := Lib.hid hb1
    have HI1 := Lib.hid (HIx.out w1)
    clear hb1 HIx hX
    cases X with
    | false =>
      have HE : Hid (nameR s = false) := Lib.hid (by rw [HR.out]; simp)
      clear HR
      go_wp2_with fail
      go_ret
      exact ⟨by rw [HE.out]; rfl, HB1.out⟩
    | true =>
      have HE : Hid (nameR s = decide (0 ≤ headOf s)) := Lib.hid (by rw [HR.out]; simp)
      clear HR
      go_wp2_with fail
      refine HI1.out.mono ?_
      clear HI1
      rintro e w2 ⟨rfl, rfl⟩
      go_wp2_with fail
      go_ret
      exact ⟨by rw [HE.out]; rfl, HB1.out⟩
  · have h20 : ¬ ((s.size : Int) ≤ 20) := by omega
    have h1' : decide (s.size ≤ 20) = false := decide_eq_false h1
    have HE : Hid (nameR s = false) := Lib.hid (by rw [HR.out, h1']; simp)
    clear HR h1'
    go_enter Tryz.func58, Tryz.ntmps58
    go_wp2_with fail
    go_ret
    exact ⟨by rw [HE.out]; rfl, Below.refl _ _⟩
end Go.Proofs.YtokjbdefkfdhhaaGreatDoor
