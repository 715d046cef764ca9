/- strings.SplitSeq: the iterator's promise. -/
import Derived.WalkKit
import Derived.OwnWalkIn
import Derived.TacticsInMore
import Derived.LoopNIn
import Derived.LoopIn
import Derived.Shelf.Abstract
import Derived.Shelf.RegionOpen
import Derived.Lib.IndexMore
import Derived.Lib.IndexBytes
import Derived.Test.YtokjbdefkfdhhaaDoorSeqT
import Derived.Test.YtokjbdefkfdhhaaDoorTagS
import Derived.Test.YtokjbdefkfdhhaaDoorShelf
namespace Go.Proofs.YtokjbdefkfdhhaaDoor
open Go.RowKit Go.Shelf

attribute [local go_sem] Oper.semAt_some

/- ## The pieces of a text, plainly -/
def pcsF (sep : List UInt8) : Nat → List UInt8 → List (List UInt8)
  | 0, s => [s]
  | k + 1, s => if Lib.index s sep = -1 then [s] else s.take (Lib.index s sep).toNat :: pcsF sep k (s.drop ((Lib.index s sep).toNat + sep.length))
def pcsS (sep s : List UInt8) : List (List UInt8) := pcsF sep s.length s
theorem index_pos {s sep : List UInt8} (h : Lib.index s sep ≠ -1) : 0 ≤ Lib.index s sep := by have := Lib.index_ge s sep; omega
theorem pcsF_fuel (sep : List UInt8) (hs : 1 ≤ sep.length) : ∀ (f g : Nat) (s : List UInt8), s.length ≤ f → s.length ≤ g → pcsF sep f s = pcsF sep g s
  | 0, 0, _, _, _ => rfl
  | 0, g + 1, s, hf, _ => by
    have e : Lib.index s sep = -1 := by
      refine Decidable.byContradiction fun h => ?_
      have h1 := Lib.index_room s sep (index_pos h)
      have := index_pos h
      omega
    unfold pcsF
    rw [if_pos e]
  | f + 1, 0, s, _, hg => by
    have e : Lib.index s sep = -1 := by
      refine Decidable.byContradiction fun h => ?_
      have h1 := Lib.index_room s sep (index_pos h)
      have := index_pos h
      omega
    unfold pcsF
    rw [if_pos e]
  | f + 1, g + 1, s, hf, hg => by
    unfold pcsF
    by_cases e : Lib.index s sep = -1
    · rw [if_pos e, if_pos e]
    · have h1 := Lib.index_room s sep (index_pos e)
      have h0 := index_pos e
      rw [if_neg e, if_neg e, pcsF_fuel sep hs f g _ (by rw [List.length_drop]; omega) (by rw [List.length_drop]; omega)]
theorem pcs_end {sep s : List UInt8} (h : Lib.index s sep = -1) : pcsS sep s = [s] := by
  unfold pcsS
  cases s with
  | nil => rfl
  | cons a s => rw [List.length_cons]; unfold pcsF; rw [if_pos h]
theorem pcs_step {sep s : List UInt8} (hs : 1 ≤ sep.length) (h : Lib.index s sep ≠ -1) : pcsS sep s = s.take (Lib.index s sep).toNat :: pcsS sep (s.drop ((Lib.index s sep).toNat + sep.length)) := by
  have h1 := Lib.index_room s sep (index_pos h)
  have h0 := index_pos h
  unfold pcsS
  cases s with
  | nil => exact absurd h1 (by simp; omega)
  | cons a s =>
    rw [List.length_cons, show pcsF sep (s.length + 1) (a :: s) = (if Lib.index (a :: s) sep = -1 then [a :: s] else (a :: s).take (Lib.index (a :: s) sep).toNat :: pcsF sep s.length ((a :: s).drop ((Lib.index (a :: s) sep).toNat + sep.length))) from rfl, if_neg h]
    congr 1
    exact pcsF_fuel sep hs _ _ _ (by rw [List.length_drop, List.length_cons]; omega) (Nat.le_refl _)
theorem pcs_ne (sep s : List UInt8) : 0 < (pcsS sep s).length := by
  unfold pcsS
  cases s.length with
  | zero => simp [pcsF]
  | succ n => unfold pcsF; split <;> simp
theorem pcs_len {sep : List UInt8} (hs : 1 ≤ sep.length) : ∀ (n : Nat) (s : List UInt8), s.length ≤ n → ∀ x ∈ pcsS sep s, x.length ≤ s.length
  | n, s, hn, x, hx => by
    by_cases h : Lib.index s sep = -1
    · rw [pcs_end h, List.mem_singleton] at hx; rw [hx]; exact Nat.le_refl _
    · have h1 := Lib.index_room s sep (index_pos h)
      have h0 := index_pos h
      rw [pcs_step hs h] at hx
      rcases List.mem_cons.1 hx with rfl | hx
      · rw [List.length_take]; omega
      · cases n with
        | zero => omega
        | succ n =>
          have := pcs_len hs n _ (by rw [List.length_drop]; omega) x hx
          rw [List.length_drop] at this; omega
theorem pcs_count {sep : List UInt8} (hs : 1 ≤ sep.length) : ∀ (n : Nat) (s : List UInt8), s.length ≤ n → (pcsS sep s).length ≤ s.length + 1
  | n, s, hn => by
    by_cases h : Lib.index s sep = -1
    · rw [pcs_end h]; simp
    · have h1 := Lib.index_room s sep (index_pos h)
      have h0 := index_pos h
      rw [pcs_step hs h, List.length_cons]
      cases n with
      | zero => omega
      | succ n =>
        have := pcs_count hs n (s.drop ((Lib.index s sep).toNat + sep.length)) (by rw [List.length_drop]; omega)
        rw [List.length_drop] at this; omega

/- ## The iterator -/
def encS (x : List UInt8) : Value := .string (str x)
/-- the captured variables: the text, the separator, how much of it is kept -/
structure SqB (W : World) (B : Nat) (s sep : List UInt8) : Prop where
  text : Blk W B 9 #[.string (str s)]
  sep : Blk W (B + 1) 9 #[.string (str sep)]
  save : Blk W (B + 2) 3 #[.int .i64 0]
  max : ∃ m : Int, W.cell? ⟨2, 0, none⟩ = some (.int .i64 m)
/-- what the rounds keep of them -/
structure SqK (B : Nat) (X Y : World) : Prop where
  size : X.heap.size ≤ Y.heap.size
  same : ∀ i, i = 2 ∨ (B ≤ i ∧ i < B + 3) → i < X.heap.size → Y.heap[i]? = X.heap[i]?
theorem SqK.refl (B : Nat) (X : World) : SqK B X X := ⟨Nat.le_refl _, fun _ _ _ => rfl⟩
theorem SqK.trans {B : Nat} {X Y Z : World} (h : SqK B X Y) (k : SqK B Y Z) : SqK B X Z := ⟨Nat.le_trans h.size k.size, fun i hi hl => (k.same i hi (Nat.lt_of_lt_of_le hl h.size)).trans (h.same i hi hl)⟩
theorem SqB.keep {B : Nat} {s sep : List UInt8} {X Y : World} (h : SqB X B s sep) (k : SqK B X Y) : SqB Y B s sep := by
  refine ⟨(k.same B (.inr ⟨Nat.le_refl _, by omega⟩) h.text.lt).trans h.text, (k.same (B + 1) (.inr ⟨by omega, by omega⟩) h.sep.lt).trans h.sep, (k.same (B + 2) (.inr ⟨by omega, by omega⟩) h.save.lt).trans h.save, ?_⟩
  obtain ⟨m, hm⟩ := h.max
  refine ⟨m, ?_⟩
  have hlt : 2 < X.heap.size := by
    unfold World.cell? at hm
    cases ho : X.heap[2]? with
    | none => simp [ho] at hm
    | some o => exact (Array.getElem?_eq_some_iff.1 ho).1
  have e := k.same _ (.inl rfl) hlt
  unfold World.cell? at hm ⊢
  simp only at hm ⊢
  rw [e]; exact hm
/-- the iterator's own steps: it writes its text -/
def SqS (B : Nat) (X Y : World) : Prop := ∃ v, Y = X.setCell ⟨B, 0, none⟩ v
/-- how long the text is that is left -/
def leftS (B : Nat) (W : World) : Nat := match W.cell? ⟨B, 0, none⟩ with | some (.string s) => s.size | _ => 0
theorem left_eq {B : Nat} {W : World} {s sep : List UInt8} (h : SqB W B s sep) : leftS B W = s.length := by
  unfold leftS
  rw [(h.text.cell 0).trans (show _ = some (.string (str s)) from rfl)]
  exact str_size s
theorem SqB.set {B : Nat} {s sep r : List UInt8} {W : World} (h : SqB W B s sep) (hB : 2 < B) : SqB (W.setCell ⟨B, 0, none⟩ (.string (str r))) B r sep := by
  refine ⟨h.text.set_ 0 _, h.sep.far (by show B + 1 ≠ B; omega) _, h.save.far (by show B + 2 ≠ B; omega) _, ?_⟩
  obtain ⟨m, hm⟩ := h.max
  refine ⟨m, ?_⟩
  have e := Below.heap_setCell W ⟨B, 0, none⟩ (.string (str r)) 2 (by show 2 ≠ B; omega)
  unfold World.cell? at hm ⊢
  simp only at hm ⊢
  rw [e]; exact hm
theorem bts_ext (a : ByteArray) (i j : Nat) : bts (a.extract i j) = ((bts a).take j).drop i := by
  unfold bts
  rw [ByteArray.data_extract, Array.toList_extract]
  simp [List.drop_take]
theorem str_take (s : List UInt8) (i : Nat) : (str s).extract 0 i = str (s.take i) := bts_inj (by rw [bts_ext, bts_str, bts_str, List.drop_zero])
theorem str_drop (s : List UInt8) (i : Nat) : (str s).extract i (str s).size = str (s.drop i) := bts_inj (by rw [bts_ext, bts_str, bts_str, str_size, List.take_length])
set_option maxRecDepth 100000 in
set_option maxHeartbeats 2000000 in
theorem splitSeq_in (n : Nat) (hn : 1 ≤ n) (l B : Nat) (hB : 2 < B) (s sep : List UInt8) (hsep : 1 ≤ sep.length) (hsl : sep.length ≤ 1000) (hs : s.length ≤ 1000000000) (J : Nat → World → Prop) (W : World)
    (hJs : ∀ k X Y, J k X → SqS B X Y → J k Y)
    (hY : ∀ k (hk : k < (pcsS sep s).length) X, J k X → YieldAt Fence.wide (n - 1) Tryd.prog l #[encS (pcsS sep s)[k]] X fun e Y => e = .returned (.bool true) ∧ J (k + 1) Y ∧ SqK B X Y)
    (hb : SqB W B s sep) (h0 : J 0 W) :
    CallsIn Fence.wide n Tryd.prog 31 #[.func (.yield l) #[] #[], .pointer (some ⟨B + 1, 0, none⟩), .pointer (some ⟨B, 0, none⟩), .pointer (some ⟨B + 2, 0, none⟩)] W fun e Y => (∃ v, e = .returned v) ∧ J (pcsS sep s).length Y := by
  have hY' := Lib.hid hY
  have HJs := Lib.hid hJs
  have HB := Lib.hid hb
  have HS := Lib.hid hs
  have hne : (sep.length : Int) ≠ 0 := by omega
  have hz : ((sep.length : Int) == 0) = false := by rw [beq_eq_false_iff_ne]; exact hne
  have hss : (str sep).size = sep.length := str_size _
  have q1 : W.cell? ⟨B + 1, 0, none⟩ = some (.string (str sep)) := (hb.sep.cell 0).trans rfl
  clear hY hJs hb
  refine callsIn_of_wp Tryd.func31 rfl trivial ?_ rfl
  simp only [Tryd.ntmps31, List.size_toArray, List.length_cons, List.length_nil, Nat.reduceAdd, Nat.reduceSub, Array.replicate_succ, Array.replicate_zero, List.push_toArray, List.append_toArray, List.nil_append, List.cons_append]
  gi_wp2
  gi_loopw [7, 8] (fun _ _ wr => ∃ (k : Nat) (rest : List UInt8), (pcsS sep s).drop k = pcsS sep rest ∧ J k wr ∧ SqB wr B rest sep ∧ rest.length ≤ s.length) (fun _ _ wr => leftS B wr)
  case atStart => exact ⟨0, s, rfl, h0, HB.out, Nat.le_refl _⟩
  case round =>
    obtain ⟨k, rest, hd, hJ, hb, hrl⟩ := hrel
    have hk : k < (pcsS sep s).length := by
      refine Decidable.byContradiction fun h => ?_
      rw [List.drop_of_length_le (by omega)] at hd
      have := pcs_ne sep rest
      rw [← hd] at this
      exact absurd this (by simp)
    have hx : (pcsS sep s)[k] = (pcsS sep rest).headD [] := by
      have := List.drop_eq_getElem_cons hk
      rw [this] at hd
      rw [← hd]; rfl
    have ht : (pcsS sep s).drop (k + 1) = (pcsS sep rest).tail := by rw [← hd, List.tail_drop]
    obtain ⟨mx, hm⟩ := hb.max
    have r0 : wr.cell? ⟨B, 0, none⟩ = some (.string (str rest)) := (hb.text.cell 0).trans rfl
    have r1 : wr.cell? ⟨B + 1, 0, none⟩ = some (.string (str sep)) := (hb.sep.cell 0).trans rfl
    have r2 : wr.cell? ⟨B + 2, 0, none⟩ = some (.int .i64 0) := (hb.save.cell 0).trans rfl
    have hrs : (str rest).size = rest.length := str_size _
    have HBr := Lib.hid hb
    have HIx := Lib.hid (Tryd.strings_Index (str rest) (str sep) mx wr (by rw [hrs]; have := HS.out; omega) hm)
    have hIe : (str rest).data.toList = rest := bts_str rest
    have hIs : (str sep).data.toList = sep := bts_str sep
    rw [hIe, hIs] at HIx
    obtain ⟨I, hI⟩ : ∃ I, I = Lib.index rest sep := ⟨_, rfl⟩
    rw [← hI] at HIx
    obtain ⟨fn, tmps, assign, body, hy, hR⟩ := hY'.out k hk wr hJ
    rw [hx] at hy
    by_cases hi : I = -1
    · have he := pcs_end (hI.symm.trans hi)
      rw [he] at hy ht
      simp only [encS, List.headD_cons] at hy
      have hk1 : k + 1 = (pcsS sep s).length := by
        have := congrArg List.length ht
        rw [List.length_drop, List.tail_cons, List.length_nil] at this
        omega
      have hi0 : decide (I < 0) = true := decide_eq_true (by omega)
      have hi1 : I < 0 := by omega
      have HK1 := Lib.hid hk1
      clear hI hx hd hJ hb hm ht hk1 he hi
      gi_wp2
      refine ⟨trivial, (callsIn_wide.2 HIx.out).mono ?_⟩
      rintro e w' ⟨rfl, rfl⟩
      gi_wp2
      refine hR.mono ?_
      rintro e W3 ⟨rfl, hJ3, _⟩
      rw [HK1.out] at hJ3
      gi_wp2
      go_end0
      exact ⟨⟨_, rfl⟩, hJ3⟩
    · have hi' : Lib.index rest sep ≠ -1 := by rw [← hI]; exact hi
      have hp := index_pos hi'
      have hroom := Lib.index_room rest sep hp
      rw [← hI] at hp hroom
      obtain ⟨q, rfl⟩ := Int.eq_ofNat_of_zero_le hp
      rw [pcs_step hsep hi', ← hI] at hy ht
      simp only [encS, List.headD_cons, Int.toNat_natCast] at hy
      rw [← str_take] at hy
      rw [List.tail_cons, Int.toNat_natCast] at ht
      have hqs : q + sep.length ≤ rest.length := by omega
      have hl3 := HS.out
      have hi0 : decide ((q : Int) < 0) = false := decide_eq_false (by omega)
      have hi1 : ¬ ((q : Int) < 0) := by omega
      have hi2 : (0 : Int) ≤ (q : Int) := by omega
      have hi3 : (q : Int) ≤ (rest.length : Int) := by omega
      have hi4 : (q : Int) + (sep.length : Int) ≤ (rest.length : Int) := by omega
      have hi5 : (0 : Int) ≤ (q : Int) + (sep.length : Int) := by omega
      have E1 := Lib.hid (str_take rest q)
      have E2 := Lib.hid (str_drop rest (q + sep.length))
      have HT := Lib.hid ht
      clear hI hx hd hJ hb hm ht hi hi' hp hroom hl3
      gi_wp2
      refine ⟨trivial, (callsIn_wide.2 HIx.out).mono ?_⟩
      rintro e w' ⟨rfl, rfl⟩
      gi_wp2
      refine hR.mono ?_
      rintro e W3 ⟨rfl, hJ3, hk3⟩
      have hb3 := HBr.out.keep hk3
      have s0 : W3.cell? ⟨B, 0, none⟩ = some (.string (str rest)) := (hb3.text.cell 0).trans rfl
      have s1 : W3.cell? ⟨B + 1, 0, none⟩ = some (.string (str sep)) := (hb3.sep.cell 0).trans rfl
      have sf := hb3.text.frozen 0
      have HB3 := Lib.hid hb3
      have hJ4 := HJs.out _ _ _ hJ3 ⟨.string (str (rest.drop (q + sep.length))), rfl⟩
      have HJ4 := Lib.hid hJ4
      have hrr := HS.out
      have hw1 : ¬ (9223372036854775807 < (q : Int) + (sep.length : Int)) := by omega
      clear hJ3 hk3 hb3 hJ4 hR hy
      gi_wp2
      have e2 := E2.out
      rw [hrs] at e2
      rw [e2]
      have hset := HB3.out.set (r := rest.drop (q + sep.length)) hB
      refine ⟨⟨k + 1, _, HT.out, HJ4.out, hset, by rw [List.length_drop]; omega⟩, ?_⟩
      rw [left_eq hset, left_eq HBr.out, List.length_drop]
      omega
/-- the closure that SplitSeq tells, once its three captured variables lie in blocks B, B + 1, B + 2 -/
theorem splitSeq_seq (n : Nat) (hn : 1 ≤ n) (B : Nat) (hB : 2 < B) (s sep : List UInt8) (hsep : 1 ≤ sep.length) (hsl : sep.length ≤ 1000) (hs : s.length ≤ 1000000000) (w : World) (hb : SqB w B s sep) :
    SeqT Fence.wide n Tryd.prog 31 #[.pointer (some ⟨B + 1, 0, none⟩), .pointer (some ⟨B, 0, none⟩), .pointer (some ⟨B + 2, 0, none⟩)] encS (pcsS sep s) (SqS B) (SqK B) w := fun l J W hW _ hJs hY h0 =>
  splitSeq_in n hn l B hB s sep hsep hsl hs J W hJs hY (hb.keep hW) h0
end Go.Proofs.YtokjbdefkfdhhaaDoor
