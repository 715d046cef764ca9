/- sync.Once, one goroutine: what its slow road leans on. -/
import Derived.Test.YtoneheloojlifaaGreatDoorBase
import Derived.Tactics
import Derived.Tactics2
import Derived.Defers
import Derived.Laws.Pointers
import Derived.Laws.LoneSync
import Derived.RegionTactic
import Derived.RegionCalls
import Derived.Test.YtoneheloojlifaaGreatDoorAppend
import Derived.WalkSpells
import Derived.Deep.DeepCutAuto
import Derived.Lib.ConvBytes
import Derived.Laws.Cover3
import Derived.Laws.CopyRow
import Derived.Laws.MakeOwn
import Derived.Test.YtoneheloojlifaaGreatDoorRefL
namespace Go.Proofs.YtoneheloojlifaaGreatDoor
open Go.RowKit

theorem race_disable (w : World) : (callFunc 167 #[]).run Tryz.prog w = .ok (.value (.tuple #[])) w := run_call_mark0 Tryz.func167 (by kernel_rfl) (by kernel_rfl) (by kernel_rfl) .disable (by kernel_rfl) w
theorem race_enable (w : World) : (callFunc 169 #[]).run Tryz.prog w = .ok (.value (.tuple #[])) w := run_call_mark0 Tryz.func169 (by kernel_rfl) (by kernel_rfl) (by kernel_rfl) .enable (by kernel_rfl) w
theorem race_acquire (a : Addr) (w : World) : (callFunc 170 #[.pointer (some a)]).run Tryz.prog w = .ok (.value (.tuple #[])) w := run_call_marked Tryz.func170 (by kernel_rfl) (by kernel_rfl) (by kernel_rfl) .acquire (by kernel_rfl) a w
theorem race_release (a : Addr) (w : World) : (callFunc 172 #[.pointer (some a)]).run Tryz.prog w = .ok (.value (.tuple #[])) w := run_call_marked Tryz.func172 (by kernel_rfl) (by kernel_rfl) (by kernel_rfl) .releaseMerge (by kernel_rfl) a w

theorem store_deferred (a : Addr) (x : Value) (u : FrameMode) (w : World) (hc : w.cell? a = some x) (hz : w.frozen? a = false) :
    CallsD Tryz.prog 123 #[.pointer (some a), .bool true] u w fun e u' w' => u' = u ∧ (e = .returned (.tuple #[]) ∧ w' = w.drew.setCell a (.int .u32 1)) := by
  have hc' : w.drew.cell? a = some x := by go_simp
  have hz' : w.drew.frozen? a = false := by go_simp
  have hst := run_call_store (P := Tryz.prog) Tryz.func156 (by kernel_rfl) (by kernel_rfl) (by kernel_rfl) (by kernel_rfl) (k := .u32) (y := 1) hc' hz'
  go_enter_d Tryz.func123, Tryz.ntmps123
  go_wp2
  go_region_calls
  all_goals (go_end0; exact ⟨rfl, rfl⟩)

set_option maxRecDepth 100000 in
set_option maxHeartbeats 1600000 in
theorem unlock_deferred (a : Addr) (u : FrameMode) (w : World) (hc : w.cell? a = some (.int .i32 1)) (hz : w.frozen? a = false) :
    CallsD Tryz.prog 122 #[.pointer (some a)] u w fun e u' w' => u' = u ∧ (e = .returned (.tuple #[]) ∧ w' = w.setCell a (.int .i32 0)) := by
  have hd := race_disable
  have he := race_enable
  have hr := race_release
  have hadd := run_call_add (P := Tryz.prog) Tryz.func173 (by kernel_rfl) (by kernel_rfl) (by kernel_rfl) .i32 (by kernel_rfl) (y := -1) (s := 0) hc hz (by simp [go_sem]; rfl)
  have hcv := run_convert_to_unsafe (P := Tryz.prog) (src := 237) (dst := 134) Tryz.underlying237 Tryz.underlying134 (by kernel_rfl) hc
  go_enter_d Tryz.func122, Tryz.ntmps122
  go_wp2
  go_end0
  go_wp2
  go_end0
  exact ⟨rfl, rfl⟩

set_option maxRecDepth 100000 in
set_option maxHeartbeats 1600000 in
theorem lock_free (a : Addr) (w : World) (hc : w.cell? a = some (.int .i32 0)) (hz : w.frozen? a = false) :
    Calls Tryz.prog 121 #[.pointer (some a)] w fun e w' => e = .returned (.tuple #[]) ∧ w' = w.setCell a (.int .i32 1) := by
  have hd := race_disable
  have he := race_enable
  have ha := race_acquire
  have hcas := run_call_cas_hit (P := Tryz.prog) Tryz.func168 (by kernel_rfl) (by kernel_rfl) (by kernel_rfl) .i32 (by kernel_rfl) (y := 1) hc hz
  have hc' : (w.setCell a (.int .i32 1)).cell? a = some (.int .i32 1) := World.cell?_setCell_same w a _ hc
  have hcv := run_convert_to_unsafe (P := Tryz.prog) (src := 237) (dst := 134) Tryz.underlying237 Tryz.underlying134 (by kernel_rfl) hc'
  go_enter Tryz.func121, Tryz.ntmps121
  go_wp2
  first | go_end0 | (simp only [Exit.inBlock, Exit.then]; refine bodyPost_ret (results_none rfl _ _ _) rfl ?_) | refine bodyPost_ret (results_none rfl _ _ _) rfl ?_
  go_wp2
  go_end0
  exact ⟨rfl, rfl⟩
theorem load_once (a : Addr) (x : Int) (w : World) (h : w.cell? a = some (.int .u32 x)) (b : Bool) (hx : (x != 0) = b) :
    Calls Tryz.prog 84 #[.pointer (some a)] w fun e w' => e = .returned (.bool b) ∧ w' = w := by
  have hl := run_call_load (P := Tryz.prog) Tryz.func120 (by kernel_rfl) (by kernel_rfl) (by kernel_rfl) .u32 (by kernel_rfl) h
  go_enter Tryz.func84, Tryz.ntmps84
  go_wp2
  first | go_ret | skip
  subst hx
  simp
end Go.Proofs.YtoneheloojlifaaGreatDoor
/- strings.NewReplacer at three pairs: the table that is made once. -/

namespace Go.Proofs.YtoneheloojlifaaGreatDoor
open Go.RowKit

/-- a sign that is written as two -/
def two1 (c : UInt8) : Bool := decide (c = 92) || (decide (c = 10) || decide (c = 13))
def two2 (c : UInt8) : UInt8 := if c = 92 then 92 else if c = 10 then 110 else 114
theorem ownAt1 {w : World} {base : Nat} {e : TypeId} {v : Value} {n : Nat} {xs : List Value} (h : w.ownsRow base e 1 v n xs) (i : Nat) (u : Value) (hi : xs[i]? = some u) :
    ∃ g c, v = .slice (some ⟨g, 0, none⟩) n c ∧ base ≤ g ∧ g < w.heap.size ∧ w.cell? ⟨g, i, none⟩ = some u ∧ w.frozen? ⟨g, i, none⟩ = false := by
  have hil := (List.getElem?_eq_some_iff.1 hi).1
  obtain ⟨hlen, ⟨_, hn⟩ | ⟨g, cap, cur, hv, hb, hh, hc, hm, hcs, ht⟩⟩ := h
  · omega
  · refine ⟨g, cap, hv, hb, Blk.lt (t := e) (cs := cur) hh, ?_, by simp [World.frozen?, hh]⟩
    rw [cell_of_row w g i cur e (0, 0) hh]
    rw [← ht, List.getElem?_take] at hi
    split at hi
    · simpa using hi
    · cases hi
theorem ownNeBlk {w : World} {base : Nat} {e t : TypeId} {size : Nat} {v : Value} {n : Nat} {xs : List Value} {g : Nat} {cs : Array Value} (h : w.ownsRow base e size v n xs) (k : Blk w g t cs) (hne : e ≠ t) : v.ownBlock ≠ some g := by
  intro hg
  obtain ⟨_, ⟨h2, _⟩ | ⟨g1, cap, cur, hv, hb, hh, r⟩⟩ := h
  · rw [h2] at hg; cases hg
  · rw [hv] at hg; injection hg with hg; subst hg
    have k' := hh.symm.trans k
    injection k' with k'
    injection k' with _ k' _
    exact hne k'
/-- what stands for the sign c in a table's row -/
def BsrAt (B q : Nat) (cs : Array Value) (tv : Value) (w : World) (c : UInt8) : Prop :=
  ∃ g cap, cs[c.toNat]? = some (.slice (some ⟨g, 0, none⟩) 2 cap) ∧ B ≤ g ∧ g < w.heap.size ∧ g ≠ q ∧ tv.ownBlock ≠ some g ∧ w.cell? ⟨g, 0, none⟩ = some (.int .u8 92) ∧ w.cell? ⟨g, 1, none⟩ = some (.int .u8 (two2 c).toNat)
/-- the table at block q, made for the signs l so far -/
structure Bsr (B q : Nat) (l : List UInt8) (w : World) : Prop where
  lo : B ≤ q
  blk : ∃ (cs : Array Value) (tv : Value), Blk w q 177 cs ∧ cs.size = 257 ∧ cs[256]? = some tv ∧ w.ownsRow B 9 1 tv l.length (l.map fun c => .string (str [c])) ∧
    (∀ c : UInt8, c ∉ l → cs[c.toNat]? = some (.slice none 0 0)) ∧ (∀ c ∈ l, BsrAt B q cs tv w c)
theorem BsrAt.far {B q : Nat} {cs : Array Value} {tv : Value} {w w' : World} {c : UInt8} (h : BsrAt B q cs tv w c) (hs : w.heap.size ≤ w'.heap.size) (hb : ∀ g, g ≠ q → tv.ownBlock ≠ some g → B ≤ g → g < w.heap.size → w'.heap[g]? = w.heap[g]?) : BsrAt B q cs tv w' c := by
  obtain ⟨g, cap, a1, a3, a4, a5, a6, a7, a8⟩ := h
  have e := hb g a5 a6 a3 a4
  exact ⟨g, cap, a1, a3, Nat.lt_of_lt_of_le a4 hs, a5, a6, (World.cell?_of_block (w := w) (a := ⟨g, 0, none⟩) e).trans a7, (World.cell?_of_block (w := w) (a := ⟨g, 1, none⟩) e).trans a8⟩
theorem Bsr.keep {B q : Nat} {l : List UInt8} {w w' : World} (h : Bsr B q l w) (hb : Below w.heap.size w w') : Bsr B q l w' := by
  obtain ⟨hlo, cs, tv, h1, h2, h3, h4, h5, h6⟩ := h
  exact ⟨hlo, cs, tv, h1.below hb h1.lt, h2, h3, own_below h4 hb (Nat.le_refl _), h5, fun c hc => (h6 c hc).far hb.size fun g _ _ _ hg => hb.block g hg⟩
/-- another block, of what stood there ahead, is written into -/
theorem Bsr.far {B q : Nat} {l : List UInt8} {w : World} (h : Bsr B q l w) (p : Addr) (u : Value) (hp : p.block < B) : Bsr B q l (w.setCell p u) := by
  obtain ⟨hlo, cs, tv, h1, h2, h3, h4, h5, h6⟩ := h
  exact ⟨hlo, cs, tv, h1.far (by omega) u, h2, h3, own_keep h4 (fun g hg hl => Below.heap_setCell _ _ _ _ (fun e => by have := (own_lt h4 hg).1; omega)), h5, fun c hc => (h6 c hc).far (by simp) fun g _ _ hB _ => Below.heap_setCell _ _ _ _ (fun e => by omega)⟩
theorem Bsr.lower {B B' q : Nat} {l : List UInt8} {w : World} (h : Bsr B q l w) (hB : B' ≤ B) : Bsr B' q l w := by
  obtain ⟨hlo, cs, tv, h1, h2, h3, h4, h5, h6⟩ := h
  exact ⟨Nat.le_trans hB hlo, cs, tv, h1, h2, h3, own_mono h4 hB, h5, fun c hc => by
    obtain ⟨g, cap, a1, a3, r⟩ := h6 c hc
    exact ⟨g, cap, a1, Nat.le_trans hB a3, r⟩⟩
theorem bytesW_below (w : World) (e : TypeId) (s : ByteArray) : Below w.heap.size w (Lib.bytesWorld w e s) := by
  refine ⟨?_, ?_, ?_, by rw [Lib.bytesWorld_size]; omega, fun k hk => Lib.bytesWorld_at_old w e s k hk⟩
  all_goals
    unfold Lib.bytesWorld World.freeze
    split <;> rfl
theorem bytesW_cell (w : World) (a b : UInt8) : (Lib.bytesWorld w 5 ⟨#[a, b]⟩).cell? ⟨w.heap.size, 0, none⟩ = some (.int .u8 a.toNat) ∧ (Lib.bytesWorld w 5 ⟨#[a, b]⟩).cell? ⟨w.heap.size, 1, none⟩ = some (.int .u8 b.toNat) :=
  ⟨Lib.bytesWorld_cell w 5 ⟨#[a, b]⟩ 0 (by show 0 < 2; decide), Lib.bytesWorld_cell w 5 ⟨#[a, b]⟩ 1 (by show 1 < 2; decide)⟩
theorem bytesW_size (w : World) (e : TypeId) (s : ByteArray) : (Lib.bytesWorld w e s).heap.size = w.heap.size + 1 := Lib.bytesWorld_size w e s
/-- a sign more -/
theorem Bsr.step {B q : Nat} {l : List UInt8} {c : UInt8} {w : World} {cs : Array Value} {tv v5 : Value} {cap : Nat} (hlo : B ≤ q) (hbk : Blk w q 177 cs) (hsz : cs.size = 257) (hBw : B ≤ w.heap.size)
    (hown : w.ownsRow B 9 1 v5 (l.length + 1) ((l.map fun c => .string (str [c])) ++ [.string (str [c])])) (hno : ∀ c : UInt8, c ∉ l → cs[c.toNat]? = some (.slice none 0 0)) (hyes : ∀ c ∈ l, BsrAt B q cs tv w c)
    (hv : ∀ x ∈ l, ∀ g cap, cs[x.toNat]? = some (.slice (some ⟨g, 0, none⟩) 2 cap) → v5.ownBlock ≠ some g) (hc : c ∉ l) (hq : v5.ownBlock ≠ some q) :
    Bsr B q (l ++ [c]) ((Lib.bytesWorld (w.setCell ⟨q, 256, none⟩ v5) 5 ⟨#[92, two2 c]⟩).setCell ⟨q, c.toNat, none⟩ (.slice (some ⟨(w.setCell ⟨q, 256, none⟩ v5).heap.size, 0, none⟩) 2 cap)) := by
  have hc256 : c.toNat < 256 := c.toNat_lt
  have hbb := bytesW_below (w.setCell ⟨q, 256, none⟩ v5) 5 ⟨#[92, two2 c]⟩
  obtain ⟨d0, d1⟩ := bytesW_cell (w.setCell ⟨q, 256, none⟩ v5) 92 (two2 c)
  have hq1 := hbk.lt
  have hs6 : (w.setCell ⟨q, 256, none⟩ v5).heap.size = w.heap.size := by simp
  have hs7 := bytesW_size (w.setCell ⟨q, 256, none⟩ v5) 5 ⟨#[92, two2 c]⟩
  rw [hs6] at hs7 d0 d1 hbb ⊢
  have hblk7 := ((hbk.set_ 256 v5).below hbb (by omega)).set_ c.toNat (.slice (some ⟨w.heap.size, 0, none⟩) 2 cap)
  obtain ⟨W7, hW7⟩ : ∃ W7, W7 = (Lib.bytesWorld (w.setCell ⟨q, 256, none⟩ v5) 5 ⟨#[92, two2 c]⟩).setCell ⟨q, c.toNat, none⟩ (.slice (some ⟨w.heap.size, 0, none⟩) 2 cap) := ⟨_, rfl⟩
  have hfar : ∀ g, g ≠ q → g < w.heap.size → W7.heap[g]? = w.heap[g]? := fun g hg hl => by
    rw [hW7, Below.heap_setCell _ _ _ _ (fun e => hg e), hbb.block g (by omega), Below.heap_setCell _ _ _ _ (fun e => hg e)]
  have d0' : W7.cell? ⟨w.heap.size, 0, none⟩ = some (.int .u8 92) := by rw [hW7, World.cell?_setCell_other _ _ _ _ (fun e => by have := congrArg Addr.block e; simp at this; omega)]; exact d0
  have d1' : W7.cell? ⟨w.heap.size, 1, none⟩ = some (.int .u8 (two2 c).toNat) := by rw [hW7, World.cell?_setCell_other _ _ _ _ (fun e => by have := congrArg Addr.block e; simp at this; omega)]; exact d1
  have hs7' : W7.heap.size = w.heap.size + 1 := by rw [hW7]; simpa using hs7
  rw [← hW7] at hblk7 ⊢
  clear hW7 d0 d1 hbb hs7 hs6
  refine ⟨hlo, _, v5, hblk7, by simp [hsz], ?_, ?_, fun x hx => ?_, fun x hx => ?_⟩
  · rw [Array.getElem?_setIfInBounds_ne (by omega), Array.getElem?_setIfInBounds_self_of_lt (by omega)]
  · rw [List.length_append, List.map_append]
    exact own_keep hown fun g hg hl => hfar g (fun e => hq (by rw [hg, e])) hl
  · have hxc : x ≠ c := fun e => hx (by rw [e]; simp)
    have hxl : x ∉ l := fun h => hx (List.mem_append_left _ h)
    have hxn : x.toNat ≠ c.toNat := fun e => hxc (UInt8.toNat_inj.1 e)
    have hx256 : x.toNat < 256 := x.toNat_lt
    rw [Array.getElem?_setIfInBounds_ne (by omega), Array.getElem?_setIfInBounds_ne (by omega)]
    exact hno x hxl
  · rcases List.mem_append.1 hx with h | h
    · have hxc : x ≠ c := fun e => hc (by rw [← e]; exact h)
      have hxn : x.toNat ≠ c.toNat := fun e => hxc (UInt8.toNat_inj.1 e)
      have hx256 : x.toNat < 256 := x.toNat_lt
      obtain ⟨g, cp, a1, a3, a4, a5, a6, a7, a8⟩ := hyes x h
      refine ⟨g, cp, ?_, a3, by omega, a5, hv x h g cp a1, (World.cell?_of_block (w := w) (a := ⟨g, 0, none⟩) (hfar g a5 a4)).trans a7, (World.cell?_of_block (w := w) (a := ⟨g, 1, none⟩) (hfar g a5 a4)).trans a8⟩
      rw [Array.getElem?_setIfInBounds_ne (by omega), Array.getElem?_setIfInBounds_ne (by omega)]; exact a1
    · obtain rfl := List.mem_singleton.1 h
      refine ⟨w.heap.size, cap, ?_, hBw, by omega, by omega, fun e => ?_, d0', d1'⟩
      · rw [Array.getElem?_setIfInBounds_self_of_lt (by simp [hsz]; omega)]
      · have := (own_lt hown e).2; omega
def pairs6 : List ByteArray := [⟨#[92]⟩, ⟨#[92, 92]⟩, ⟨#[10]⟩, ⟨#[92, 110]⟩, ⟨#[13]⟩, ⟨#[92, 114]⟩]
theorem info_strR : (Tryz.prog.info? 9).map (fun i => (i.zero, i.size, i.bytes)) = some (some (.string ByteArray.empty), 1, 16) := by kernel_rfl
set_option maxRecDepth 100000 in
theorem newRepN_any (w : World) (o c n : Nat) (xs : List Value) (hn : xs.length = n) (h1 : ∀ v ∈ xs, v.oneCell' = true) (h2 : ((n : Int) % 2 == 1) = false) (hs : n ≤ 1000) (hc : ∀ i u, xs[i]? = some u → w.cell? ⟨o, 0 + i, none⟩ = some u) :
    Calls Tryz.prog 32 #[.slice (some ⟨o, 0, none⟩) n c] w fun e w' => ∃ p v, e = .returned (.pointer (some ⟨p, 0, none⟩)) ∧ w.heap.size ≤ p ∧
      Blk w' p 110 #[.int .u32 0, .int .i32 0, .int .u32 0, .nilIface, v] ∧ w'.ownsRow w.heap.size 9 1 v n xs ∧ Below w.heap.size w w' := by
  have HC := Lib.hid hc
  have HN := Lib.hid hn
  have H1 := Lib.hid h1
  clear hc hn h1
  go_enter Tryz.func32, Tryz.ntmps32
  go_wp2_with (at_builtin; refine wpList_append_any rfl _ _ 30 rfl w.heap.size 9 Tryz.underlying30 info_strR rfl (by decide) [] rfl own_nil xs rfl (by rw [HN.out, Nat.mul_one]) (.inr ⟨_, _, rfl, HC.out⟩) H1.out (by unfold maxLen; omega) (by omega) (Nat.le_refl _) ?_)
  intro v1 w1 hown hgrow _
  have HB := Lib.hid ((Below.refl w.heap.size w).grown hgrow (Nat.le_refl _) (fun k hk => by cases hk))
  obtain ⟨A1, c1, rfl, _⟩ := own_slice hown
  have HO := Lib.hid hown
  have hsz := HB.out.size
  clear hown hgrow
  go_wp2_with fail
  go_ret
  refine ⟨w1.heap.size, _, rfl, hsz, Blk.new _ _ _, own_below HO.out ((Below.refl _ _).alloc (Nat.le_refl _) _) (Nat.le_refl _), HB.out.alloc hsz _⟩
theorem newRep_any (w : World) (o c : Nat) (hc : ∀ i u, (pairs6.map Value.string)[i]? = some u → w.cell? ⟨o, 0 + i, none⟩ = some u) :
    Calls Tryz.prog 32 #[.slice (some ⟨o, 0, none⟩) 6 c] w fun e w' => ∃ p v, e = .returned (.pointer (some ⟨p, 0, none⟩)) ∧ w.heap.size ≤ p ∧
      Blk w' p 110 #[.int .u32 0, .int .i32 0, .int .u32 0, .nilIface, v] ∧ w'.ownsRow w.heap.size 9 1 v 6 (pairs6.map .string) ∧ Below w.heap.size w w' :=
  newRepN_any w o c 6 (pairs6.map .string) rfl (by simp [pairs6, Value.oneCell']) (by decide) (by decide) hc
theorem run_make_rowR {P : Program} (t e : TypeId) (i : TypeInfo) (z : Value) (ht : P.underlying t = some (.slice e)) (hi : P.info? e = some i) (hz : i.zero = some z)
    (kl kc : IntKind) (n c : Nat) (hnc : n ≤ c) (hbytes : i.bytes * c ≤ 281474976710656) (h63 : c ≤ 9223372036854775807) (w : World) :
    (Instr.makeSlice t (.int kl (n : Int)) (.int kc (c : Int))).run P w = .ok (.slice (some ⟨w.heap.size, 0, none⟩) n c) (w.alloc (.cells (madeCells z.cells (c * i.size)) e)) := by
  have hb : (i.bytes : Int) * (c : Int) ≤ 281474976710656 := by
    have h : ((i.bytes * c : Nat) : Int) ≤ 281474976710656 := by omega
    rwa [Int.natCast_mul] at h
  have hr := run_make (P := P) w t e i z ht hi hz kl kc n c (by omega) (by omega) hb (by omega)
  simp only [Int.toNat_natCast] at hr
  exact hr
theorem make_strs (W : World) : (Instr.makeSlice 30 (.int .i64 0) (.int .i64 3)).run Tryz.prog W = .ok (.slice (some ⟨W.heap.size, 0, none⟩) 0 3) (W.alloc (.cells (madeCells (Value.string ByteArray.empty).cells 3) 9)) := by
  obtain ⟨i0, hi, hz0, hz1, hz2⟩ := info_parts info_strR
  have h := run_make_rowR (P := Tryz.prog) 30 9 i0 _ Tryz.underlying30 hi hz0 .i64 .i64 0 3 (by decide) (by rw [hz2]; decide) (by decide) W
  rw [hz1] at h
  exact h
/-- the table as it is at first -/
def row0 (u : Value) : Array Value := ((List.replicate 256 (.slice none 0 0 : Value)) ++ [u]).toArray
theorem zero_row0 : Tryz.zeroCells177 = row0 (.slice none 0 0) := by kernel_rfl
theorem row0_size (u : Value) : (row0 u).size = 257 := by unfold row0; rw [List.size_toArray, List.length_append, List.length_replicate]; rfl
theorem row0_last (u : Value) : (row0 u)[256]? = some u := by
  unfold row0
  rw [List.getElem?_toArray, List.getElem?_append_right (by rw [List.length_replicate]; decide), List.length_replicate]; rfl
theorem row0_at (u : Value) (i : Nat) (hi : i < 256) : (row0 u)[i]? = some (.slice none 0 0) := by
  unfold row0
  rw [List.getElem?_toArray, List.getElem?_append_left (by rw [List.length_replicate]; exact hi), List.getElem?_replicate, if_pos hi]
theorem row0_set (u v : Value) : (row0 u).toList.set 256 v = (row0 v).toList := by
  unfold row0
  rw [List.toList_toArray, List.toList_toArray, List.set_append_right _ _ (by rw [List.length_replicate]; decide), List.length_replicate]; rfl
theorem row0_one (u : Value) (hu : u.oneCell' = true) : ∀ v ∈ (row0 u).toList, v.oneCell' = true := fun v hv => by
  unfold row0 at hv
  rw [List.toList_toArray, List.mem_append] at hv
  rcases hv with h | h
  · rw [List.eq_of_mem_replicate h]; rfl
  · rw [List.mem_singleton.1 h]; exact hu
theorem store_row0 (W : World) (g : Nat) (u : Value) (hu : u.oneCell' = true) (hg : W.heap[g]? = some (.cells (Tryz.zeroCells177) 177 (0, 0))) :
    (storeCells ⟨g, 0, none⟩ ((Tryz.zeroCells177).toList.set 256 u)).run Tryz.prog W = .ok () (W.setRow g (row0 u)) := by
  rw [zero_row0] at hg ⊢
  rw [row0_set]
  have hl : (row0 u).toList.length = 257 := by rw [Array.length_toList, row0_size]
  have hl0 : (row0 (.slice none 0 0)).toList.length = 257 := by rw [Array.length_toList, row0_size]
  have h := run_storeCells_at Tryz.prog g 0 177 (row0 u).toList 0 (row0 (.slice none 0 0)) W hg (by rw [hl, row0_size]; decide) (row0_one u hu)
  rw [h, List.take_zero, List.nil_append, List.drop_of_length_le (by rw [hl, hl0]; decide), List.append_nil, Array.toArray_toList]
theorem conv_one (W : World) (c : UInt8) : (convert 46 9 (.slice (some ⟨W.heap.size, 0, none⟩) 1 1)).run Tryz.prog (W.alloc (.cells #[.int .u8 c.toNat] 5)) = .ok (.string (str [c])) (W.alloc (.cells #[.int .u8 c.toNat] 5)) := by
  refine run_convert_bytes_back (P := Tryz.prog) _ 46 9 5 ⟨W.heap.size, 0, none⟩ 1 [c] Tryz.underlying46 Tryz.underlying5 Tryz.underlying9 ?_
  intro j hj
  have : j = 0 := by simp at hj; omega
  subst this
  exact (Blk.new W 5 #[.int .u8 c.toNat]).cell 0
theorem conv_bytes (s : ByteArray) (W : World) : (convert 9 46 (.string s)).run Tryz.prog W = .ok (.slice (some ⟨W.heap.size, 0, none⟩) s.size (grownCap W s.size 0 5)) (Lib.bytesWorld W 5 s) := Lib.run_convert_string_bytes W 9 46 5 s Tryz.underlying9 Tryz.underlying46 Tryz.underlying5
theorem nil_eq (W : World) : (binOp .eql 46 (.slice none 0 0) (.slice none 0 0)).run Tryz.prog W = .ok (.bool true) W := run_eql_nil_slice (P := Tryz.prog) W 46 5 none 0 0 0 0 Tryz.underlying46
theorem nil_neq (A : Option Addr) (n k : Nat) (W : World) : (binOp .neq 46 (.slice A n k) (.slice none 0 0)).run Tryz.prog W = .ok (.bool (!A.isNone)) W := run_neq_slice_nil (P := Tryz.prog) (w := W) 46 5 A n k Tryz.underlying46
/-- what stands at a pair's place -/
theorem sign_at (g : Nat) (w : World) (x0 : w.cell? ⟨g, 0, none⟩ = some (.string ⟨#[92]⟩)) (x1 : w.cell? ⟨g, 1, none⟩ = some (.string ⟨#[92, 92]⟩)) (x2 : w.cell? ⟨g, 2, none⟩ = some (.string ⟨#[10]⟩)) (x3 : w.cell? ⟨g, 3, none⟩ = some (.string ⟨#[92, 110]⟩))
    (x4 : w.cell? ⟨g, 4, none⟩ = some (.string ⟨#[13]⟩)) (x5 : w.cell? ⟨g, 5, none⟩ = some (.string ⟨#[92, 114]⟩)) (m j : Nat) (hj : 2 * m + j = 4) :
    ∃ (S N : ByteArray) (c : UInt8) (_ : 0 < S.size), w.cell? ⟨g, j, none⟩ = some (.string S) ∧ w.cell? ⟨g, j + 1, none⟩ = some (.string N) ∧ S.size = 1 ∧ S[0] = c ∧ N = ⟨#[92, two2 c]⟩ ∧ c ∉ [(13 : UInt8), 10, 92].take m ∧ [(13 : UInt8), 10, 92].take (m + 1) = [(13 : UInt8), 10, 92].take m ++ [c] := by
  rcases (by omega : m = 0 ∨ m = 1 ∨ m = 2) with rfl | rfl | rfl
  · obtain rfl : j = 4 := by omega
    exact ⟨⟨#[13]⟩, ⟨#[92, 114]⟩, 13, by decide, x4, x5, rfl, rfl, rfl, by decide, rfl⟩
  · obtain rfl : j = 2 := by omega
    exact ⟨⟨#[10]⟩, ⟨#[92, 110]⟩, 10, by decide, x2, x3, rfl, rfl, rfl, by decide, rfl⟩
  · obtain rfl : j = 0 := by omega
    exact ⟨⟨#[92]⟩, ⟨#[92, 92]⟩, 92, by decide, x0, x1, rfl, rfl, rfl, by decide, rfl⟩
theorem last_at (m j : Nat) (hj : 2 * m + j = 4) : (∃ j' : Nat, 2 * (m + 1) + j' = 4 ∧ Value.int .i64 ((j : Int) - 2) = .int .i64 (j' : Int)) ∨ (m + 1 = 3 ∧ Value.int .i64 ((j : Int) - 2) = .int .i64 (-2)) := by
  rcases (by omega : j = 0 ∨ 2 ≤ j) with rfl | h
  · exact .inr ⟨by omega, rfl⟩
  · refine .inl ⟨j - 2, by omega, ?_⟩
    rw [show ((j - 2 : Nat) : Int) = (j : Int) - 2 by omega]
theorem bsr_start_below (w : World) : Below w.heap.size w (((w.alloc (.cells (madeCells #[.string ByteArray.empty] 3) 9)).alloc (.cells (Tryz.zeroCells177) 177)).setRow (w.heap.size + 1) (row0 (.slice (some ⟨w.heap.size, 0, none⟩) 0 3))) := by
  refine (((Below.refl w.heap.size w).alloc (Nat.le_refl _) _).alloc (by simp) _).trans ⟨rfl, rfl, rfl, by simp [World.setRow], fun k hk => setRow_other _ _ k _ (by omega)⟩
theorem bsr_start (w : World) : Bsr w.heap.size (w.heap.size + 1) [] (((w.alloc (.cells (madeCells #[.string ByteArray.empty] 3) 9)).alloc (.cells (Tryz.zeroCells177) 177)).setRow (w.heap.size + 1) (row0 (.slice (some ⟨w.heap.size, 0, none⟩) 0 3))) := by
  have h1 := heap_alloc_new (w.alloc (.cells (madeCells #[.string ByteArray.empty] 3) 9)) (.cells (Tryz.zeroCells177) 177)
  rw [show (w.alloc (.cells (madeCells #[.string ByteArray.empty] 3) 9)).heap.size = w.heap.size + 1 from by simp] at h1
  have h0 := Blk.new w 9 (madeCells #[.string ByteArray.empty] 3)
  refine ⟨by omega, row0 (.slice (some ⟨w.heap.size, 0, none⟩) 0 3), _, setRow_heap _ _ _ _ _ _ h1, row0_size _, row0_last _, ?_, fun c _ => row0_at _ _ c.toNat_lt, fun c hc => by cases hc⟩
  refine ⟨rfl, .inr ⟨w.heap.size, 3, madeCells #[.string ByteArray.empty] 3, rfl, Nat.le_refl _, ?_, by decide, by decide, by simp [size_madeCells], rfl⟩⟩
  rw [setRow_other _ _ _ _ (by omega)]
  exact h0.alloc _
set_option maxRecDepth 100000 in
set_option maxHeartbeats 3200000 in
theorem build_any (b B : Nat) (st : Int) (v : Value) (w : World) (hb : Blk w b 110 #[.int .u32 0, .int .i32 st, .int .u32 0, .nilIface, v]) (hv : w.ownsRow B 9 1 v 6 (pairs6.map .string)) :
    Calls Tryz.prog 86 #[.pointer (some ⟨b, 0, none⟩)] w fun e w' => ∃ q, e = .returned (.iface 178 (.pointer (some ⟨q, 0, none⟩))) ∧ Bsr w.heap.size q [13, 10, 92] w' ∧ Below w.heap.size w w' := by
  obtain ⟨g, cp, rfl, hgB, hgl, x0, _⟩ := ownAt1 hv 0 _ rfl
  have hx : ∀ i u, (pairs6.map Value.string)[i]? = some u → w.cell? ⟨g, i, none⟩ = some u := fun i u hi => by
    obtain ⟨g', cp', hA, _, _, x, _⟩ := ownAt1 hv i u hi
    injection hA with hA; injection hA with hA; injection hA with hA
    subst hA; exact x
  have x1 := hx 1 _ rfl
  have x2 := hx 2 _ rfl
  have x3 := hx 3 _ rfl
  have x4 := hx 4 _ rfl
  have x5 := hx 5 _ rfl
  have c4 : w.cell? ⟨b, 4, none⟩ = some (.slice (some ⟨g, 0, none⟩) 6 cp) := (hb.cell 4).trans rfl
  clear hx hv hb
  have hmk := make_strs
  have hst : ∀ (W : World) (A : Obj), (storeCells ⟨W.heap.size + 1, 0, none⟩ ((Tryz.zeroCells177).toList.set 256 (.slice (some ⟨W.heap.size, 0, none⟩) 0 3))).run Tryz.prog ((W.alloc A).alloc (.cells (Tryz.zeroCells177) 177)) = .ok () (((W.alloc A).alloc (.cells (Tryz.zeroCells177) 177)).setRow (W.heap.size + 1) (row0 (.slice (some ⟨W.heap.size, 0, none⟩) 0 3))) := fun W A => by
    refine store_row0 _ _ _ rfl ?_
    have h := heap_alloc_new (W.alloc A) (.cells (Tryz.zeroCells177) 177)
    rw [show (W.alloc A).heap.size = W.heap.size + 1 from by simp] at h
    exact h
  go_enter Tryz.func86, Tryz.ntmps86
  go_wp2_with fail
  go_loopw [4, 5] (fun al i wr => ∃ k : Nat, k ≤ 3 ∧ i = .int .i64 ((2 * k : Nat) : Int) ∧ al = .bool (k == 0) ∧ wr = w) (fun _ i _ => 6 - (intOf i).toNat)
  case atStart => exact ⟨0, by omega, rfl, rfl, rfl⟩
  case round =>
    obtain ⟨k, hk, rfl, rfl, rfl⟩ := hrel
    rcases (by omega : k = 0 ∨ k = 1 ∨ k = 2 ∨ k = 3) with rfl | rfl | rfl | rfl
    · go_wp2_with fail
      exact ⟨⟨1, by omega, by simp⟩, by simp [intOf]⟩
    · go_wp2_with fail
      exact ⟨⟨2, by omega, by simp⟩, by simp [intOf]⟩
    · go_wp2_with fail
      exact ⟨⟨3, by omega, by simp⟩, by simp [intOf]⟩
    · go_wp2_with fail
      obtain ⟨wx, rfl⟩ : ∃ wx : World, wx = wr := ⟨_, rfl⟩
      go_loopw [12, 13, 14] (fun i _ _ wr => ∃ m : Nat, Bsr wx.heap.size (wx.heap.size + 1) ([13, 10, 92].take m) wr ∧ Below wx.heap.size wx wr ∧ ((∃ j : Nat, 2 * m + j = 4 ∧ i = .int .i64 (j : Int)) ∨ (m = 3 ∧ i = .int .i64 (-2)))) (fun i _ _ _ => ((intOf i) + 2).toNat)
      case atStart => exact ⟨0, bsr_start wx, bsr_start_below wx, .inl ⟨4, rfl, rfl⟩⟩
      case round =>
        obtain ⟨m, hs, hb, hm⟩ := hrel
        have HS := Lib.hid hs
        have HB := Lib.hid hb
        rcases hm with ⟨j, hj, rfl⟩ | ⟨rfl, rfl⟩
        · obtain ⟨S, N, c, hS0, y4', y5', hS1, hSc, hN, hcm, htk⟩ := sign_at g wx x0 x1 x2 x3 x4 x5 m j hj
          obtain ⟨hlo, cs, tv, hbk, hsz, htv, hown, hno, hyes⟩ := hs
          have y4 := (hb.cell (p := ⟨g, j, none⟩) hgl).trans y4'
          have y5 := (hb.cell (p := ⟨g, j + 1, none⟩) hgl).trans y5'
          have hn1 : wr.cell? ⟨wx.heap.size + 1, c.toNat, none⟩ = some (.slice none 0 0) := (hbk.cell _).trans (hno c hcm)
          have hl1 := (hbk.cell 256).trans htv
          obtain ⟨A1, c1, rfl, _⟩ := own_slice hown
          have hnq := nil_eq
          have hj4 : j ≤ 4 := by omega
          have hb0 : c.toNat < 256 := c.toNat_lt
          have hb1 : (c.toNat : Int) < 256 := by omega
          have hge : decide ((0 : Int) ≤ (j : Int)) = true := decide_eq_true (by omega)
          have hlt1 : decide ((j : Int) < 6) = true := decide_eq_true (by omega)
          have hcv1 := conv_one wr c
          have hcv2 := conv_bytes ⟨#[92, two2 c]⟩
          have hLl : ([13, 10, 92].take m : List UInt8).length ≤ 2 := by rw [List.length_take]; omega
          have HTk := Lib.hid htk
          have HCm := Lib.hid hcm
          clear htk hcm
          generalize ([13, 10, 92].take m : List UInt8) = L at *
          obtain ⟨W1, hW1⟩ : ∃ W1, W1 = (wr.alloc (.cells #[.int .u8 c.toNat] 5)).alloc (.cells #[.string (str [c])] 9) := ⟨_, rfl⟩
          have hb1 : Below wr.heap.size wr W1 := by rw [hW1]; exact ((Below.refl _ _).alloc (Nat.le_refl _) _).alloc (by simp) _
          have HNo := Lib.hid hno
          have HYes := Lib.hid hyes
          have HSz := Lib.hid hsz
          have HBk := Lib.hid (hbk.below hb1 hbk.lt)
          have hQlt := hbk.lt
          have HO := Lib.hid (own_below hown hb1 (Nat.le_refl _))
          have HB1 := Lib.hid (hb.trans (hb1.mono hb.size))
          have HnX : Hid (∀ j u, [Value.string (str [c])][j]? = some u → W1.cell? ⟨wr.heap.size + 1, 0 + j, none⟩ = some u) := Lib.hid fun j u hj => by
            rw [hW1]
            have h := (Blk.new (wr.alloc (.cells #[.int .u8 c.toNat] 5)) 9 #[.string (str [c])]).cell j
            rw [show (wr.alloc (.cells #[.int .u8 c.toNat] 5)).heap.size = wr.heap.size + 1 from by simp] at h
            rw [Nat.zero_add, h]; simpa using hj
          have hW1s : W1.heap.size = wr.heap.size + 2 := by rw [hW1]; simp
          have hwx := hb.size
          have hs1 : wx.heap.size ≤ W1.heap.size := by omega
          have HS1 := Lib.hid hs1
          have HBb := Lib.hid hb1
          have HTv := Lib.hid htv
          have HW1s := Lib.hid hW1s
          clear hno hyes hsz hbk hb hb1 hown y4' y5' x0 x1 x2 x3 x4 x5 c4 hmk hst hs1 hW1s
          subst hW1
          go_wp2_with (at_builtin; refine wpList_append_any rfl _ _ 30 rfl wx.heap.size 9 Tryz.underlying30 info_strR rfl (by decide) (L.map fun c => .string (str [c])) rfl HO.out [.string (str [c])] rfl rfl (.inr ⟨_, _, rfl, HnX.out⟩) (by simp [Value.oneCell']) (by unfold maxLen; omega) (by omega) HS1.out ?_)
          intro v5 w5 hown5 hgrow5 hfr5
          have hs5 := hgrow5.size
          have hW1s := HW1s.out
          have hb5 : Below wx.heap.size wx w5 := HB1.out.grown hgrow5 HS1.out (fun k hk => (own_lt HO.out hk).1)
          have hq5 : Blk w5 (wx.heap.size + 1) 177 cs := (hgrow5.block _ (by omega) (fun e => ownNeBlk HO.out HBk.out (by decide) e.symm)).trans HBk.out
          have hye5 : ∀ x ∈ L, BsrAt wx.heap.size (wx.heap.size + 1) cs (.slice A1 L.length c1) w5 x := fun x hx => (HYes.out x hx).far (by omega) fun g _ hgt _ hl => (hgrow5.block g (by omega) (fun e => hgt e.symm)).trans (HBb.out.block g hl)
          have hv5 : ∀ x ∈ L, ∀ g cap, cs[x.toNat]? = some (.slice (some ⟨g, 0, none⟩) 2 cap) → v5.ownBlock ≠ some g := fun x hx g cap hg e => by
            obtain ⟨g', cap', a1, a3, a4, a5, a6, a7, a8⟩ := HYes.out x hx
            rw [a1] at hg
            injection hg with hg; injection hg with hg; injection hg with hg; injection hg with hg
            subst hg
            rcases hfr5 with h | h
            · exact a6 (h.symm.trans e)
            · rw [e] at h; injection h with h; omega
          have hqv := ownNeBlk hown5 hq5 (by decide)
          have HF : Hid (∀ cap, Bsr wx.heap.size (wx.heap.size + 1) (L ++ [c]) ((Lib.bytesWorld (w5.setCell ⟨wx.heap.size + 1, 256, none⟩ v5) 5 ⟨#[92, two2 c]⟩).setCell ⟨wx.heap.size + 1, c.toNat, none⟩ (.slice (some ⟨(w5.setCell ⟨wx.heap.size + 1, 256, none⟩ v5).heap.size, 0, none⟩) 2 cap))) := Lib.hid fun cap =>
            Bsr.step (by omega) hq5 HSz.out (by omega) hown5 HNo.out hye5 hv5 HCm.out hqv
          have d256 : w5.cell? ⟨wx.heap.size + 1, 256, none⟩ = some (.slice A1 L.length c1) := (hq5.cell 256).trans HTv.out
          have f256 : w5.frozen? ⟨wx.heap.size + 1, 256, none⟩ = false := hq5.frozen 256
          have hq6 := hq5.set_ 256 v5
          have hbw := bytesW_below (w5.setCell ⟨wx.heap.size + 1, 256, none⟩ v5) 5 ⟨#[92, two2 c]⟩
          have hq7 := hq6.below hbw hq6.lt
          have dc : (Lib.bytesWorld (w5.setCell ⟨wx.heap.size + 1, 256, none⟩ v5) 5 ⟨#[92, two2 c]⟩).cell? ⟨wx.heap.size + 1, c.toNat, none⟩ = some (.slice none 0 0) := (hq7.cell c.toNat).trans (by
            rw [Array.getElem?_setIfInBounds_ne (by omega)]
            exact HNo.out c HCm.out)
          have fc : (Lib.bytesWorld (w5.setCell ⟨wx.heap.size + 1, 256, none⟩ v5) 5 ⟨#[92, two2 c]⟩).frozen? ⟨wx.heap.size + 1, c.toNat, none⟩ = false := hq7.frozen _
          have HB7 : Hid (∀ u, Below wx.heap.size wx ((Lib.bytesWorld (w5.setCell ⟨wx.heap.size + 1, 256, none⟩ v5) 5 ⟨#[92, two2 c]⟩).setCell ⟨wx.heap.size + 1, c.toNat, none⟩ u)) := Lib.hid fun u => ((hb5.setCell (p := ⟨wx.heap.size + 1, 256, none⟩) (by show wx.heap.size ≤ wx.heap.size + 1; omega) v5).trans (hbw.mono (by simp; omega))).setCell (p := ⟨wx.heap.size + 1, c.toNat, none⟩) (by show wx.heap.size ≤ wx.heap.size + 1; omega) u
          obtain ⟨A5, c5, rfl, _⟩ := own_slice hown5
          clear hown5 hgrow5 hfr5 hs5 hb5 hq5 hye5 hv5 hqv hq6 hbw hq7 HO HnX HB1 HBk HYes HNo HSz HBb HTv
          go_wp2_with fail
          go_roundw
          case rel =>
            repeat apply Exists.intro
            refine ⟨?_, rfl⟩
            have hF := HF.out
            rw [show (w5.setCell ⟨wx.heap.size + 1, 256, none⟩ (Value.slice A5 (L.length + 1) c5)).heap.size = w5.heap.size from by simp] at hF
            exact ⟨m + 1, by rw [HTk.out]; exact hF _, HB7.out _, last_at m j hj⟩
          case measure => simp [intOf]; omega
        · clear hmk hst x0 x1 x2 x3 x4 x5 c4
          go_wp2_with fail
          go_ret
          exact ⟨_, rfl, HS.out, HB.out⟩
end Go.Proofs.YtoneheloojlifaaGreatDoor
/- The replacer's plain laws: what stands for a sign, how long an escaped text is. -/

namespace Go.Proofs.YtoneheloojlifaaGreatDoor
open Go.RowKit

theorem esc1_two {c : UInt8} (h : two1 c = true) : esc1 c = [92, two2 c] := by
  unfold two1 at h; unfold esc1 two2
  by_cases h1 : c = 92
  · rw [if_pos h1, if_pos h1]
  · rw [if_neg h1, if_neg h1]
    by_cases h2 : c = 10
    · rw [if_pos h2, if_pos h2]
    · rw [if_neg h2, if_neg h2]
      by_cases h3 : c = 13
      · rw [if_pos h3]
      · simp [h1, h2, h3] at h
theorem esc1_one {c : UInt8} (h : two1 c = false) : esc1 c = [c] := by
  unfold two1 at h; unfold esc1
  simp at h
  rw [if_neg h.1, if_neg h.2.1, if_neg h.2.2]
theorem escL_nil : escL [] = [] := rfl
theorem escL_count : ∀ l : List UInt8, (escL l).length = l.length + (l.count 92 + (l.count 10 + l.count 13))
  | [] => rfl
  | c :: l => by
    rw [escL_cons, List.length_append, escL_count l, List.count_cons, List.count_cons, List.count_cons, List.length_cons]
    have h1 : (c == (92 : UInt8)) = decide (c = 92) := by by_cases h : c = 92 <;> simp [h]
    have h2 : (c == (10 : UInt8)) = decide (c = 10) := by by_cases h : c = 10 <;> simp [h]
    have h3 : (c == (13 : UInt8)) = decide (c = 13) := by by_cases h : c = 13 <;> simp [h]
    rw [h1, h2, h3]
    by_cases a : c = 92
    · subst a; simp [esc1]; omega
    · by_cases b : c = 10
      · subst b; simp [esc1]; omega
      · by_cases d : c = 13
        · subst d; simp [esc1]; omega
        · simp [esc1, a, b, d]; omega
theorem escL_same : ∀ l : List UInt8, (escL l).length = l.length → escL l = l
  | [], _ => rfl
  | c :: l, h => by
    rw [escL_cons] at h ⊢
    have hl : l.length ≤ (escL l).length := by rw [escL_count]; omega
    cases ht : two1 c with
    | true => rw [esc1_two ht] at h; simp at h; omega
    | false => rw [esc1_one ht] at h ⊢; simp at h; rw [escL_same l h]; rfl
theorem escL_long (l : List UInt8) : l.length ≤ (escL l).length := by rw [escL_count]; omega
/-- what is escaped of the first j signs -/
def escT (s : ByteArray) (j : Nat) : List UInt8 := escL ((bts s).take j)
theorem escT_zero (s : ByteArray) : escT s 0 = [] := rfl
theorem escT_all (s : ByteArray) : escT s s.size = escL (bts s) := by unfold escT; rw [List.take_of_length_le (by rw [bts_len]; exact Nat.le_refl _)]
theorem escT_succ (s : ByteArray) (j : Nat) (hj : j < s.size) : escT s (j + 1) = escT s j ++ esc1 s[j] := by
  unfold escT
  rw [List.take_add_one, escL_append]
  have : (bts s)[j]? = some s[j] := by
    rw [List.getElem?_eq_getElem (by rw [bts_len]; exact hj)]
    rfl
  rw [this]
  simp [escL]
theorem escT_len (s : ByteArray) (j : Nat) : (escT s j).length ≤ 2 * j := by
  have h := escL_len ((bts s).take j)
  rw [List.length_take] at h
  unfold escT; omega
theorem escT_le (s : ByteArray) (j : Nat) (hj : j ≤ s.size) : j ≤ (escT s j).length := by
  have h := escL_long ((bts s).take j)
  rw [List.length_take, bts_len] at h
  unfold escT; omega
theorem escT_mono (s : ByteArray) (j : Nat) : (escT s j).length ≤ (escL (bts s)).length := by
  have h := escL_append ((bts s).take j) ((bts s).drop j)
  rw [List.take_append_drop] at h
  rw [h, List.length_append]; unfold escT; omega
end Go.Proofs.YtoneheloojlifaaGreatDoor
/- (*strings.Replacer).buildOnce, and sync.Once around it. -/

namespace Go.Proofs.YtoneheloojlifaaGreatDoor
open Go.RowKit

/-- what a Replacer holds ahead of its first use -/
structure RepNew (B b : Nat) (st : Int) (w : World) : Prop where
  lo : B ≤ b
  blk : ∃ v, Blk w b 110 #[.int .u32 0, .int .i32 st, .int .u32 0, .nilIface, v] ∧ w.ownsRow B 9 1 v 6 (pairs6.map .string)
def tabV (q : Nat) : Value := .iface 178 (.pointer (some ⟨q, 0, none⟩))
set_option maxRecDepth 100000 in
theorem buildOnce_any (b B : Nat) (st : Int) (w : World) (h : RepNew B b st w) :
    Calls Tryz.prog 64 #[.pointer (some ⟨b, 0, none⟩)] w fun e w' => e = .returned (.tuple #[]) ∧ ∃ q w1, Bsr w.heap.size q [13, 10, 92] w1 ∧ Below w.heap.size w w1 ∧ w' = (w1.setCell ⟨b, 3, none⟩ (tabV q)).setCell ⟨b, 4, none⟩ (.slice none 0 0) := by
  obtain ⟨hlo, v, hb, hv⟩ := h
  have HC := Lib.hid (build_any b B st v w hb hv)
  have HBk := Lib.hid hb
  clear hv hb
  go_enter Tryz.func64, Tryz.ntmps64
  go_wp2_with fail
  refine HC.out.mono ?_
  clear HC
  rintro e w1 ⟨q, rfl, hs, hb1⟩
  have HS := Lib.hid hs
  have HB := Lib.hid hb1
  have hk1 := HBk.out.below hb1 HBk.out.lt
  have c3 : w1.cell? ⟨b, 3, none⟩ = some .nilIface := (hk1.cell 3).trans rfl
  have f3 : w1.frozen? ⟨b, 3, none⟩ = false := hk1.frozen 3
  have c4 : w1.cell? ⟨b, 4, none⟩ = some v := (hk1.cell 4).trans rfl
  have f4 : w1.frozen? ⟨b, 4, none⟩ = false := hk1.frozen 4
  clear hs hb1 hk1
  go_wp2_with fail
  go_end0
  exact ⟨rfl, q, w1, HS.out, HB.out, rfl⟩

set_option maxRecDepth 100000 in
set_option maxHeartbeats 1600000 in
theorem slowR_any (b B : Nat) (w : World) (h : RepNew B b 0 w) :
    Calls Tryz.prog 85 #[.pointer (some ⟨b, 0, none⟩), .func (.func 64) #[.pointer (some ⟨b, 0, none⟩)] #[]] w fun e w' => e = .returned (.tuple #[]) ∧ ∃ q w1, Bsr w.heap.size q [13, 10, 92] w1 ∧ Below w.heap.size (w.setCell ⟨b, 1, none⟩ (.int .i32 1)) w1 ∧
      w' = ((((w1.setCell ⟨b, 3, none⟩ (tabV q)).setCell ⟨b, 4, none⟩ (.slice none 0 0)).drew.setCell ⟨b, 0, none⟩ (.int .u32 1)).setCell ⟨b, 1, none⟩ (.int .i32 0)) := by
  have HH := Lib.hid h
  obtain ⟨hlo, v, hb, hv⟩ := h
  have HBk := Lib.hid hb
  have hb1 := hb.set_ 1 (.int .i32 1)
  have h1 : RepNew B b 1 (w.setCell ⟨b, 1, none⟩ (.int .i32 1)) := ⟨hlo, v, by simpa using hb1, own_keep hv fun g hg _ => Below.heap_setCell _ _ _ _ (fun e => ownNeBlk hv hb (by decide) (by rw [hg, e]))⟩
  have HB1 := Lib.hid hb1
  have HL := Lib.hid (load_once ⟨b, 0, none⟩ 0 _ ((hb1.cell 0).trans rfl) false rfl)
  have hnot : ∀ (x : Bool) (w : World), (Op.unary .not (.bool x)).run Tryz.prog w = .ok (.bool (!x)) w := fun _ _ => rfl
  have HBO := Lib.hid (buildOnce_any b B 1 _ h1)
  have HLk := Lib.hid (lock_free ⟨b, 1, none⟩ w ((hb.cell 1).trans rfl) (hb.frozen 1))
  clear h1 hb1 hb hv
  go_enter_defers Tryz.func85, Tryz.ntmps85
  go_wp2_with fail
  refine HLk.out.mono ?_
  clear HLk
  rintro e w' ⟨rfl, rfl⟩
  go_wp2_with fail
  refine HL.out.mono ?_
  clear HL
  rintro e w' ⟨rfl, rfl⟩
  go_wp2_with fail
  refine HBO.out.mono ?_
  clear HBO
  rintro e w' ⟨rfl, q, w1, hs, hb1, rfl⟩
  rw [show (w.setCell ⟨b, 1, none⟩ (.int .i32 1)).heap.size = w.heap.size from by simp] at hs hb1
  have HS := Lib.hid hs
  have HB := Lib.hid hb1
  have hk1 := HB1.out.below hb1 (by simpa using HBk.out.lt)
  have hk2 := (hk1.set_ 3 (tabV q)).set_ 4 (.slice none 0 0)
  have hk3 := hk2.drew.set_ 0 (.int .u32 1)
  clear hs hb1
  go_wp2_with fail
  go_wp2
  refine leaves_cons (f := 123) (args := #[.pointer (some ⟨b, 0, none⟩), .bool true]) (by simp) (by simp [go_sem]) ?_
  refine (store_deferred ⟨b, 0, none⟩ (.int .u32 0) .returning _ ((hk2.cell 0).trans rfl) (hk2.frozen 0)).mono ?_
  rintro e u' w'' ⟨rfl, rfl, rfl⟩
  refine leaves_cons (f := 122) (args := #[.pointer (some ⟨b, 1, none⟩)]) (by simp [settle]) (by simp [go_sem]) ?_
  refine (unlock_deferred ⟨b, 1, none⟩ _ _ ((hk3.cell 1).trans rfl) (hk3.frozen 1)).mono ?_
  rintro e u' w'' ⟨rfl, rfl, rfl⟩
  simp [Leaves, settle, results, Tryz.results85]
  exact ⟨q, w1, HS.out, HB.out, rfl⟩
set_option maxRecDepth 100000 in
theorem doR_first (b B : Nat) (w : World) (h : RepNew B b 0 w) :
    Calls Tryz.prog 63 #[.pointer (some ⟨b, 0, none⟩), .func (.func 64) #[.pointer (some ⟨b, 0, none⟩)] #[]] w fun e w' => e = .returned (.tuple #[]) ∧ ∃ q w1, Bsr w.heap.size q [13, 10, 92] w1 ∧ Below w.heap.size (w.setCell ⟨b, 1, none⟩ (.int .i32 1)) w1 ∧
      w' = ((((w1.setCell ⟨b, 3, none⟩ (tabV q)).setCell ⟨b, 4, none⟩ (.slice none 0 0)).drew.setCell ⟨b, 0, none⟩ (.int .u32 1)).setCell ⟨b, 1, none⟩ (.int .i32 0)) := by
  have HS := Lib.hid (slowR_any b B w h)
  obtain ⟨hlo, v, hb, hv⟩ := h
  have HL := Lib.hid (load_once ⟨b, 0, none⟩ 0 w ((hb.cell 0).trans rfl) false rfl)
  have hnot : ∀ (x : Bool) (w : World), (Op.unary .not (.bool x)).run Tryz.prog w = .ok (.bool (!x)) w := fun _ _ => rfl
  clear hb hv
  go_enter Tryz.func63, Tryz.ntmps63
  go_wp2_with fail
  refine HL.out.mono ?_
  rintro e w' ⟨rfl, rfl⟩
  go_wp2_with fail
  refine HS.out.mono ?_
  rintro e w' ⟨rfl, h2⟩
  go_wp2_with fail
  go_end0
  exact ⟨rfl, h2⟩
theorem doR_done (b : Nat) (fv : Value) (w : World) (h : w.cell? ⟨b, 0, none⟩ = some (.int .u32 1)) :
    Calls Tryz.prog 63 #[.pointer (some ⟨b, 0, none⟩), fv] w fun e w' => e = .returned (.tuple #[]) ∧ w' = w := by
  have HL := Lib.hid (load_once ⟨b, 0, none⟩ 1 w h true rfl)
  have hnot : ∀ (x : Bool) (w : World), (Op.unary .not (.bool x)).run Tryz.prog w = .ok (.bool (!x)) w := fun _ _ => rfl
  clear h
  go_enter Tryz.func63, Tryz.ntmps63
  go_wp2_with fail
  refine HL.out.mono ?_
  rintro e w' ⟨rfl, rfl⟩
  go_wp2_with fail
  go_end0
  exact ⟨rfl, rfl⟩
/-- what a Replacer holds behind its first use -/
structure RepOk (B b : Nat) (w : World) : Prop where
  lo : B ≤ b
  blk : ∃ q, Blk w b 110 #[.int .u32 1, .int .i32 0, .int .u32 0, tabV q, .slice none 0 0] ∧ Bsr B q [13, 10, 92] w ∧ b ≠ q
def RepIn (B b : Nat) (w : World) : Prop := RepNew B b 0 w ∨ RepOk B b w
end Go.Proofs.YtoneheloojlifaaGreatDoor
