/- Rules, plainly; numbers of a text; ranges as texts. -/
import Derived.WalkSmall
import Derived.Lib.SmallJoins
import Derived.Lib.LaidTab
import Derived.Test.YtokjbdefkfdhhaaDoorTagS
import Derived.Test.YtokjbdefkfdhhaaDoorShelf
import Derived.Test.YtokjbdefkfdhhaaDoorSeqS
namespace Go.Proofs.YtokjbdefkfdhhaaDoor
open Go.RowKit

/- ## Plainly -/
structure Rl where
  op : UInt8
  mod : Int
  neg : Bool
  rng : List (Int × Int)
def numR (l : List UInt8) : Int := match Lib.atoiAll l with | .ok v => v | _ => -1
def rngOk (p : Int × Int) : Bool := !(decide (p.1 < 0) || decide (p.2 < p.1) || decide (1000000 < p.2))
def opsR : List UInt8 := [110, 105, 118, 119, 102, 116]
def fineR (r : Rl) : Bool := opsR.contains r.op && decide (0 ≤ r.mod) && decide (r.mod ≤ 1000000) && !r.rng.isEmpty && r.rng.all rngOk
/-- two cells -/
def Enc.pair : Enc (Int × Int) := ⟨2, 16, fun _ _ _ cs p => cs = [.int .i64 p.1, .int .i64 p.2], fun _ _ => True, fun _ => 1⟩
theorem Enc.pair_laws : Enc.pair.Laws := ⟨fun h => by cases h; rfl, fun h _ => h, fun h _ _ => h⟩
def Enc.rl : Enc Rl := ⟨4, 48, fun w lo hi cs r => ∃ v, cs = [.int .u8 r.op.toNat, .int .i64 r.mod, .bool r.neg, v] ∧ ListOk Enc.pair w lo hi v r.rng, fun _ _ => True, fun _ => 1⟩
theorem Enc.rl_laws : Enc.rl.Laws :=
  ⟨fun ⟨_, h, _⟩ => by cases h; rfl, fun ⟨v, h, k⟩ ha => ⟨v, h, k.keep Enc.pair_laws ha⟩, fun ⟨v, h, k⟩ h1 h2 => ⟨v, h, k.mono Enc.pair_laws h1 h2⟩⟩

/- ## The library's variables that a rule reads -/
structure RV (w : World) : Prop where
  max : ∃ m : Int, w.cell? ⟨2, 0, none⟩ = some (.int .i64 m)
  syn : ∃ tp p, w.var? Tryd.prog "strconv.ErrSyntax" = some #[.iface tp p]
  rng : ∃ tp p, w.var? Tryd.prog "strconv.ErrRange" = some #[.iface tp p]
  tab : Lib.TabIs Tryd.prog w "internal/strconv.uint64pow10" .u64 Lib.pow10Tab
theorem cell_lt {w : World} {g : Nat} {v : Value} (h : w.cell? ⟨g, 0, none⟩ = some v) : g < w.heap.size := by
  unfold World.cell? at h
  cases ho : w.heap[g]? with
  | none => simp [ho] at h
  | some o => exact (Array.getElem?_eq_some_iff.1 ho).1
theorem RV.below {w w' : World} (h : RV w) (hb : Below w.heap.size w w') : RV w' := by
  obtain ⟨m, hm⟩ := h.max
  obtain ⟨t1, p1, h1⟩ := h.syn
  obtain ⟨t2, p2, h2⟩ := h.rng
  refine ⟨⟨m, (hb.cell (p := ⟨2, 0, none⟩) (cell_lt hm)).trans hm⟩, ⟨t1, p1, Joins.var_stays (g := 3) (by kernel_rfl) h1 hb (Nat.le_refl _)⟩, ⟨t2, p2, Joins.var_stays (g := 4) (by kernel_rfl) h2 hb (Nat.le_refl _)⟩, Joins.tab_stays (g := 5) (by kernel_rfl) h.tab hb (Nat.le_refl _)⟩

set_option maxHeartbeats 1000000 in
theorem number_any (s : ByteArray) (w : World) (hs : s.size ≤ 1000000000) (hv : RV w) :
    Calls Tryd.prog 21 #[.string s] w fun e w' => e = .returned (.int .i64 (numR (bts s))) ∧ Below w.heap.size w w' := by
  have HA : Hid (Calls Tryd.prog 35 #[.string s] w fun e w' => (∃ v, e = .returned (.tuple #[.int .i64 v, .nilIface]) ∧ numR (bts s) = v ∨ ∃ t p, e = .returned (.tuple #[.int .i64 v, .iface t p]) ∧ numR (bts s) = -1) ∧ Below w.heap.size w w') := Lib.hid (by
    obtain ⟨t1, p1, h1⟩ := hv.syn
    obtain ⟨t2, p2, h2⟩ := hv.rng
    cases h : Lib.atoiAll s.data.toList with
    | ok v =>
      refine (Tryd.strconv_Atoi_ok s (by omega) v h w).mono ?_
      rintro e w' ⟨rfl, hw⟩
      refine ⟨⟨v, .inl ⟨rfl, by unfold numR bts; rw [h]⟩⟩, ?_⟩
      rcases hw with rfl | ⟨t, rfl⟩
      · exact Below.refl _ _
      · exact Lib.bytesWorld_below _ _ _
    | «syntax» =>
      refine (Tryd.strconv_Atoi_syntax_var s (by omega) h t1 p1 w h1).mono ?_
      rintro e w' ⟨N, rfl, _, _, hb⟩
      exact ⟨⟨0, .inr ⟨_, _, rfl, by unfold numR bts; rw [h]⟩⟩, hb⟩
    | range =>
      refine (Tryd.strconv_Atoi_range_var s (by omega) h t2 p2 w h2).mono ?_
      rintro e w' ⟨N, rfl, _, _, hb⟩
      exact ⟨⟨_, .inr ⟨_, _, rfl, by unfold numR bts; rw [h]⟩⟩, hb⟩)
  clear hv hs
  go_enter Tryd.func21, Tryd.ntmps21
  go_wp2_with fail
  refine HA.out.mono ?_
  clear HA
  rintro e w1 ⟨⟨v, ⟨rfl, hn⟩ | ⟨t, p, rfl, hn⟩⟩, hb⟩
  · have HB := Lib.hid hb
    have HN := Lib.hid hn
    clear hb hn
    go_wp2_with fail
    go_ret
    exact ⟨by rw [HN.out]; rfl, HB.out⟩
  · have HB := Lib.hid hb
    have HN := Lib.hid hn
    clear hb hn
    go_wp2_with fail
    go_ret
    exact ⟨by rw [HN.out]; rfl, HB.out⟩
end Go.Proofs.YtokjbdefkfdhhaaDoor
