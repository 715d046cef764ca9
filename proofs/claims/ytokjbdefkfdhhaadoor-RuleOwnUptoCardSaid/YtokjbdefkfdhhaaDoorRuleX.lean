/- A rule's parts as texts; is a relation fine? -/
import Derived.Test.YtokjbdefkfdhhaaDoorRelated
namespace Go.Proofs.YtokjbdefkfdhhaaDoor
open Go.RowKit

def partR (p : List Rl) : List UInt8 := joinT relatedR p [32, 97, 110, 100, 32]
def textR (R : List (List Rl)) : List UInt8 := joinT partR R [32, 111, 114, 32]
theorem mem_join_le {α : Type} (T : α → List UInt8) (sep : List UInt8) {l : List α} {x : α} (h : x ∈ l) : (T x).length ≤ (joinT T l sep).length := by
  unfold joinT
  cases l with
  | nil => cases h
  | cons a l =>
    rw [List.map_cons, Lib.join_length]
    have h1 : (T x).length ≤ Lib.lens (T a :: l.map T) := by
      have h2 : T x ∈ T a :: l.map T := by rw [← List.map_cons]; exact List.mem_map_of_mem h
      unfold Lib.lens
      generalize T a :: l.map T = L at h2
      induction L with
      | nil => cases h2
      | cons y L ih =>
        rw [List.map_cons, List.sum_cons]
        rcases List.mem_cons.1 h2 with rfl | h2
        · omega
        · have := ih h2; omega
    omega
/-- a relation whose text is not too long -/
structure RlIn (r : Rl) : Prop where
  fine : fineR r = true
  len : r.rng.length ≤ 10000000
theorem related_small {r : Rl} : (joinT rangedR r.rng [44]).length ≤ (relatedR r).length := by unfold relatedR; rw [List.length_append]; omega
set_option maxHeartbeats 1600000 in
theorem textPart_any (p : List Rl) (V : Value) (lo : Nat) (w : World) (hp : ∀ r ∈ p, RlIn r) (hV : ListOk Enc.rl w lo w.heap.size V p) (hn : p.length ≤ 10000000) (hj : (partR p).length ≤ 1000000000) (hv : RV w) :
    Calls Tryd.prog 11 #[V] w fun e w' => e = .returned (.string (str (partR p))) ∧ Below w.heap.size w w' := by
  have HJ := Lib.hid (joinedR_any p V [32, 97, 110, 100, 32] relatedR lo w hV hn (Nat.le_trans hj (by decide)) (Lib.hid fun r hr W hW V' hV' =>
    related_any r V' lo W (hp r hr).fine hV' (hp r hr).len (Nat.le_trans (Nat.le_trans related_small (mem_join_le relatedR _ hr)) hj) (hv.below hW)))
  clear hp hV hn hj hv
  go_enter Tryd.func11, Tryd.ntmps11
  go_wp2_with fail
  refine HJ.out.mono ?_
  clear HJ
  rintro e w1 ⟨rfl, hb⟩
  have HB := Lib.hid hb
  clear hb
  go_wp2_with fail
  go_ret
  exact ⟨rfl, HB.out⟩
set_option maxHeartbeats 1600000 in
theorem fine1_any (p : Int × Int) (w : World) : Calls Tryd.prog 37 #[.agg #[.int .i64 p.1, .int .i64 p.2]] w fun e w' => e = .returned (.bool (!rngOk p)) ∧ Below w.heap.size w w' := by
  obtain ⟨a, b⟩ := p
  have hR : (!rngOk (a, b)) = (decide (a < 0) || decide (b < a) || decide (1000000 < b)) := by unfold rngOk; simp
  rw [hR]
  clear hR
  dsimp only
  go_enter Tryd.func37, Tryd.ntmps37
  go_wp2_with fail
  all_goals (go_ret; exact ⟨rfl, (Below.refl _ _).alloc (Nat.le_refl _) _⟩)
end Go.Proofs.YtokjbdefkfdhhaaDoor
