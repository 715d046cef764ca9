/- The walk of package chain: less. (begun) -/
import Derived.Test.YtiaobgapfoogiaaGreatDoorTagC
import Derived.Test.YtiaobgapfoogiaaGreatDoorTagRow
import Derived.Test.YtiaobgapfoogiaaGreatDoorAppend
set_option linter.unusedSimpArgs false
set_option linter.unusedVariables false
namespace Go.Proofs.YtiaobgapfoogiaaGreatDoor
open Go.RowKit

theorem info_string : (Tryz.prog.info? 9).map (fun i => (i.zero, i.size, i.bytes)) = some (some (.string ByteArray.empty), 1, 16) := by kernel_rfl
/-- What less gives of a tag. -/
def Lessed (w w' : World) (p q : Tg × Value) (b : Bool) : Prop :=
  (less p.1 = none ∧ b = false ∧ q = p) ∨
  ∃ u, less p.1 = some u ∧ b = true ∧ q.1 = u ∧ (w'.ownsRow w.heap.size 9 1 q.2 u.vars.length (u.vars.map .string) ∨ (q.2 = p.2 ∧ p.1.vars = [] ∧ u.vars = []))
theorem empty_of {s : ByteArray} (h : s.toList = []) : s = ByteArray.empty := (eqs_iff _ _).1 (eqs_nil h).out
end Go.Proofs.YtiaobgapfoogiaaGreatDoor
/- The walk of package chain: Chain. -/

namespace Go.Proofs.YtiaobgapfoogiaaGreatDoor
open Go.RowKit

theorem info_tag : (Tryz.prog.info? 72).map (fun i => (i.zero, i.size, i.bytes)) = some (some (.agg #[.string ⟨#[]⟩, .string ⟨#[]⟩, .string ⟨#[]⟩, .slice none 0 0]), 4, 72) := by kernel_rfl
/-- What is asked of a tag that is handed in. -/
structure TagIn (w : World) (p : Tg × Value) : Prop where
  lo : ∃ lo, ListOk Enc.str w lo w.heap.size p.2 p.1.vars
  len : p.1.vars.length ≤ 140737488355328
  vars : ∀ s ∈ p.1.vars, s.size ≤ 9223372036854775807
  lang : p.1.lang.size ≤ 9223372036854775807
  script : p.1.script.size ≤ 9223372036854775807
  region : p.1.region.size ≤ 9223372036854775807
theorem TagIn.below {w w' : World} {p : Tg × Value} (h : TagIn w p) (hb : Below w.heap.size w w') : TagIn w' p :=
  ⟨let ⟨lo, hl⟩ := h.lo; ⟨lo, (hl.below Enc.str_laws hb).mono Enc.str_laws (Nat.le_refl _) hb.size⟩, h.len, h.vars, h.lang, h.script, h.region⟩
theorem check_in {w : World} {p : Tg × Value} (h : TagIn w p) :
    Calls Tryz.prog 82 #[.agg #[.string p.1.lang, .string p.1.script, .string p.1.region, p.2]] w fun e w' => e = .returned (errV (tagFault p.1)) ∧ Below w.heap.size w w' := by
  obtain ⟨lo, hl⟩ := h.lo
  exact check_any p.1 p.2 w lo hl h.len h.vars h.lang h.script h.region

theorem flatT_snoc (ps : List (Tg × Value)) (q : Tg × Value) : flatT (ps ++ [q]) = flatT ps ++ tagCells q := by simp [flatT]
theorem Rowed.push {base : Nat} {W w' : World} {o v' : Value} {ps : List (Tg × Value)} {q : Tg × Value} (h : Rowed base W o ps) (hq : VarRow base W q) (hap : ∀ p ∈ ps, Apart p q) (hg : W.grownBy w' o.ownBlock)
    (hown : w'.ownsRow base 72 4 v' (ps.length + 1) (flatT ps ++ tagCells q)) : Rowed base w' v' (ps ++ [q]) := by
  have keep : ∀ p, VarRow base W p → VarRow base w' p := fun p hp => own_keep hp fun g hpg hlt => hg.block g hlt fun e => own_types hp h.own (by decide) hpg e.symm
  refine ⟨?_, fun p hp => ?_, ?_⟩
  · rw [flatT_snoc]
    have e : (ps ++ [q]).length = ps.length + 1 := by simp
    rw [e]; exact hown
  · rcases List.mem_append.1 hp with hp | hp
    · exact keep p (h.vars p hp)
    · rw [List.mem_singleton.1 hp]; exact keep q hq
  · refine List.pairwise_append.2 ⟨h.apart, List.pairwise_singleton _ _, fun a ha b hb => ?_⟩
    rw [List.mem_singleton.1 hb]; exact hap a ha
theorem less_step {base : Nat} {W w' : World} {o : Value} {t : Tg} {ps : List (Tg × Value)} {p q : Tg × Value} {b : Bool} (h : Rowed base W o ps) (hp : VarRow base W p) (hbase : base ≤ W.heap.size)
    (hb : Below W.heap.size W w') (hl : Lessed W w' p q b) (ps0 : List (Tg × Value)) (hps : ps = ps0 ++ [p]) (hc : chainOf t = ps0.map Prod.fst ++ chainOf p.1) :
    Rowed base w' o ps ∧ chainOf t = ps.map Prod.fst ++ (if b then chainOf q.1 else []) ∧ VarRow base w' q ∧ (b = true → ∀ x ∈ ps, Apart x q) ∧ (b = true → deg q.1 < deg p.1) ∧ q.1.vars.length ≤ p.1.vars.length := by
  refine ⟨h.below hb (Nat.le_refl _), ?_⟩
  have hp' : VarRow base w' p := own_below hp hb (Nat.le_refl _)
  rcases hl with ⟨hn, rfl, rfl⟩ | ⟨u, hu, rfl, rfl, hv⟩
  · refine ⟨?_, hp', fun h => (by cases h), fun h => (by cases h), Nat.le_refl _⟩
    rw [hc, hps, chainOf_none hn]; simp
  · refine ⟨?_, ?_, fun _ x hx => ?_, fun _ => less_deg hu, ?_⟩
    · rw [hc, hps, chainOf_some hu]; simp
    · rcases hv with hv | ⟨h1, h2, h3⟩
      · exact own_mono hv hbase
      · unfold VarRow at hp' ⊢
        rw [h1, h3]; rw [h2] at hp'; exact hp'
    · rcases hv with hv | ⟨h1, h2, h3⟩
      · intro _ g hg hg'
        have h1 := (own_lt hv hg').1
        have h2 := (own_lt (h.vars x hx) hg).2
        omega
      · intro h0; rw [h3] at h0; exact absurd h0 (by simp)
    · unfold less at hu
      split at hu
      · injection hu with hu; rw [← hu]; simp
      · split at hu
        · split at hu
          · cases hu
          · injection hu with hu; rw [← hu]; exact Nat.le_refl _
        · injection hu with hu; rw [← hu]; exact Nat.le_refl _
def lenV : Value → Nat
  | .slice _ n _ => n
  | _ => 0
/-- What holds at the head of Chain's loop. -/
structure Chained (w wr : World) (t : Tg) (ps : List (Tg × Value)) (q : Tg × Value) (b : Bool) (o : Value) (nb : Nat) : Prop where
  below : Below w.heap.size w wr
  rowed : Rowed w.heap.size wr o ps
  box : Blk wr nb 72 #[.string q.1.lang, .string q.1.script, .string q.1.region, q.2]
  old : ∀ g, o.ownBlock = some g → g < nb
  base : w.heap.size ≤ nb
  sum : chainOf t = ps.map Prod.fst ++ (if b then chainOf q.1 else [])
  qv : VarRow w.heap.size wr q
  ap : b = true → ∀ x ∈ ps, Apart x q
  len : q.1.vars.length ≤ 3
  deg : ps.length + (if b then deg q.1 + 1 else 0) ≤ 6
end Go.Proofs.YtiaobgapfoogiaaGreatDoor
