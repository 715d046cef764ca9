/- Args as arguments; a row of args that a call makes; linguistersame.Args at the same. -/
import Derived.Laws.StructEq
import Derived.Deep.QuietTactic
import Derived.BigQuiet
import Derived.Test.YtjdfpoppimcikaaGreatDoorAppend
import Derived.Test.YtjdfpoppimcikaaGreatDoorMapG
namespace Go.Proofs.YtjdfpoppimcikaaGreatDoor
open Go.RowKit

def Enc.bool : Enc Bool := ⟨1, 1, fun _ _ _ cs b => cs = [.bool b], fun _ _ => True, fun _ => 1⟩
theorem opens_bool {P : Program} {t : TypeId} (ht : P.underlying t = some .bool) : Opens P Enc.bool t := by
  intro H enc w sp held fuel cs x hi h _
  obtain ⟨b, rfl, rfl⟩ := DataW.trod_bool ht h
  exact ⟨b, rfl, fun _ _ => trivial, by simp [Enc.bool, Rows.uptoBulk]⟩
def Enc.dec : Enc DecV := ⟨2, 16, fun _ _ _ cs d => cs = [.int .i64 d.coef, .int .i64 d.scale], fun _ d => (Lit.int .i64 d.coef).wf = true ∧ (Lit.int .i64 d.scale).wf = true, fun _ => 2⟩
theorem opens_dec : Opens Tryz.prog Enc.dec 33 :=
  opens_struct2 (A := Enc.int) (B := Enc.int) (E := Enc.dec) (opens_int Tryz.underlying3) (opens_int Tryz.underlying3) Tryz.underlying33 rfl rfl (by kernel_rfl) (by kernel_rfl) (by kernel_rfl)
    DecV.mk
    (fun w lo hi c d a b h1 h2 => by
      obtain rfl : c = [.int .i64 a] := h1
      obtain rfl : d = [.int .i64 b] := h2
      exact rfl)
    (fun n a b h1 h2 => ⟨h1, h2⟩) (fun a b => by simp only [Enc.dec, Enc.int]; omega)
theorem opens_argV : Opens Tryz.prog Enc.argV 35 :=
  opens_struct4 (A := Enc.str) (B := Enc.bool) (C := Enc.dec) (D := Enc.str) (E := Enc.argV) (opens_str Tryz.underlying9) (opens_bool Tryz.underlying4) opens_dec (opens_str Tryz.underlying9) Tryz.underlying35 rfl rfl rfl rfl (by kernel_rfl) (by kernel_rfl) (by kernel_rfl) (by kernel_rfl) (by kernel_rfl)
    ArgV.mk
    (fun w lo hi c d e f a b g k h1 h2 h3 h4 => by
      obtain rfl : c = [.string a] := h1
      obtain rfl : d = [.bool b] := h2
      obtain rfl : e = [.int .i64 g.coef, .int .i64 g.scale] := h3
      obtain rfl : f = [.string k] := h4
      exact rfl)
    (fun n a b g k h1 h2 h3 h4 => ⟨h1, h3, h4⟩) (fun a b g k => by simp only [Enc.argV, Enc.str, Enc.bool, Enc.dec]; omega)
theorem mem_sum5 : ∀ l : List ArgV, l.length * 5 ≤ (l.map Enc.argV.bulk).sum
  | [] => Nat.le_refl _
  | a :: l => by
    have ih := mem_sum5 l
    have f5 : Enc.argV.bulk a = a.name.size + a.text.size + 5 := rfl
    rw [List.map_cons, List.sum_cons, List.length_cons]
    omega
/- ## A row of args -/
def flatA (l : List ArgV) : List Value := l.flatMap ArgV.cells
theorem flatA_snoc (l : List ArgV) (x : ArgV) : flatA (l ++ [x]) = flatA l ++ x.cells := by simp [flatA]
theorem flatA_length (l : List ArgV) : (flatA l).length = l.length * 5 := by
  induction l with
  | nil => rfl
  | cons p l ih => show (p.cells ++ flatA l).length = _; rw [List.length_append, ih]; simp [ArgV.cells]; omega
theorem flatA_at : ∀ (l : List ArgV) (i : Nat) (h : i < l.length), ((flatA l).drop (i * 5)).take 5 = l[i].cells
  | [], i, h => by cases h
  | p :: l, 0, _ => by show ((p.cells ++ flatA l).drop (0 * 5)).take 5 = _; simp [ArgV.cells]
  | p :: l, i + 1, h => by
    have ih := flatA_at l i (by simpa using h)
    show ((p.cells ++ flatA l).drop ((i + 1) * 5)).take 5 = _
    rw [show (i + 1) * 5 = p.cells.length + i * 5 from by simp [ArgV.cells]; omega, List.drop_append, List.drop_eq_nil_of_le (Nat.le_add_right _ _), Nat.add_sub_cancel_left]
    exact ih
theorem argsV_of_own {w : World} {base lo hi : Nat} {v : Value} {l : List ArgV} (h : w.ownsRow base 35 5 v l.length (flatA l)) (hb : lo ≤ base) (hs : w.heap.size ≤ hi) : ListOk Enc.argV w lo hi v l :=
  ListOk.of_own (E := Enc.argV) h hb hs fun i hl => flatA_at l i hl
theorem info_argV : (Tryz.prog.info? 35).map (fun i => (i.zero, i.size, i.bytes)) = some (some (.agg #[.string ByteArray.empty, .bool false, .int .i64 0, .int .i64 0, .string ByteArray.empty]), 5, 56) := by kernel_rfl
theorem flatA_one (l : List ArgV) : ∀ u ∈ flatA l, u.oneCell' = true := by
  intro u hu
  obtain ⟨y, _, hy⟩ := List.mem_flatMap.1 hu
  unfold ArgV.cells at hy
  simp at hy
  rcases hy with rfl | rfl | rfl | rfl | rfl <;> rfl
/-- the cells of a list of args, in one row -/
theorem ListOk.flatA {w : World} {lo hi : Nat} {A : Option Addr} {n c : Nat} {l : List ArgV} (h : ListOk Enc.argV w lo hi (.slice A n c) l) : l.length = 0 ∨ ∃ b o, A = some ⟨b, o, none⟩ ∧ lo ≤ b ∧ b < hi ∧ ∀ j u, (flatA l)[j]? = some u → w.cell? ⟨b, o + j, none⟩ = some u := by
  rcases Nat.eq_zero_or_pos l.length with h0 | h0
  · exact .inl h0
  · obtain ⟨b, o, rfl, h1, h2, _⟩ := h.argVAt 0 h0
    refine .inr ⟨b, o, rfl, h1, h2, fun j u hj => ?_⟩
    have hjl : j < l.length * 5 := by rw [← flatA_length]; exact (List.getElem?_eq_some_iff.1 hj).1
    have hi : j / 5 < l.length := by omega
    obtain ⟨b', o', hA, _, _, x0, x1, x2, x3, x4⟩ := h.argVAt (j / 5) hi
    injection hA with hA
    injection hA with hA1 hA2
    subst hA1; subst hA2
    have hat := flatA_at l (j / 5) hi
    have hu : l[j / 5].cells[j % 5]? = some u := by
      rw [← hat, List.getElem?_take, if_pos (by omega), List.getElem?_drop, show j / 5 * 5 + j % 5 = j from by omega]
      exact hj
    have hm : j % 5 < 5 := Nat.mod_lt _ (by decide)
    have hj5 : j = j / 5 * 5 + j % 5 := by omega
    generalize j % 5 = q at *
    generalize j / 5 = i at *
    subst hj5
    rw [← Nat.add_assoc]
    match q, hm with
    | 0, _ => simp only [ArgV.cells, List.getElem?_cons_zero] at hu; rw [← hu]; exact x0
    | 1, _ => simp only [ArgV.cells, List.getElem?_cons_zero, List.getElem?_cons_succ] at hu; rw [← hu]; exact x1
    | 2, _ => simp only [ArgV.cells, List.getElem?_cons_zero, List.getElem?_cons_succ] at hu; rw [← hu]; exact x2
    | 3, _ => simp only [ArgV.cells, List.getElem?_cons_zero, List.getElem?_cons_succ] at hu; rw [← hu]; exact x3
    | 4, _ => simp only [ArgV.cells, List.getElem?_cons_zero, List.getElem?_cons_succ] at hu; rw [← hu]; exact x4
set_option maxHeartbeats 1600000 in
set_option maxRecDepth 100000 in
theorem argsV_same (l : List ArgV) (u v : Value) (lo lo' : Nat) (w : World) (hu : ListOk Enc.argV w lo w.heap.size u l) (hv : ListOk Enc.argV w lo' w.heap.size v l) (hn : l.length ≤ 10000000) :
    Calls Tryz.prog 7 #[u, v] w fun e w' => e = .returned (.bool true) ∧ Below w.heap.size w w' := by
  obtain ⟨A, c, rfl, _⟩ := hu.form
  obtain ⟨B, d, rfl, _⟩ := hv.form
  have HU := Lib.hid hu
  have HV := Lib.hid hv
  clear hu hv
  go_enter Tryz.func7, Tryz.ntmps7
  go_wp2_with fail
  go_loopw [5] (fun i wr => ∃ j : Nat, j ≤ l.length ∧ i = .int .i64 j ∧ ∃ n, wr = w.drewN n) (fun i _ => l.length - (intOf i).toNat)
  case atStart => exact ⟨0, Nat.zero_le _, rfl, 0, rfl⟩
  case round =>
    obtain ⟨j, hj, rfl, n, rfl⟩ := hrel
    by_cases hlt : j < l.length
    · have i1 : (0 : Int) ≤ (j : Int) := Int.natCast_nonneg j
      have i2 : (j : Int) < (l.length : Int) := by omega
      obtain ⟨b1, o1, rfl, _, _, x0, x1, x2, x3, x4⟩ := HU.out.argVAt j hlt
      obtain ⟨b2, o2, rfl, _, _, y0, y1, y2, y3, y4⟩ := HV.out.argVAt j hlt
      generalize l[j] = e at *
      obtain ⟨e0, e1, ⟨e2, e3⟩, e4⟩ := e
      dsimp only at x0 x1 x2 x3 x4 y0 y1 y2 y3 y4
      have hk : (e0.toList == e0.toList) = true := by simp
      have hk4 : (e4.toList == e4.toList) = true := by simp
      go_wp2_with fail
      go_quiet (fail)
      go_wp2
      go_roundw
      case rel => exact ⟨j + 1, by omega, by go_num, _, rfl⟩
      case measure => simp [intOf]; omega
    · obtain rfl : j = l.length := by omega
      have hce : ¬ ((l.length : Int) < (l.length : Int)) := by omega
      clear HU HV
      go_wp2_with fail
      go_ret
      exact ⟨rfl, below_drewN (Below.refl _ _) n⟩
end Go.Proofs.YtjdfpoppimcikaaGreatDoor
