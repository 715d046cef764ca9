/- PROVED: in a clock cache what was put last is there, with its value; no more are there than may be, none twice; what goes was there and is there no more: for every input. Conditions: none. -/
import Derived.Test.YtolgkepkdidjcaaClockL
import Derived.Test.YtolgkepkdidjcaaOpen
namespace Go.Proofs.Ytolgkepkdidjcaa.clockLast
open Go.RowKit Go.ChangeShapes Go.WideShapes Go.ChangeAt

set_option maxRecDepth 100000 in
theorem lifted (os : Os) (started : os.Started) (H : Type) (enc : TypeId × Value → H) :
    ReturnsInHanded {} Try.checked os 4 .any (Rows.clockLastSpec.pre6 enc Try.prog Try.f4 Rows.clockLastRow.domain false) (Rows.clockLastSpec.post enc Try.prog Try.f4 false true false false) := by
  refine returnsInHanded_of_change_sized (C := Try.checked) own_knob started (by kernel_rfl) Try.func4
    (ChangeSpec.witness6 (enc := enc) (C := Try.checked) false ⟨#[], #[.int .i64 0, .slice none 0 0, .slice none 0 0], []⟩ 8 (by kernel_rfl) (by kernel_rfl) (by kernel_rfl) (by kernel_rfl)) ?_
  intro W base args ds gs before hval0 hW hcnd hsz0 _
  have hval : ∀ (j : Nat) t v, Try.f4.params[j]? = some t → args[j]? = some v → Value.okWide Try.prog W .any base t v := hval0
  have hW' : DataW.Whole enc Try.prog Try.f4.params.toList Rows.clockLastSpec.vars false W args.toList ds gs before := hW
  have hlt : ∀ x ∈ before, x.block < W.heap.size := fun x hx => hW.lt x hx
  have hsz : (DataW.weightsEach Try.prog (Try.f4.params.toList ++ Rows.clockLastSpec.plain.varTypes Try.prog) (ds ++ gs)).all (· ≤ reachBytes) = true := hsz0
  obtain ⟨p, q, hA0, hV, rfl, _, _⟩ := hW
  have hA : DataW.TrodAll enc Try.prog W 0 (fun _ => true) true Try.f4.params.toList args.toList ds p := hA0
  clear hA0 hval0 hsz0
  obtain ⟨rfl, rfl⟩ := trodVars_none hV
  rw [Try.params4] at hA hval hsz
  obtain ⟨v0, vs0, d0, ds0, p0, q0, hargs, rfl, rfl, h0, r0⟩ := trodAll_cons hA
  obtain ⟨v1, vs1, d1, ds1, p1, q1, rfl, rfl, rfl, h1, r1⟩ := trodAll_cons r0
  obtain ⟨v2, vs2, d2, ds2, p2, q2, rfl, rfl, rfl, h2, r2⟩ := trodAll_cons r1
  obtain ⟨rfl, rfl, rfl⟩ := trodAll_nil r2
  obtain rfl : args = #[v0, v1, v2] := by cases args; simp_all
  have hw : ∀ n ∈ DataW.weightsEach Try.prog ([3, 33, 33] ++ Rows.clockLastSpec.plain.varTypes Try.prog) ([d0, d1, d2] ++ []), n ≤ reachBytes := fun n hn => by simpa using List.all_eq_true.1 hsz n hn
  obtain ⟨n0, rfl, n0a, n0b⟩ := arg_int Try.underlying3 (hval 0 3 v0 rfl rfl) h0
  obtain ⟨l1, hl1, fits1, _⟩ := arg_list (opens_list (E := Enc.str) (opens_str Try.underlying9) Try.underlying33 (by kernel_rfl) (by kernel_rfl) (by decide)) Try.underlying33 (hval 1 33 v1 rfl rfl) h1 (hi := W.heap.size) (fun x hx => hlt x (by simp [hx]))
  obtain ⟨l2, hl2, fits2, _⟩ := arg_list (opens_list (E := Enc.str) (opens_str Try.underlying9) Try.underlying33 (by kernel_rfl) (by kernel_rfl) (by decide)) Try.underlying33 (hval 2 33 v2 rfl rfl) h2 (hi := W.heap.size) (fun x hx => hlt x (by simp [hx]))
  have g1 := fits1 reachBytes fun n hn => hw n (DataW.weights_mem_each (j := 1) rfl rfl n hn)
  have g2 := fits2 reachBytes fun n hn => hw n (DataW.weights_mem_each (j := 2) rfl rfl n hn)
  have b1 : l1.length ≤ 140737488355328 := by have := g1.1; have e : Enc.str.bytes = 16 := rfl; rw [e] at this; simp only [reachBytes] at this; omega
  have b2 : l2.length ≤ 140737488355328 := by have := g2.1; have e : Enc.str.bytes = 16 := rfl; rw [e] at this; simp only [reachBytes] at this; omega
  have walk : Calls Try.prog 4 #[.int .i64 n0, v1, v2] W fun e W' => e = .returned (.bool true) ∧ Below W.heap.size W W' := by
    by_cases h : 1 ≤ n0 ∧ n0 ≤ 50
    · obtain ⟨m, rfl⟩ := Int.eq_ofNat_of_zero_le (show 0 ≤ n0 by omega)
      exact clockLast_yes m v1 v2 l1 l2 W hl1 hl2 b1 b2 (by omega) (by omega)
    · exact clockLast_no n0 v1 v2 W (by omega)
  exact walk.mono fun e W' ⟨he, hb⟩ => ⟨_, he, law_post hW' rfl (by kernel_rfl) Try.underlying4 rfl laid_out (by rw [Try.params4]; exact tys_cons ⟨by kernel_rfl, of_decide_eq_true (by kernel_rfl)⟩ (tys_cons ⟨by kernel_rfl, of_decide_eq_true (by kernel_rfl)⟩ (tys_cons ⟨by kernel_rfl, of_decide_eq_true (by kernel_rfl)⟩ tys_nil))) hb⟩

theorem holds : Rows.ClockLastSaid :=
  OpenClaim.holds_of_wide 4 Try.f4 rfl rfl rfl rfl rfl rfl rfl ⟨rfl, rfl, rfl, rfl, rfl⟩ rfl rfl rfl rfl rfl (by kernel_rfl) Try.func4 (by kernel_rfl)
    (of_decide_eq_true (by kernel_rfl)) (by unfold Func.isWrapper; first | (rw [if_pos (by decide +kernel)]; kernel_rfl) | (rw [if_neg (by decide +kernel)]; exact ⟨rfl, rfl⟩))
    (fun os started H enc _ => lifted os started H enc)
end Go.Proofs.Ytolgkepkdidjcaa.clockLast
