/- PROVED: what is done with one clock cache changes nothing of another one, and keys that were told may be written into: for every input. Conditions: none. -/
import Derived.Test.YtolgkepkdidjcaaClockO
import Derived.Test.YtolgkepkdidjcaaOpen
namespace Go.Proofs.Ytolgkepkdidjcaa.clockOwn
open Go.RowKit Go.ChangeShapes Go.WideShapes Go.ChangeAt

set_option maxRecDepth 100000 in
set_option maxHeartbeats 1000000 in
theorem contract (H : Type) (enc : TypeId × Value → H) (W : World) (base : Nat) (args : Array Value) (ds gs : List (DataW H)) (before : List MemPlace)
    (hval : ∀ (j : Nat) t v, Try.f5.params[j]? = some t → args[j]? = some v → Value.okWide Try.prog W .any base t v)
    (hW : DataW.Whole enc Try.prog Try.f5.params.toList Rows.clockOwnSpec.vars false W args.toList ds gs before)
    (hsz : (DataW.weightsEach Try.prog (Try.f5.params.toList ++ Rows.clockOwnSpec.plain.varTypes Try.prog) (ds ++ gs)).all (· ≤ reachBytes) = true)
    : Calls Try.prog 5 args W fun e W' => ∃ v, e = .returned v ∧ Rows.clockOwnSpec.post enc Try.prog Try.f5 false true false false W args v W' := by
  have hW' := hW
  have hlt : ∀ x ∈ before, x.block < W.heap.size := fun x hx => hW.lt x hx
  obtain ⟨p, q, hA0, hV, rfl, _, _⟩ := hW
  have hA : DataW.TrodAll enc Try.prog W 0 (fun _ => true) true Try.f5.params.toList args.toList ds p := hA0
  clear hA0
  obtain ⟨rfl, rfl⟩ := trodVars_none hV
  rw [Try.params5] at hA hval hsz
  obtain ⟨v0, vs0, d0, ds0, p0, q0, hargs, rfl, rfl, h0, r0⟩ := trodAll_cons hA
  obtain ⟨v1, vs1, d1, ds1, p1, q1, rfl, rfl, rfl, h1, r1⟩ := trodAll_cons r0
  obtain ⟨v2, vs2, d2, ds2, p2, q2, rfl, rfl, rfl, h2, r2⟩ := trodAll_cons r1
  obtain ⟨rfl, rfl, rfl⟩ := trodAll_nil r2
  obtain rfl : args = #[v0, v1, v2] := by cases args; simp_all
  have hw : ∀ n ∈ DataW.weightsEach Try.prog ([3, 33, 9] ++ Rows.clockOwnSpec.plain.varTypes Try.prog) ([d0, d1, d2] ++ []), n ≤ reachBytes := fun n hn => by simpa using List.all_eq_true.1 hsz n hn
  obtain ⟨n0, rfl, n0a, n0b⟩ := arg_int Try.underlying3 (hval 0 3 v0 rfl rfl) h0
  obtain ⟨l1, hl1, fits1, blk1⟩ := arg_list (opens_list (E := Enc.str) (opens_str Try.underlying9) Try.underlying33 (by kernel_rfl) (by kernel_rfl) (by decide)) Try.underlying33 (hval 1 33 v1 rfl rfl) h1 (hi := W.heap.size) (fun x hx => hlt x (by simp [hx]))
  have g1 := fits1 reachBytes fun n hn => hw n (DataW.weights_mem_each (j := 1) rfl rfl n hn)
  obtain ⟨s2, rfl, fits2, blk2⟩ := arg_str Try.underlying9 (hval 2 9 v2 rfl rfl) h2
  have g2 := fits2 reachBytes fun n hn => hw n (DataW.weights_mem_each (j := 2) rfl rfl n hn)
  have walk : Calls Try.prog 5 #[.int .i64 n0, v1, .string s2] W fun e W' => e = .returned (.bool true) ∧ Below W.heap.size W W' := by
    have b1 : l1.length ≤ 140737488355328 := by have := g1.1; have e : Enc.str.bytes = 16 := rfl; rw [e] at this; simp only [reachBytes] at this; omega
    by_cases h : 1 ≤ n0 ∧ n0 ≤ 50
    · obtain ⟨m, rfl⟩ := Int.eq_ofNat_of_zero_le (show 0 ≤ n0 by omega)
      exact clockOwn_yes m v1 l1 s2 W hl1 b1 (by omega) (by omega)
    · exact clockOwn_no n0 v1 s2 W (by omega)
  exact walk.mono fun e W' ⟨he, hb⟩ => ⟨_, he, law_post hW' rfl (by kernel_rfl) Try.underlying4 rfl laid_out (by rw [Try.params5]; exact tys_cons ⟨by kernel_rfl, of_decide_eq_true (by kernel_rfl)⟩ (tys_cons ⟨by kernel_rfl, of_decide_eq_true (by kernel_rfl)⟩ (tys_cons ⟨by kernel_rfl, of_decide_eq_true (by kernel_rfl)⟩ (tys_nil)))) hb⟩

set_option maxRecDepth 100000 in
theorem lifted (os : Os) (started : os.Started) (H : Type) (enc : TypeId × Value → H) :
    ReturnsInHanded {} Try.checked os 5 .any (Rows.clockOwnSpec.pre6 enc Try.prog Try.f5 Rows.clockOwnRow.domain false) (Rows.clockOwnSpec.post enc Try.prog Try.f5 false true false false) := by
  refine returnsInHanded_of_change_sized (C := Try.checked) own_knob started (by kernel_rfl) Try.func5
    (ChangeSpec.witness6 (enc := enc) (C := Try.checked) false ⟨#[], #[.int .i64 0, .slice none 0 0, .string ByteArray.empty], []⟩ 8 (by kernel_rfl) (by kernel_rfl) (by kernel_rfl) (by kernel_rfl)) ?_
  intro W base args ds gs before hval hW _ hsz _
  exact contract H enc W base args ds gs before hval hW hsz

theorem holds : Rows.ClockOwnSaid :=
  OpenClaim.holds_of_wide 5 Try.f5 rfl rfl rfl rfl rfl rfl rfl ⟨rfl, rfl, rfl, rfl, rfl⟩ rfl rfl rfl rfl rfl (by kernel_rfl) Try.func5 (by kernel_rfl)
    (of_decide_eq_true (by kernel_rfl)) (by unfold Func.isWrapper; first | (rw [if_pos (by decide +kernel)]; kernel_rfl) | (rw [if_neg (by decide +kernel)]; exact ⟨rfl, rfl⟩))
    (fun os started H enc _ => lifted os started H enc)
end Go.Proofs.Ytolgkepkdidjcaa.clockOwn
