/- PROVED: the bundles in which a text is sought stay: for every input of bulk at most 1048576. Conditions: the variables of unicode/utf8 and errors.errorType are tied to the program's text by the card. -/
import Derived.Test.YtdmjelkjeiinjaaDoorFindOwn
import Derived.Test.YtdmjelkjeiinjaaDoorOpen
import Derived.Test.YtdmjelkjeiinjaaDoorLaidE
import Derived.Test.YtdmjelkjeiinjaaDoorCards
import Derived.Test.YtdmjelkjeiinjaaDoorTie
set_option linter.unusedSimpArgs false
set_option linter.unusedVariables false
namespace Go.Proofs.YtdmjelkjeiinjaaDoor.findOwnUpto
open Go.RowKit Go.ChangeShapes Go.WideShapes Go.ChangeAt

set_option maxRecDepth 100000 in
set_option maxHeartbeats 1000000 in
theorem contract (H : Type) (enc : TypeId × Value → H) (W : World) (base : Nat) (args : Array Value) (ds gs : List (DataW H)) (before : List MemPlace)
    (hval : ∀ (j : Nat) t v, Tryd.f6.params[j]? = some t → args[j]? = some v → Value.okWide Tryd.prog W .any base t v)
    (hW : DataW.Whole enc Tryd.prog Tryd.f6.params.toList Rows.findOwnSpec.vars false W args.toList ds gs before)
    (hk : Rows.uptoSmall H (ds ++ gs) = true)
    (hsz : (DataW.weightsEach Tryd.prog (Tryd.f6.params.toList ++ Rows.findOwnSpec.plain.varTypes Tryd.prog) (ds ++ gs)).all (· ≤ reachBytes) = true)
    (hL : laidMetH Tryd.prog Rows.findOwnUptoRow.laid W)
    (hSh : W.ShapedOpen Tryd.prog)
    : Calls Tryd.prog 6 args W fun e W' => ∃ v, e = .returned v ∧ Rows.findOwnSpec.post enc Tryd.prog Tryd.f6 false true false false W args v W' := by
  have hW' := hW
  have hlt : ∀ x ∈ before, x.block < W.heap.size := fun x hx => hW.lt x hx
  obtain ⟨p, q, hA0, hV, rfl, _, _⟩ := hW
  have hA : DataW.TrodAll enc Tryd.prog W 0 (fun _ => true) true Tryd.f6.params.toList args.toList ds p := hA0
  clear hA0
  obtain ⟨rfl, rfl⟩ := trodVars_none hV
  rw [Tryd.params6] at hA hval hsz
  obtain ⟨v0, vs0, d0, ds0, p0, q0, hargs, rfl, rfl, h0, r0⟩ := trodAll_cons hA
  obtain ⟨v1, vs1, d1, ds1, p1, q1, rfl, rfl, rfl, h1, r1⟩ := trodAll_cons r0
  obtain ⟨v2, vs2, d2, ds2, p2, q2, rfl, rfl, rfl, h2, r2⟩ := trodAll_cons r1
  obtain ⟨rfl, rfl, rfl⟩ := trodAll_nil r2
  obtain rfl : args = #[v0, v1, v2] := by cases args; simp_all
  have hB : Rows.uptoBulkAll ([d0, d1, d2] : List (DataW H)) ≤ 1048576 := by have := of_decide_eq_true hk; simpa only [List.append_nil] using this
  simp only [Rows.uptoBulkAll] at hB
  have hw : ∀ n ∈ DataW.weightsEach Tryd.prog ([43, 9, 9] ++ Rows.findOwnSpec.plain.varTypes Tryd.prog) ([d0, d1, d2] ++ []), n ≤ reachBytes := fun n hn => by simpa using List.all_eq_true.1 hsz n hn
  obtain ⟨l0, hl0, fits0, blk0⟩ := arg_list (opens_list (E := Enc.bun) opens_bun Tryd.underlying43 (by kernel_rfl) (by kernel_rfl) (by decide)) Tryd.underlying43 (hval 0 43 v0 rfl rfl) h0 (hi := W.heap.size) (fun x hx => hlt x (by simp [hx]))
  have g0 := fits0 reachBytes fun n hn => hw n (DataW.weights_mem_each (j := 0) rfl rfl n hn)
  obtain ⟨s1, rfl, fits1, blk1⟩ := arg_str Tryd.underlying9 (hval 1 9 v1 rfl rfl) h1
  have g1 := fits1 reachBytes fun n hn => hw n (DataW.weights_mem_each (j := 1) rfl rfl n hn)
  obtain ⟨s2, rfl, fits2, blk2⟩ := arg_str Tryd.underlying9 (hval 2 9 v2 rfl rfl) h2
  have g2 := fits2 reachBytes fun n hn => hw n (DataW.weights_mem_each (j := 2) rfl rfl n hn)
  have walk : Calls Tryd.prog 6 #[v0, .string s1, .string s2] W fun e W' => e = .returned (.bool true) ∧ Below W.heap.size W W' := by
    have b0 : l0.length * 40 ≤ 140737488355328 := by have h := g0.1; have e : Enc.bun.bytes = 40 := rfl; rw [e] at h; exact Nat.le_trans h (by decide)
    have k0 : (l0.map Enc.bun.bulk).sum ≤ 1048576 := by have h : (l0.map Enc.bun.bulk).sum + 1 ≤ _ := blk0; omega
    have in0 : BunsIn W v0 l0 := ⟨⟨_, hl0⟩, b0, fun b hb => by
      obtain ⟨f1, f2, f3⟩ := g0.2 b hb
      have e : Enc.ent.bytes = 32 := rfl
      rw [e] at f2
      have f4 := bulk_mem Enc.bun.bulk hb
      have f5 : Enc.bun.bulk b = b.tag.size + Enc.ent.list.bulk b.ents := rfl
      exact ⟨by omega, by have h : b.ents.length * 32 ≤ 140737488355328 := Nat.le_trans f2 (by decide); omega, fun x hx => ⟨Nat.le_trans (f3 x hx).1 (by decide), Nat.le_trans (f3 x hx).2 (by decide)⟩⟩⟩
    exact findOwn_any l0 v0 s1 s2 W in0 (by omega) (maxVar_of_shaped hSh) (errVar_of_laid2 hL)
  exact walk.mono fun e W' ⟨he, hb⟩ => ⟨_, he, law_post hW' rfl (by kernel_rfl) Tryd.underlying4 rfl laid_out (by rw [Tryd.params6]; exact tys_cons ⟨by kernel_rfl, of_decide_eq_true (by kernel_rfl)⟩ (tys_cons ⟨by kernel_rfl, of_decide_eq_true (by kernel_rfl)⟩ (tys_cons ⟨by kernel_rfl, of_decide_eq_true (by kernel_rfl)⟩ (tys_nil)))) hb⟩

theorem reads (os : Os) {H : Type} (enc : TypeId × Value → H) : ∃ places, DataW.whole enc Tryd.prog ((laidWorld #[.slice none 0 0, .string ByteArray.empty, .string ByteArray.empty] os).forCall (fun _ _ => 0) ⟨#[], #[.slice none 0 0, .string ByteArray.empty, .string ByteArray.empty], []⟩).memory Tryd.f6.params.toList Rows.findOwnSpec.vars false (#[.slice none 0 0, .string ByteArray.empty, .string ByteArray.empty] : Array Value).toList 8 = some ([.nil, .lit (.string []), .lit (.string [])], [], places) :=
  ⟨[], by kernel_rfl⟩
set_option maxRecDepth 100000 in
theorem lifted (os : Os) (started : os.Started) (H : Type) (enc : TypeId × Value → H) (F : Stop.Interp) :
    ReturnsInHanded {} Tryd.checked os 6 .any ((Rows.OpenSpec.upto Rows.findOwnSpec).preRow enc Tryd.prog Tryd.f6 Rows.findOwnUptoRow.domain false Rows.findOwnUptoRow.laid) (((Rows.OpenSpec.upto Rows.findOwnSpec).at F).post enc Tryd.prog Tryd.f6 false true false false) := by
  obtain ⟨places, hx⟩ := reads os enc
  refine returnsInHanded_of_row (C := Tryd.checked) (s := (Rows.OpenSpec.upto Rows.findOwnSpec)) own_knob started (by kernel_rfl) Tryd.func6
    (witness_row_at (enc := enc) (C := Tryd.checked) false (laidWorld #[.slice none 0 0, .string ByteArray.empty, .string ByteArray.empty] os) #[.slice none 0 0, .string ByteArray.empty, .string ByteArray.empty] rfl (by kernel_rfl) (by kernel_rfl) (by kernel_rfl)
      (OpenSpec.preRow_of_cond 8 hx (by kernel_rfl) (fun k hk => by cases hk; kernel_rfl) (by kernel_rfl) (laidWorld_met2 os _))) ?_
  intro W base args ds gs before hval hW _ hcond hsz hL hSh _
  exact contract H enc W base args ds gs before hval hW (hcond _ rfl) hsz hL hSh
theorem said : Rows.FindOwnUptoSaid :=
  OpenClaim.holds_of_cond 6 Tryd.f6 rfl rfl rfl rfl rfl rfl rfl ⟨rfl, rfl, rfl, rfl, rfl⟩ rfl rfl rfl rfl rfl (by kernel_rfl) Tryd.func6 (by kernel_rfl)
    (of_decide_eq_true (by kernel_rfl)) (by unfold Func.isWrapper; first | (rw [if_pos (by decide +kernel)]; kernel_rfl) | (rw [if_neg (by decide +kernel)]; exact ⟨rfl, rfl⟩))
    (fun os started H enc _ F => by rw [OpenClaim.pre_eq_preRow]; exact lifted os started H enc F)
theorem noStandIn : ∀ t ∈ [43, 9, 9], Tryd.prog.wantsStandIn t = false := by
  intro t ht
  simp only [List.mem_cons, List.not_mem_nil, or_false] at ht
  rcases ht with rfl | rfl | rfl
  · exact (show Tryd.prog.wantsStandIn 43 = false by kernel_rfl)
  · exact (show Tryd.prog.wantsStandIn 9 = false by kernel_rfl)
  · exact (show Tryd.prog.wantsStandIn 9 = false by kernel_rfl)
theorem plainly (f : FuncId) (fn : Func) (hf : Tryd.pinned.checked.prog.funcNamed "linguister/linguisterlaw5.FindOwn" = some f) (hfn : Tryd.pinned.checked.prog.funcs[f]? = some fn) :
    true = Tryd.pinned.checked.prog.looks [] ∧ ∀ (j : Nat) t, fn.params[j]? = some t → Tryd.pinned.checked.prog.wantsStandIn t = false := by
  obtain rfl : f = 6 := Option.some.inj ((show Tryd.prog.funcNamed "linguister/linguisterlaw5.FindOwn" = some 6 by kernel_rfl).symm.trans hf) |>.symm
  obtain rfl : fn = Tryd.f6 := (Option.some.inj (Tryd.func6.symm.trans hfn)).symm
  refine ⟨by kernel_rfl, fun j t ht => ?_⟩
  rw [Tryd.params6] at ht
  exact noStandIn t (by have := Array.mem_of_getElem? ht; simpa using this)
theorem card : Rows.FindOwnUptoCardSaid :=
  Claim7.holds_tied_plain_at .later [] _ _ _ _ said (fun _ h => by cases h) (by kernel_rfl) (fun _ h => by cases h) findOwnUpto_row_tie rfl ⟨rfl, rfl⟩ (by kernel_rfl) rfl plainly (by kernel_rfl)
end Go.Proofs.YtdmjelkjeiinjaaDoor.findOwnUpto
