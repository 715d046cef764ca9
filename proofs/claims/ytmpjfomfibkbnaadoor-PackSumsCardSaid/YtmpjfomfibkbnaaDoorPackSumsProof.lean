/- PROVED: of bytes that are the same but for the last four the sums are the same just if those are: for every input. Conditions: the variables of unicode/utf8 are tied to the program's text by the card. -/
import Derived.Test.YtmpjfomfibkbnaaDoorPackSums
import Derived.Test.YtmpjfomfibkbnaaDoorOpenB
import Derived.Test.YtmpjfomfibkbnaaDoorLaidC
import Derived.Test.YtmpjfomfibkbnaaDoorCards
import Derived.Test.YtmpjfomfibkbnaaDoorTie
set_option linter.unusedSimpArgs false
set_option linter.unusedVariables false
namespace Go.Proofs.YtmpjfomfibkbnaaDoor.packSums
open Go.RowKit Go.ChangeShapes Go.WideShapes Go.ChangeAt

set_option maxRecDepth 100000 in
set_option maxHeartbeats 1000000 in
theorem contract (H : Type) (enc : TypeId × Value → H) (W : World) (base : Nat) (args : Array Value) (ds gs : List (DataW H)) (before : List MemPlace)
    (hval : ∀ (j : Nat) t v, Tryd.f3.params[j]? = some t → args[j]? = some v → Value.okWide Tryd.prog W .any base t v)
    (hW : DataW.Whole enc Tryd.prog Tryd.f3.params.toList Rows.packSumsSpec.vars false W args.toList ds gs before)
    (hsz : (DataW.weightsEach Tryd.prog (Tryd.f3.params.toList ++ Rows.packSumsSpec.plain.varTypes Tryd.prog) (ds ++ gs)).all (· ≤ reachBytes) = true)
    (hL : laidMetH Tryd.prog Rows.packSumsRow.laid W)
    (hSh : W.ShapedOpen Tryd.prog)
    : Calls Tryd.prog 3 args W fun e W' => ∃ v, e = .returned v ∧ Rows.packSumsSpec.post enc Tryd.prog Tryd.f3 false true false false W args v W' := by
  have hW' := hW
  have hlt : ∀ x ∈ before, x.block < W.heap.size := fun x hx => hW.lt x hx
  obtain ⟨p, q, hA0, hV, rfl, _, _⟩ := hW
  have hA : DataW.TrodAll enc Tryd.prog W 0 (fun _ => true) true Tryd.f3.params.toList args.toList ds p := hA0
  clear hA0
  obtain ⟨rfl, rfl⟩ := trodVars_none hV
  rw [Tryd.params3] at hA hval hsz
  obtain ⟨v0, vs0, d0, ds0, p0, q0, hargs, rfl, rfl, h0, r0⟩ := trodAll_cons hA
  obtain ⟨v1, vs1, d1, ds1, p1, q1, rfl, rfl, rfl, h1, r1⟩ := trodAll_cons r0
  obtain ⟨v2, vs2, d2, ds2, p2, q2, rfl, rfl, rfl, h2, r2⟩ := trodAll_cons r1
  obtain ⟨rfl, rfl, rfl⟩ := trodAll_nil r2
  obtain rfl : args = #[v0, v1, v2] := by cases args; simp_all
  have hw : ∀ n ∈ DataW.weightsEach Tryd.prog ([22, 23, 23] ++ Rows.packSumsSpec.plain.varTypes Tryd.prog) ([d0, d1, d2] ++ []), n ≤ reachBytes := fun n hn => by simpa using List.all_eq_true.1 hsz n hn
  obtain ⟨l0, hl0, fits0, blk0⟩ := arg_list (opens_list (E := Enc.byte) (opens_byte Tryd.underlying5) Tryd.underlying22 (by kernel_rfl) (by kernel_rfl) (by decide)) Tryd.underlying22 (hval 0 22 v0 rfl rfl) h0 (hi := W.heap.size) (fun x hx => hlt x (by simp [hx]))
  have g0 := fits0 reachBytes fun n hn => hw n (DataW.weights_mem_each (j := 0) rfl rfl n hn)
  obtain ⟨n1, rfl, hn1⟩ := arg_u32 Tryd.underlying23 (hval 1 23 v1 rfl rfl) h1
  obtain ⟨n2, rfl, hn2⟩ := arg_u32 Tryd.underlying23 (hval 2 23 v2 rfl rfl) h2
  have walk : Calls Tryd.prog 3 #[v0, .int .u32 n1, .int .u32 n2] W fun e W' => e = .returned (.bool true) ∧ Below W.heap.size W W' := by
    have b0 : l0.length + 4 ≤ 140737488355328 := by have h := g0.1; have e : Enc.byte.bytes = 1 := rfl; rw [e] at h; simp only [reachBytes] at h; omega
    exact packSums_any 0 l0 v0 n1 n2 W hl0 b0 hn1 hn2 (maxVar_of_shaped hSh)
  exact walk.mono fun e W' ⟨he, hb⟩ => ⟨_, he, law_post hW' rfl (by kernel_rfl) Tryd.underlying4 rfl laid_out (by rw [Tryd.params3]; exact tys_cons ⟨by kernel_rfl, of_decide_eq_true (by kernel_rfl)⟩ (tys_cons ⟨by kernel_rfl, of_decide_eq_true (by kernel_rfl)⟩ (tys_cons ⟨by kernel_rfl, of_decide_eq_true (by kernel_rfl)⟩ (tys_nil)))) hb⟩

theorem reads (os : Os) {H : Type} (enc : TypeId × Value → H) : ∃ places, DataW.whole enc Tryd.prog ((laidWorldC #[.slice none 0 0, .int .u32 0, .int .u32 0] os).forCall (fun _ _ => 0) ⟨#[], #[.slice none 0 0, .int .u32 0, .int .u32 0], []⟩).memory Tryd.f3.params.toList Rows.packSumsSpec.vars false (#[.slice none 0 0, .int .u32 0, .int .u32 0] : Array Value).toList 8 = some ([.nil, .lit (.int .u32 0), .lit (.int .u32 0)], [], places) :=
  ⟨[], by kernel_rfl⟩
set_option maxRecDepth 100000 in
theorem lifted (os : Os) (started : os.Started) (H : Type) (enc : TypeId × Value → H) (F : Stop.Interp) :
    ReturnsInHanded {} Tryd.checked os 3 .any ((OpenSpec.ofChange Rows.packSumsSpec).preRow enc Tryd.prog Tryd.f3 Rows.packSumsRow.domain false Rows.packSumsRow.laid) (((OpenSpec.ofChange Rows.packSumsSpec).at F).post enc Tryd.prog Tryd.f3 false true false false) := by
  obtain ⟨places, hx⟩ := reads os enc
  refine returnsInHanded_of_row (C := Tryd.checked) (s := (OpenSpec.ofChange Rows.packSumsSpec)) own_knob started (by kernel_rfl) Tryd.func3
    (witness_row_at (enc := enc) (C := Tryd.checked) false (laidWorldC #[.slice none 0 0, .int .u32 0, .int .u32 0] os) #[.slice none 0 0, .int .u32 0, .int .u32 0] rfl (by kernel_rfl) (by kernel_rfl) (by kernel_rfl)
      (OpenSpec.preRow_of_cond 8 hx (by kernel_rfl) (fun k hk => by cases hk) (by kernel_rfl) (laidWorldC_met1 os _))) ?_
  intro W base args ds gs before hval hW _ hcond hsz hL hSh _
  exact contract H enc W base args ds gs before hval hW hsz hL hSh
theorem said : Rows.PackSumsSaid :=
  OpenClaim.holds_of_cond 3 Tryd.f3 rfl rfl rfl rfl rfl rfl rfl ⟨rfl, rfl, rfl, rfl, rfl⟩ rfl rfl rfl rfl rfl (by kernel_rfl) Tryd.func3 (by kernel_rfl)
    (of_decide_eq_true (by kernel_rfl)) (by unfold Func.isWrapper; first | (rw [if_pos (by decide +kernel)]; kernel_rfl) | (rw [if_neg (by decide +kernel)]; exact ⟨rfl, rfl⟩))
    (fun os started H enc _ F => by rw [OpenClaim.pre_eq_preRow]; exact lifted os started H enc F)
theorem noStandIn : ∀ t ∈ [22, 23, 23], Tryd.prog.wantsStandIn t = false := by
  intro t ht
  simp only [List.mem_cons, List.not_mem_nil, or_false] at ht
  rcases ht with rfl | rfl | rfl
  · exact (show Tryd.prog.wantsStandIn 22 = false by kernel_rfl)
  · exact (show Tryd.prog.wantsStandIn 23 = false by kernel_rfl)
  · exact (show Tryd.prog.wantsStandIn 23 = false by kernel_rfl)
theorem plainly (f : FuncId) (fn : Func) (hf : Tryd.pinned.checked.prog.funcNamed "linguister/linguisterlaw4.PackSums" = some f) (hfn : Tryd.pinned.checked.prog.funcs[f]? = some fn) :
    false = Tryd.pinned.checked.prog.looks [] ∧ ∀ (j : Nat) t, fn.params[j]? = some t → Tryd.pinned.checked.prog.wantsStandIn t = false := by
  obtain rfl : f = 3 := Option.some.inj ((show Tryd.prog.funcNamed "linguister/linguisterlaw4.PackSums" = some 3 by kernel_rfl).symm.trans hf) |>.symm
  obtain rfl : fn = Tryd.f3 := (Option.some.inj (Tryd.func3.symm.trans hfn)).symm
  refine ⟨by kernel_rfl, fun j t ht => ?_⟩
  rw [Tryd.params3] at ht
  exact noStandIn t (by have := Array.mem_of_getElem? ht; simpa using this)
theorem card : Rows.PackSumsCardSaid :=
  Claim7.holds_tied_plain_at .later [] _ _ _ _ said (fun _ h => by cases h) (by kernel_rfl) (fun _ h => by cases h) packSums_row_tie rfl ⟨rfl, rfl⟩ (by kernel_rfl) rfl plainly (by kernel_rfl)
end Go.Proofs.YtmpjfomfibkbnaaDoor.packSums
