/- PROVED: what is new between two bundles, and what comes of it, are as the document's answer tells: for every input of bulk at most 1048576. Conditions: the variables of unicode/utf8 and errors.errorType are tied to the program's text by the card. -/
import Derived.Test.YtiaobgapfoogiaaGreatDoorDiffTells
import Derived.Test.YtiaobgapfoogiaaGreatDoorOpenB
import Derived.Test.YtiaobgapfoogiaaGreatDoorLaidE
import Derived.Test.YtiaobgapfoogiaaGreatDoorCards
import Derived.Test.YtiaobgapfoogiaaGreatDoorTie
set_option linter.unusedSimpArgs false
set_option linter.unusedVariables false
namespace Go.Proofs.YtiaobgapfoogiaaGreatDoor.diffTellsUpto
open Go.RowKit Go.ChangeShapes Go.WideShapes Go.ChangeAt

set_option maxRecDepth 100000 in
set_option maxHeartbeats 1000000 in
theorem contract (H : Type) (enc : TypeId × Value → H) (W : World) (base : Nat) (args : Array Value) (ds gs : List (DataW H)) (before : List MemPlace)
    (hval : ∀ (j : Nat) t v, Tryz.f5.params[j]? = some t → args[j]? = some v → Value.okWide Tryz.prog W .any base t v)
    (hW : DataW.Whole enc Tryz.prog Tryz.f5.params.toList Rows.diffTellsSpec.vars false W args.toList ds gs before)
    (hk : Rows.uptoSmall H (ds ++ gs) = true)
    (hsz : (DataW.weightsEach Tryz.prog (Tryz.f5.params.toList ++ Rows.diffTellsSpec.plain.varTypes Tryz.prog) (ds ++ gs)).all (· ≤ reachBytes) = true)
    (hL : laidMetH Tryz.prog Rows.diffTellsUptoRow.laid W)
    (hSh : W.ShapedOpen Tryz.prog)
    : Calls Tryz.prog 5 args W fun e W' => ∃ v, e = .returned v ∧ Rows.diffTellsSpec.post enc Tryz.prog Tryz.f5 false true false false W args v W' := by
  have hW' := hW
  have hlt : ∀ x ∈ before, x.block < W.heap.size := fun x hx => hW.lt x hx
  obtain ⟨p, q, hA0, hV, rfl, _, _⟩ := hW
  have hA : DataW.TrodAll enc Tryz.prog W 0 (fun _ => true) true Tryz.f5.params.toList args.toList ds p := hA0
  clear hA0
  obtain ⟨rfl, rfl⟩ := trodVars_none hV
  rw [Tryz.params5] at hA hval hsz
  obtain ⟨v0, vs0, d0, ds0, p0, q0, hargs, rfl, rfl, h0, r0⟩ := trodAll_cons hA
  obtain ⟨v1, vs1, d1, ds1, p1, q1, rfl, rfl, rfl, h1, r1⟩ := trodAll_cons r0
  obtain ⟨v2, vs2, d2, ds2, p2, q2, rfl, rfl, rfl, h2, r2⟩ := trodAll_cons r1
  obtain ⟨rfl, rfl, rfl⟩ := trodAll_nil r2
  obtain rfl : args = #[v0, v1, v2] := by cases args; simp_all
  have hB : Rows.uptoBulkAll ([d0, d1, d2] : List (DataW H)) ≤ 1048576 := by have := of_decide_eq_true hk; simpa only [List.append_nil] using this
  simp only [Rows.uptoBulkAll] at hB
  have hw : ∀ n ∈ DataW.weightsEach Tryz.prog ([24, 24, 26] ++ Rows.diffTellsSpec.plain.varTypes Tryz.prog) ([d0, d1, d2] ++ []), n ≤ reachBytes := fun n hn => by simpa using List.all_eq_true.1 hsz n hn
  obtain ⟨t0, cs0, rfl, ok0, fits0, blk0⟩ := arg_struct (E := Enc.bun) opens_bun Tryz.underlying24 (hval 0 24 v0 rfl rfl) h0 (hi := W.heap.size) (fun x hx => hlt x (by simp [hx]))
  obtain ⟨V0, ecs0, hl0⟩ := ok0
  obtain rfl : cs0 = #[.string t0.tag, V0] := Array.toList_inj.1 ecs0
  have g0 := fits0 reachBytes fun n hn => hw n (DataW.weights_mem_each (j := 0) rfl rfl n hn)
  obtain ⟨t1, cs1, rfl, ok1, fits1, blk1⟩ := arg_struct (E := Enc.bun) opens_bun Tryz.underlying24 (hval 1 24 v1 rfl rfl) h1 (hi := W.heap.size) (fun x hx => hlt x (by simp [hx]))
  obtain ⟨V1, ecs1, hl1⟩ := ok1
  obtain rfl : cs1 = #[.string t1.tag, V1] := Array.toList_inj.1 ecs1
  have g1 := fits1 reachBytes fun n hn => hw n (DataW.weights_mem_each (j := 1) rfl rfl n hn)
  obtain ⟨l2, hl2, fits2, blk2⟩ := arg_list (opens_list (E := Enc.str) (opens_str Tryz.underlying9) Tryz.underlying26 (by kernel_rfl) (by kernel_rfl) (by decide)) Tryz.underlying26 (hval 2 26 v2 rfl rfl) h2 (hi := W.heap.size) (fun x hx => hlt x (by simp [hx]))
  have g2 := fits2 reachBytes fun n hn => hw n (DataW.weights_mem_each (j := 2) rfl rfl n hn)
  have walk : Calls Tryz.prog 5 #[.agg #[.string t0.tag, V0], .agg #[.string t1.tag, V1], v2] W fun e W' => e = .returned (.bool true) ∧ Below W.heap.size W W' := by
    have in0 : BunIn W t0 V0 := by
      obtain ⟨f1, f2, f3⟩ := g0
      have e : Enc.ent.bytes = 32 := rfl
      rw [e] at f2
      have f5 : Enc.bun.bulk t0 = t0.tag.size + Enc.ent.list.bulk t0.ents := rfl
      exact ⟨⟨_, hl0⟩, by omega, by have h : t0.ents.length * 32 ≤ 140737488355328 := Nat.le_trans f2 (by decide); omega, fun x hx => ⟨Nat.le_trans (f3 x hx).1 (by decide), Nat.le_trans (f3 x hx).2 (by decide)⟩⟩
    have in1 : BunIn W t1 V1 := by
      obtain ⟨f1, f2, f3⟩ := g1
      have e : Enc.ent.bytes = 32 := rfl
      rw [e] at f2
      have f5 : Enc.bun.bulk t1 = t1.tag.size + Enc.ent.list.bulk t1.ents := rfl
      exact ⟨⟨_, hl1⟩, by omega, by have h : t1.ents.length * 32 ≤ 140737488355328 := Nat.le_trans f2 (by decide); omega, fun x hx => ⟨Nat.le_trans (f3 x hx).1 (by decide), Nat.le_trans (f3 x hx).2 (by decide)⟩⟩
    have b2 : l2.length * 16 ≤ 140737488355328 := by have h := g2.1; have e : Enc.str.bytes = 16 := rfl; rw [e] at h; exact Nat.le_trans h (by decide)
    have z2 : ∀ x ∈ l2, x.size ≤ maxLen := fun x hx => Nat.le_trans (g2.2 x hx) (by decide)
    exact diffTells_any t0 t1 l2 V0 V1 v2 _ W in0 in1 hl2 (by omega) z2 (maxVar_of_shaped hSh) (errVar_of_laid2 hL)
  exact walk.mono fun e W' ⟨he, hb⟩ => ⟨_, he, law_post hW' rfl (by kernel_rfl) Tryz.underlying4 rfl laid_out (by rw [Tryz.params5]; exact tys_cons ⟨by kernel_rfl, of_decide_eq_true (by kernel_rfl)⟩ (tys_cons ⟨by kernel_rfl, of_decide_eq_true (by kernel_rfl)⟩ (tys_cons ⟨by kernel_rfl, of_decide_eq_true (by kernel_rfl)⟩ (tys_nil)))) hb⟩

theorem reads (os : Os) {H : Type} (enc : TypeId × Value → H) : ∃ places, DataW.whole enc Tryz.prog ((laidWorld #[.agg #[.string ByteArray.empty, .slice none 0 0], .agg #[.string ByteArray.empty, .slice none 0 0], .slice none 0 0] os).forCall (fun _ _ => 0) ⟨#[], #[.agg #[.string ByteArray.empty, .slice none 0 0], .agg #[.string ByteArray.empty, .slice none 0 0], .slice none 0 0], []⟩).memory Tryz.f5.params.toList Rows.diffTellsSpec.vars false (#[.agg #[.string ByteArray.empty, .slice none 0 0], .agg #[.string ByteArray.empty, .slice none 0 0], .slice none 0 0] : Array Value).toList 8 = some ([.agg [.lit (.string []), .nil], .agg [.lit (.string []), .nil], .nil], [], places) :=
  ⟨[], by kernel_rfl⟩
set_option maxRecDepth 100000 in
theorem lifted (os : Os) (started : os.Started) (H : Type) (enc : TypeId × Value → H) (F : Stop.Interp) :
    ReturnsInHanded {} Tryz.checked os 5 .any ((Rows.OpenSpec.upto Rows.diffTellsSpec).preRow enc Tryz.prog Tryz.f5 Rows.diffTellsUptoRow.domain false Rows.diffTellsUptoRow.laid) (((Rows.OpenSpec.upto Rows.diffTellsSpec).at F).post enc Tryz.prog Tryz.f5 false true false false) := by
  obtain ⟨places, hx⟩ := reads os enc
  refine returnsInHanded_of_row (C := Tryz.checked) (s := (Rows.OpenSpec.upto Rows.diffTellsSpec)) own_knob started (by kernel_rfl) Tryz.func5
    (witness_row_at (enc := enc) (C := Tryz.checked) false (laidWorld #[.agg #[.string ByteArray.empty, .slice none 0 0], .agg #[.string ByteArray.empty, .slice none 0 0], .slice none 0 0] os) #[.agg #[.string ByteArray.empty, .slice none 0 0], .agg #[.string ByteArray.empty, .slice none 0 0], .slice none 0 0] rfl (by kernel_rfl) (by kernel_rfl) (by kernel_rfl)
      (OpenSpec.preRow_of_cond 8 hx (by kernel_rfl) (fun k hk => by cases hk; kernel_rfl) (by kernel_rfl) (laidWorld_met2 os _))) ?_
  intro W base args ds gs before hval hW _ hcond hsz hL hSh _
  exact contract H enc W base args ds gs before hval hW (hcond _ rfl) hsz hL hSh
theorem said : Rows.DiffTellsUptoSaid :=
  OpenClaim.holds_of_cond 5 Tryz.f5 rfl rfl rfl rfl rfl rfl rfl ⟨rfl, rfl, rfl, rfl, rfl⟩ rfl rfl rfl rfl rfl (by kernel_rfl) Tryz.func5 (by kernel_rfl)
    (of_decide_eq_true (by kernel_rfl)) (by unfold Func.isWrapper; first | (rw [if_pos (by decide +kernel)]; kernel_rfl) | (rw [if_neg (by decide +kernel)]; exact ⟨rfl, rfl⟩))
    (fun os started H enc _ F => by rw [OpenClaim.pre_eq_preRow]; exact lifted os started H enc F)
theorem noStandIn : ∀ t ∈ [24, 24, 26], Tryz.prog.wantsStandIn t = false := by
  intro t ht
  simp only [List.mem_cons, List.not_mem_nil, or_false] at ht
  rcases ht with rfl | rfl | rfl
  · exact (show Tryz.prog.wantsStandIn 24 = false by kernel_rfl)
  · exact (show Tryz.prog.wantsStandIn 24 = false by kernel_rfl)
  · exact (show Tryz.prog.wantsStandIn 26 = false by kernel_rfl)
theorem plainly (f : FuncId) (fn : Func) (hf : Tryz.pinned.checked.prog.funcNamed "linguister/linguisterlaw4.DiffTells" = some f) (hfn : Tryz.pinned.checked.prog.funcs[f]? = some fn) :
    true = Tryz.pinned.checked.prog.looks [] ∧ ∀ (j : Nat) t, fn.params[j]? = some t → Tryz.pinned.checked.prog.wantsStandIn t = false := by
  obtain rfl : f = 5 := Option.some.inj ((show Tryz.prog.funcNamed "linguister/linguisterlaw4.DiffTells" = some 5 by kernel_rfl).symm.trans hf) |>.symm
  obtain rfl : fn = Tryz.f5 := (Option.some.inj (Tryz.func5.symm.trans hfn)).symm
  refine ⟨by kernel_rfl, fun j t ht => ?_⟩
  rw [Tryz.params5] at ht
  exact noStandIn t (by have := Array.mem_of_getElem? ht; simpa using this)
theorem card : Rows.DiffTellsUptoCardSaid :=
  Claim7.holds_tied_plain_at .later [] _ _ _ _ said (fun _ h => by cases h) (by kernel_rfl) (fun _ h => by cases h) diffTellsUpto_row_tie rfl ⟨rfl, rfl⟩ (by kernel_rfl) rfl plainly (by kernel_rfl)
end Go.Proofs.YtiaobgapfoogiaaGreatDoor.diffTellsUpto
