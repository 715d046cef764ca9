/- PROVED: a store answers every load, hold and freeing as the document's answer tells, has the texts of those that are there, and tells their numbers: for every input of bulk at most 1048576. Conditions: the variables of unicode/utf8 and errors.errorType are tied to the program's text by the card. -/
import Derived.Test.YtboilcfeegigcaaGreatDoorStoreTells
import Derived.Test.YtboilcfeegigcaaGreatDoorOpenB
import Derived.Test.YtboilcfeegigcaaGreatDoorLaidE
import Derived.Test.YtboilcfeegigcaaGreatDoorCards
import Derived.Test.YtboilcfeegigcaaGreatDoorTie
namespace Go.Proofs.YtboilcfeegigcaaGreatDoor.storeTellsUpto
open Go.RowKit Go.ChangeShapes Go.WideShapes Go.ChangeAt

set_option maxRecDepth 100000 in
set_option maxHeartbeats 1000000 in
theorem contract (H : Type) (enc : TypeId × Value → H) (W : World) (base : Nat) (args : Array Value) (ds gs : List (DataW H)) (before : List MemPlace)
    (hval : ∀ (j : Nat) t v, Tryz.f4.params[j]? = some t → args[j]? = some v → Value.okWide Tryz.prog W .any base t v)
    (hW : DataW.Whole enc Tryz.prog Tryz.f4.params.toList Rows.storeTellsSpec.vars false W args.toList ds gs before)
    (hk : Rows.uptoSmall H (ds ++ gs) = true)
    (hsz : (DataW.weightsEach Tryz.prog (Tryz.f4.params.toList ++ Rows.storeTellsSpec.plain.varTypes Tryz.prog) (ds ++ gs)).all (· ≤ reachBytes) = true)
    (hL : laidMetH Tryz.prog Rows.storeTellsUptoRow.laid W)
    (hSh : W.ShapedOpen Tryz.prog)
    : Calls Tryz.prog 4 args W fun e W' => ∃ v, e = .returned v ∧ Rows.storeTellsSpec.post enc Tryz.prog Tryz.f4 false true false false W args v W' := by
  have hW' := hW
  have hlt : ∀ x ∈ before, x.block < W.heap.size := fun x hx => hW.lt x hx
  obtain ⟨p, q, hA0, hV, rfl, _, _⟩ := hW
  have hA : DataW.TrodAll enc Tryz.prog W 0 (fun _ => true) true Tryz.f4.params.toList args.toList ds p := hA0
  clear hA0
  obtain ⟨rfl, rfl⟩ := trodVars_none hV
  rw [Tryz.params4] at hA hval hsz
  obtain ⟨v0, vs0, d0, ds0, p0, q0, hargs, rfl, rfl, h0, r0⟩ := trodAll_cons hA
  obtain ⟨v1, vs1, d1, ds1, p1, q1, rfl, rfl, rfl, h1, r1⟩ := trodAll_cons r0
  obtain ⟨v2, vs2, d2, ds2, p2, q2, rfl, rfl, rfl, h2, r2⟩ := trodAll_cons r1
  obtain ⟨v3, vs3, d3, ds3, p3, q3, rfl, rfl, rfl, h3, r3⟩ := trodAll_cons r2
  obtain ⟨v4, vs4, d4, ds4, p4, q4, rfl, rfl, rfl, h4, r4⟩ := trodAll_cons r3
  obtain ⟨rfl, rfl, rfl⟩ := trodAll_nil r4
  obtain rfl : args = #[v0, v1, v2, v3, v4] := by cases args; simp_all
  have hB : Rows.uptoBulkAll ([d0, d1, d2, d3, d4] : List (DataW H)) ≤ 1048576 := by have := of_decide_eq_true hk; simpa only [List.append_nil] using this
  simp only [Rows.uptoBulkAll] at hB
  have hw : ∀ n ∈ DataW.weightsEach Tryz.prog ([34, 41, 34, 9, 9] ++ Rows.storeTellsSpec.plain.varTypes Tryz.prog) ([d0, d1, d2, d3, d4] ++ []), n ≤ reachBytes := fun n hn => by simpa using List.all_eq_true.1 hsz n hn
  obtain ⟨l0, hl0, fits0, blk0⟩ := arg_list (opens_list (E := Enc.int) (opens_int Tryz.underlying3) Tryz.underlying34 (by kernel_rfl) (by kernel_rfl) (by decide)) Tryz.underlying34 (hval 0 34 v0 rfl rfl) h0 (hi := W.heap.size) (fun x hx => hlt x (by simp [hx]))
  have g0 := fits0 reachBytes fun n hn => hw n (DataW.weights_mem_each (j := 0) rfl rfl n hn)
  obtain ⟨l1, hl1, fits1, blk1⟩ := arg_list (opens_list (E := Enc.bun.list) (opens_list (E := Enc.bun) opens_bun Tryz.underlying22 (by kernel_rfl) (by kernel_rfl) (by decide)) Tryz.underlying41 (by kernel_rfl) (by kernel_rfl) (by decide)) Tryz.underlying41 (hval 1 41 v1 rfl rfl) h1 (hi := W.heap.size) (fun x hx => hlt x (by simp [hx]))
  have g1 := fits1 reachBytes fun n hn => hw n (DataW.weights_mem_each (j := 1) rfl rfl n hn)
  obtain ⟨l2, hl2, fits2, blk2⟩ := arg_list (opens_list (E := Enc.int) (opens_int Tryz.underlying3) Tryz.underlying34 (by kernel_rfl) (by kernel_rfl) (by decide)) Tryz.underlying34 (hval 2 34 v2 rfl rfl) h2 (hi := W.heap.size) (fun x hx => hlt x (by simp [hx]))
  have g2 := fits2 reachBytes fun n hn => hw n (DataW.weights_mem_each (j := 2) rfl rfl n hn)
  obtain ⟨s3, rfl, fits3, blk3⟩ := arg_str Tryz.underlying9 (hval 3 9 v3 rfl rfl) h3
  have g3 := fits3 reachBytes fun n hn => hw n (DataW.weights_mem_each (j := 3) rfl rfl n hn)
  obtain ⟨s4, rfl, fits4, blk4⟩ := arg_str Tryz.underlying9 (hval 4 9 v4 rfl rfl) h4
  have g4 := fits4 reachBytes fun n hn => hw n (DataW.weights_mem_each (j := 4) rfl rfl n hn)
  have walk : Calls Tryz.prog 4 #[v0, v1, v2, .string s3, .string s4] W fun e W' => e = .returned (.bool true) ∧ Below W.heap.size W W' := by
    have b0 : l0.length ≤ 1048576 := Nat.le_trans (len_sum Enc.int.bulk l0 fun b _ => Nat.le_refl 1) (by have h : (l0.map Enc.int.bulk).sum + 1 ≤ _ := blk0; omega)
    have z0 : ∀ x ∈ l0, -9223372036854775808 ≤ x ∧ x ≤ 9223372036854775807 := fun x hx => by
      have w0 : (Lit.int .i64 x).wf = true := g0.2 x hx
      simpa [Lit.wf, IntKind.min, IntKind.max, IntKind.signed, IntKind.bits] using w0
    have b1 : l1.length * 24 ≤ 140737488355328 := by have h := g1.1; have e : Enc.bun.list.bytes = 24 := rfl; rw [e] at h; exact Nat.le_trans h (by decide)
    have k1 : (l1.map Enc.bun.list.bulk).sum ≤ 1048576 := by have h : (l1.map Enc.bun.list.bulk).sum + 1 ≤ _ := blk1; omega
    have hll : l1.length ≤ 1048576 := Nat.le_trans (len_sum Enc.bun.list.bulk l1 fun b _ => by
      have f : Enc.bun.list.bulk b = (b.map Enc.bun.bulk).sum + 1 := rfl
      omega) k1
    have in1 : LoadsIn W v1 l1 := ⟨⟨_, hl1⟩, b1, fun l hl => by
      obtain ⟨p1, p2⟩ := g1.2 l hl
      have e0 : Enc.bun.bytes = 40 := rfl
      rw [e0] at p1
      have q1 := bulk_mem Enc.bun.list.bulk hl
      have q2 : Enc.bun.list.bulk l = (l.map Enc.bun.bulk).sum + 1 := rfl
      refine ⟨Nat.le_trans p1 (by decide), fun b hb => ?_⟩
      obtain ⟨f1, f2, f3⟩ := p2 b hb
      have e : Enc.ent.bytes = 32 := rfl
      rw [e] at f2
      have f4 := bulk_mem Enc.bun.bulk hb
      have f5 : Enc.bun.bulk b = b.tag.size + Enc.ent.list.bulk b.ents := rfl
      exact ⟨by omega, by have h : b.ents.length * 32 ≤ 140737488355328 := Nat.le_trans f2 (by decide); omega, fun x hx => ⟨Nat.le_trans (f3 x hx).1 (by decide), Nat.le_trans (f3 x hx).2 (by decide)⟩⟩⟩
    have b2 : l2.length ≤ 1048576 := Nat.le_trans (len_sum Enc.int.bulk l2 fun b _ => Nat.le_refl 1) (by have h : (l2.map Enc.int.bulk).sum + 1 ≤ _ := blk2; omega)
    have z2 : ∀ x ∈ l2, -9223372036854775808 ≤ x ∧ x ≤ 9223372036854775807 := fun x hx => by
      have w0 : (Lit.int .i64 x).wf = true := g2.2 x hx
      simpa [Lit.wf, IntKind.min, IntKind.max, IntKind.signed, IntKind.bits] using w0
    exact storeTells_any l0 l2 l1 v0 v1 v2 _ _ s3 s4 W hl0 in1 hl2 z2 (Nat.le_trans g3 (by decide)) (Nat.le_trans g4 (by decide)) (maxVar_of_shaped hSh) (errVar_of_laid2 hL) (by omega) (by omega) (by omega)
  exact walk.mono fun e W' ⟨he, hb⟩ => ⟨_, he, law_post hW' rfl (by kernel_rfl) Tryz.underlying4 rfl laid_out (by rw [Tryz.params4]; exact tys_cons ⟨by kernel_rfl, of_decide_eq_true (by kernel_rfl)⟩ (tys_cons ⟨by kernel_rfl, of_decide_eq_true (by kernel_rfl)⟩ (tys_cons ⟨by kernel_rfl, of_decide_eq_true (by kernel_rfl)⟩ (tys_cons ⟨by kernel_rfl, of_decide_eq_true (by kernel_rfl)⟩ (tys_cons ⟨by kernel_rfl, of_decide_eq_true (by kernel_rfl)⟩ (tys_nil)))))) hb⟩

theorem reads (os : Os) {H : Type} (enc : TypeId × Value → H) : ∃ places, DataW.whole enc Tryz.prog ((laidWorld #[.slice none 0 0, .slice none 0 0, .slice none 0 0, .string ByteArray.empty, .string ByteArray.empty] os).forCall (fun _ _ => 0) ⟨#[], #[.slice none 0 0, .slice none 0 0, .slice none 0 0, .string ByteArray.empty, .string ByteArray.empty], []⟩).memory Tryz.f4.params.toList Rows.storeTellsSpec.vars false (#[.slice none 0 0, .slice none 0 0, .slice none 0 0, .string ByteArray.empty, .string ByteArray.empty] : Array Value).toList 8 = some ([.nil, .nil, .nil, .lit (.string []), .lit (.string [])], [], places) :=
  ⟨[], by kernel_rfl⟩
set_option maxRecDepth 100000 in
theorem lifted (os : Os) (started : os.Started) (H : Type) (enc : TypeId × Value → H) (F : Stop.Interp) :
    ReturnsInHanded {} Tryz.checked os 4 .any ((Rows.OpenSpec.upto Rows.storeTellsSpec).preRow enc Tryz.prog Tryz.f4 Rows.storeTellsUptoRow.domain false Rows.storeTellsUptoRow.laid) (((Rows.OpenSpec.upto Rows.storeTellsSpec).at F).post enc Tryz.prog Tryz.f4 false true false false) := by
  obtain ⟨places, hx⟩ := reads os enc
  refine returnsInHanded_of_row (C := Tryz.checked) (s := (Rows.OpenSpec.upto Rows.storeTellsSpec)) own_knob started (by kernel_rfl) Tryz.func4
    (witness_row_at (enc := enc) (C := Tryz.checked) false (laidWorld #[.slice none 0 0, .slice none 0 0, .slice none 0 0, .string ByteArray.empty, .string ByteArray.empty] os) #[.slice none 0 0, .slice none 0 0, .slice none 0 0, .string ByteArray.empty, .string ByteArray.empty] rfl (by kernel_rfl) (by kernel_rfl) (by kernel_rfl)
      (OpenSpec.preRow_of_cond 8 hx (by kernel_rfl) (fun k hk => by cases hk; kernel_rfl) (by kernel_rfl) (laidWorld_met2 os _))) ?_
  intro W base args ds gs before hval hW _ hcond hsz hL hSh _
  exact contract H enc W base args ds gs before hval hW (hcond _ rfl) hsz hL hSh
theorem said : Rows.StoreTellsUptoSaid :=
  OpenClaim.holds_of_cond 4 Tryz.f4 rfl rfl rfl rfl rfl rfl rfl ⟨rfl, rfl, rfl, rfl, rfl⟩ rfl rfl rfl rfl rfl (by kernel_rfl) Tryz.func4 (by kernel_rfl)
    (of_decide_eq_true (by kernel_rfl)) (by unfold Func.isWrapper; first | (rw [if_pos (by decide +kernel)]; kernel_rfl) | (rw [if_neg (by decide +kernel)]; exact ⟨rfl, rfl⟩))
    (fun os started H enc _ F => by rw [OpenClaim.pre_eq_preRow]; exact lifted os started H enc F)
theorem noStandIn : ∀ t ∈ [34, 41, 34, 9, 9], Tryz.prog.wantsStandIn t = false := by
  intro t ht
  simp only [List.mem_cons, List.not_mem_nil, or_false] at ht
  rcases ht with rfl | rfl | rfl | rfl | rfl
  · exact (show Tryz.prog.wantsStandIn 34 = false by kernel_rfl)
  · exact (show Tryz.prog.wantsStandIn 41 = false by kernel_rfl)
  · exact (show Tryz.prog.wantsStandIn 34 = false by kernel_rfl)
  · exact (show Tryz.prog.wantsStandIn 9 = false by kernel_rfl)
  · exact (show Tryz.prog.wantsStandIn 9 = false by kernel_rfl)
theorem plainly (f : FuncId) (fn : Func) (hf : Tryz.pinned.checked.prog.funcNamed "linguister/linguisterlaw4.StoreTells" = some f) (hfn : Tryz.pinned.checked.prog.funcs[f]? = some fn) :
    true = Tryz.pinned.checked.prog.looks [] ∧ ∀ (j : Nat) t, fn.params[j]? = some t → Tryz.pinned.checked.prog.wantsStandIn t = false := by
  obtain rfl : f = 4 := Option.some.inj ((show Tryz.prog.funcNamed "linguister/linguisterlaw4.StoreTells" = some 4 by kernel_rfl).symm.trans hf) |>.symm
  obtain rfl : fn = Tryz.f4 := (Option.some.inj (Tryz.func4.symm.trans hfn)).symm
  refine ⟨by kernel_rfl, fun j t ht => ?_⟩
  rw [Tryz.params4] at ht
  exact noStandIn t (by have := Array.mem_of_getElem? ht; simpa using this)
theorem card : Rows.StoreTellsUptoCardSaid :=
  Claim7.holds_tied_plain_at .later [] _ _ _ _ said (fun _ h => by cases h) (by kernel_rfl) (fun _ h => by cases h) storeTellsUpto_row_tie rfl ⟨rfl, rfl⟩ (by kernel_rfl) rfl plainly (by kernel_rfl)
end Go.Proofs.YtboilcfeegigcaaGreatDoor.storeTellsUpto
