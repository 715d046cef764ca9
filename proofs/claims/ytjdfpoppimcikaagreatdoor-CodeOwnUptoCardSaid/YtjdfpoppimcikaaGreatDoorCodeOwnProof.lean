/- PROVED: a message that was made into a row may be written into behind: what the row says is what it said, and what the message that is read again says: for every input of bulk at most 1048576. Conditions: the variables that are listed (of math/bits, internal/strconv, unicode/utf8, errors, strconv, linguister/msg, linguister/plural, linguister/eval) are tied to the program's text by the card. -/
import Derived.Test.YtjdfpoppimcikaaGreatDoorCodeOwn
import Derived.Test.YtjdfpoppimcikaaGreatDoorSayB
import Derived.Test.YtjdfpoppimcikaaGreatDoorOpen
import Derived.Test.YtjdfpoppimcikaaGreatDoorLaidV
import Derived.Test.YtjdfpoppimcikaaGreatDoorCards
import Derived.Test.YtjdfpoppimcikaaGreatDoorTie
namespace Go.Proofs.YtjdfpoppimcikaaGreatDoor.codeOwnUpto
open Go.RowKit Go.ChangeShapes Go.WideShapes Go.ChangeAt

set_option maxRecDepth 100000 in
set_option maxHeartbeats 1000000 in
theorem contract (H : Type) (enc : TypeId × Value → H) (W : World) (base : Nat) (args : Array Value) (ds gs : List (DataW H)) (before : List MemPlace)
    (hval : ∀ (j : Nat) t v, Tryz.f5.params[j]? = some t → args[j]? = some v → Value.okWide Tryz.prog W .any base t v)
    (hW : DataW.Whole enc Tryz.prog Tryz.f5.params.toList Rows.codeOwnSpec.vars false W args.toList ds gs before)
    (hk : Rows.uptoSmall H (ds ++ gs) = true)
    (hsz : (DataW.weightsEach Tryz.prog (Tryz.f5.params.toList ++ Rows.codeOwnSpec.plain.varTypes Tryz.prog) (ds ++ gs)).all (· ≤ reachBytes) = true)
    (hL : laidMetH Tryz.prog Rows.codeOwnUptoRow.laid W)
    (hSh : W.ShapedOpen Tryz.prog)
    : Calls Tryz.prog 5 args W fun e W' => ∃ v, e = .returned v ∧ Rows.codeOwnSpec.post enc Tryz.prog Tryz.f5 false true false false W args v W' := by
  have hW' := hW
  have hlt : ∀ x ∈ before, x.block < W.heap.size := fun x hx => hW.lt x hx
  obtain ⟨p, q, hA0, hV, rfl, _, _⟩ := hW
  have hA : DataW.TrodAll enc Tryz.prog W 0 (fun _ => true) true Tryz.f5.params.toList args.toList ds p := hA0
  clear hA0
  obtain ⟨rfl, rfl⟩ := trodVars_none hV
  rw [Tryz.params5] at hA hval hsz
  obtain ⟨v0, vs0, d0, ds0, p0, q0, hargs, rfl, rfl, h0, r0⟩ := trodAll_cons hA
  obtain ⟨v1, vs1, d1, ds1, p1, q1, rfl, rfl, rfl, h1, r1⟩ := trodAll_cons r0
  obtain ⟨v2, vs2, d2, ds2, p2, q2, rfl, rfl, rfl, h2, r2⟩ := trodAll_cons r1
  obtain ⟨v3, vs3, d3, ds3, p3, q3, rfl, rfl, rfl, h3, r3⟩ := trodAll_cons r2
  obtain ⟨rfl, rfl, rfl⟩ := trodAll_nil r3
  obtain rfl : args = #[v0, v1, v2, v3] := by cases args; simp_all
  have hB : Rows.uptoBulkAll ([d0, d1, d2, d3] : List (DataW H)) ≤ 1048576 := by have := of_decide_eq_true hk; simpa only [List.append_nil] using this
  simp only [Rows.uptoBulkAll] at hB
  have hw : ∀ n ∈ DataW.weightsEach Tryz.prog ([9, 9, 23, 9] ++ Rows.codeOwnSpec.plain.varTypes Tryz.prog) ([d0, d1, d2, d3] ++ []), n ≤ reachBytes := fun n hn => by simpa using List.all_eq_true.1 hsz n hn
  obtain ⟨s0, rfl, fits0, blk0⟩ := arg_str Tryz.underlying9 (hval 0 9 v0 rfl rfl) h0
  have g0 := fits0 reachBytes fun n hn => hw n (DataW.weights_mem_each (j := 0) rfl rfl n hn)
  obtain ⟨s1, rfl, fits1, blk1⟩ := arg_str Tryz.underlying9 (hval 1 9 v1 rfl rfl) h1
  have g1 := fits1 reachBytes fun n hn => hw n (DataW.weights_mem_each (j := 1) rfl rfl n hn)
  obtain ⟨l2, hl2, fits2, blk2⟩ := arg_list (opens_list (E := Enc.argV) opens_argV Tryz.underlying23 (by kernel_rfl) (by kernel_rfl) (by decide)) Tryz.underlying23 (hval 2 23 v2 rfl rfl) h2 (hi := W.heap.size) (fun x hx => hlt x (by simp [hx]))
  have g2 := fits2 reachBytes fun n hn => hw n (DataW.weights_mem_each (j := 2) rfl rfl n hn)
  obtain ⟨s3, rfl, fits3, blk3⟩ := arg_str Tryz.underlying9 (hval 3 9 v3 rfl rfl) h3
  have g3 := fits3 reachBytes fun n hn => hw n (DataW.weights_mem_each (j := 3) rfl rfl n hn)
  have walk : Calls Tryz.prog 5 #[.string s0, .string s1, v2, .string s3] W fun e W' => e = .returned (.bool true) ∧ Below W.heap.size W W' := by
    have hi : ∀ m : List (Nd 7), (m.map (Enc.node 7).bulk).sum ≤ 1048576 → SayIn 7 m l2 := by
      intro m ki
      have kj : (l2.map Enc.argV.bulk).sum ≤ 1048576 := by have h : (l2.map Enc.argV.bulk).sum + 1 ≤ _ := blk2; omega
      refine ⟨ki, ?_, fun a ha => ?_, fun a ha => ?_⟩
      · have h := len_sum Enc.argV.bulk l2 fun a _ => by
          have f5 : Enc.argV.bulk a = a.name.size + a.text.size + 5 := rfl
          omega
        have h5 := mem_sum5 l2
        omega
      · have h := bulk_mem Enc.argV.bulk ha
        have f5 : Enc.argV.bulk a = a.name.size + a.text.size + 5 := rfl
        omega
      · have h := bulk_mem Enc.argV.bulk ha
        have f5 : Enc.argV.bulk a = a.name.size + a.text.size + 5 := rfl
        omega
    exact codeOwn_any s0 s1 l2 v2 s3 W hi (Nat.le_trans g1 (by decide)) hl2 (ev_of_laidN hL hSh) (errVar_of_laidN hL)
  exact walk.mono fun e W' ⟨he, hb⟩ => ⟨_, he, law_post hW' rfl (by kernel_rfl) Tryz.underlying4 rfl laid_out (by rw [Tryz.params5]; exact tys_cons ⟨by kernel_rfl, of_decide_eq_true (by kernel_rfl)⟩ (tys_cons ⟨by kernel_rfl, of_decide_eq_true (by kernel_rfl)⟩ (tys_cons ⟨by kernel_rfl, of_decide_eq_true (by kernel_rfl)⟩ (tys_cons ⟨by kernel_rfl, of_decide_eq_true (by kernel_rfl)⟩ (tys_nil))))) hb⟩

theorem reads (os : Os) {H : Type} (enc : TypeId × Value → H) : ∃ places, DataW.whole enc Tryz.prog ((laidWorld #[.string ByteArray.empty, .string ByteArray.empty, .slice none 0 0, .string ByteArray.empty] os).forCall (fun _ _ => 0) ⟨#[], #[.string ByteArray.empty, .string ByteArray.empty, .slice none 0 0, .string ByteArray.empty], []⟩).memory Tryz.f5.params.toList Rows.codeOwnSpec.vars false (#[.string ByteArray.empty, .string ByteArray.empty, .slice none 0 0, .string ByteArray.empty] : Array Value).toList 8 = some ([.lit (.string []), .lit (.string []), .nil, .lit (.string [])], [], places) :=
  ⟨[], by kernel_rfl⟩
set_option maxRecDepth 100000 in
theorem lifted (os : Os) (started : os.Started) (H : Type) (enc : TypeId × Value → H) (F : Stop.Interp) :
    ReturnsInHanded {} Tryz.checked os 5 .any ((Rows.OpenSpec.upto Rows.codeOwnSpec).preRow enc Tryz.prog Tryz.f5 Rows.codeOwnUptoRow.domain false Rows.codeOwnUptoRow.laid) (((Rows.OpenSpec.upto Rows.codeOwnSpec).at F).post enc Tryz.prog Tryz.f5 false true false false) := by
  obtain ⟨places, hx⟩ := reads os enc
  refine returnsInHanded_of_row (C := Tryz.checked) (s := (Rows.OpenSpec.upto Rows.codeOwnSpec)) own_knob started (by kernel_rfl) Tryz.func5
    (witness_row_zip (enc := enc) (C := Tryz.checked) false (laidWorld #[.string ByteArray.empty, .string ByteArray.empty, .slice none 0 0, .string ByteArray.empty] os) #[.string ByteArray.empty, .string ByteArray.empty, .slice none 0 0, .string ByteArray.empty] rfl (by kernel_rfl) (by kernel_rfl) (by kernel_rfl)
      (OpenSpec.preRow_of_cond 8 hx (by kernel_rfl) (fun k hk => by cases hk; kernel_rfl) (by kernel_rfl) (laidWorld_met os _))) ?_
  intro W base args ds gs before hval hW _ hcond hsz hL hSh _
  exact contract H enc W base args ds gs before hval hW (hcond _ rfl) hsz hL hSh
theorem said : Rows.CodeOwnUptoSaid :=
  OpenClaim.holds_of_cond 5 Tryz.f5 rfl rfl rfl rfl rfl rfl rfl ⟨rfl, rfl, rfl, rfl, rfl⟩ rfl rfl rfl rfl rfl (by kernel_rfl) Tryz.func5 (by kernel_rfl)
    (of_decide_eq_true (by kernel_rfl)) (by unfold Func.isWrapper; first | (rw [if_pos (by decide +kernel)]; kernel_rfl) | (rw [if_neg (by decide +kernel)]; exact ⟨rfl, rfl⟩))
    (fun os started H enc _ F => by rw [OpenClaim.pre_eq_preRow]; exact lifted os started H enc F)
theorem noStandIn : ∀ t ∈ [9, 9, 23, 9], Tryz.prog.wantsStandIn t = false := by
  intro t ht
  simp only [List.mem_cons, List.not_mem_nil, or_false] at ht
  rcases ht with rfl | rfl | rfl | rfl
  · exact (show Tryz.prog.wantsStandIn 9 = false by kernel_rfl)
  · exact (show Tryz.prog.wantsStandIn 9 = false by kernel_rfl)
  · exact (show Tryz.prog.wantsStandIn 23 = false by kernel_rfl)
  · exact (show Tryz.prog.wantsStandIn 9 = false by kernel_rfl)
theorem plainly (f : FuncId) (fn : Func) (hf : Tryz.pinned.checked.prog.funcNamed "linguister/linguisterlaw5.CodeOwn" = some f) (hfn : Tryz.pinned.checked.prog.funcs[f]? = some fn) :
    true = Tryz.pinned.checked.prog.looks [] ∧ ∀ (j : Nat) t, fn.params[j]? = some t → Tryz.pinned.checked.prog.wantsStandIn t = false := by
  obtain rfl : f = 5 := Option.some.inj ((show Tryz.prog.funcNamed "linguister/linguisterlaw5.CodeOwn" = some 5 by kernel_rfl).symm.trans hf) |>.symm
  obtain rfl : fn = Tryz.f5 := (Option.some.inj (Tryz.func5.symm.trans hfn)).symm
  refine ⟨by kernel_rfl, fun j t ht => ?_⟩
  rw [Tryz.params5] at ht
  exact noStandIn t (by have := Array.mem_of_getElem? ht; simpa using this)
theorem card : Rows.CodeOwnUptoCardSaid :=
  Claim7.holds_tied_plain_at .later [] _ _ _ _ said (fun _ h => by cases h) (by kernel_rfl) (fun _ h => by cases h) codeOwnUpto_row_tie rfl ⟨rfl, rfl⟩ (by kernel_rfl) rfl plainly (by kernel_rfl)
end Go.Proofs.YtjdfpoppimcikaaGreatDoor.codeOwnUpto
