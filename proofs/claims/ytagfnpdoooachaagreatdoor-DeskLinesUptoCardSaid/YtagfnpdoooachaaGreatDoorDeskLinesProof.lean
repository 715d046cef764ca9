/- PROVED: the answers of a desk to two scripts, one behind the other, are those to each: for every input of bulk at most 1048576. Conditions: the variables that are listed (of math/bits, internal/strconv, unicode/utf8, strconv, linguister/date, linguister/msg, linguister/plural, linguister/eval) are tied to the program's text by the card. -/
import Derived.Test.YtagfnpdoooachaaGreatDoorDeskLinesFacts
import Derived.Test.YtagfnpdoooachaaGreatDoorLaidX
set_option linter.unusedSimpArgs false
set_option linter.unusedVariables false
set_option maxHeartbeats 1000000
set_option maxRecDepth 100000
namespace Go.Proofs.YtagfnpdoooachaaGreatDoor.deskLinesUpto
open Go.RowKit Go.ChangeShapes Go.WideShapes Go.ChangeAt
theorem contract (H:Type) (enc:TypeId×Value→H) (W:World) (base:Nat) (args:Array Value) (ds gs:List (DataW H)) (before:List MemPlace)
 (hval:∀(j:Nat) t v,Tryz.f3.params[j]? =some t→args[j]? =some v→Value.okWide Tryz.prog W .any base t v)
 (hW:DataW.Whole enc Tryz.prog Tryz.f3.params.toList Rows.deskLinesSpec.vars false W args.toList ds gs before)
 (hk:Rows.uptoSmall H (ds++gs)=true)
 (hsz:(DataW.weightsEach Tryz.prog (Tryz.f3.params.toList++Rows.deskLinesSpec.plain.varTypes Tryz.prog) (ds++gs)).all (· ≤reachBytes)=true)
 (hL:laidMetH Tryz.prog Rows.deskLinesUptoRow.laid W)
 (hSh:W.ShapedOpen Tryz.prog)
 : Calls Tryz.prog 3 args W fun e W'=>∃ v,e=.returned v∧Rows.deskLinesSpec.post enc Tryz.prog Tryz.f3 false true false false W args v W':=by
 have hW':=hW;have hlt:∀ x∈before,x.block < W.heap.size:=fun x hx=>hW.lt x hx;obtain⟨p,q,hA0,hV,rfl,_,_⟩:=hW;have hA:DataW.TrodAll enc Tryz.prog W 0 (fun _=>true) true Tryz.f3.params.toList args.toList ds p:=hA0;clear hA0;obtain⟨rfl,rfl⟩:=trodVars_none hV;rw[Tryz.params3]at hA hval hsz;obtain⟨v0,vs0,d0,ds0,p0,q0,hargs,rfl,rfl,h0,r0⟩:=trodAll_cons hA;obtain⟨v1,vs1,d1,ds1,p1,q1,rfl,rfl,rfl,h1,r1⟩:=trodAll_cons r0;obtain⟨rfl,rfl,rfl⟩:=trodAll_nil r1;obtain rfl:args=#[v0,v1]:=by cases args;simp_all
 have hB:Rows.uptoBulkAll ([d0,d1]:List (DataW H))≤1048576:=by have:=of_decide_eq_true hk;simpa only[List.append_nil]using this
 simp only[Rows.uptoBulkAll]at hB;have hw:∀ n∈DataW.weightsEach Tryz.prog ([9,9]++Rows.deskLinesSpec.plain.varTypes Tryz.prog) ([d0,d1]++[]),n≤reachBytes:=fun n hn=>by simpa using List.all_eq_true.1 hsz n hn
 obtain⟨s0,rfl,fits0,blk0⟩:=arg_str Tryz.underlying9 (hval 0 9 v0 rfl rfl) h0;have g0:=fits0 reachBytes fun n hn=>hw n (DataW.weights_mem_each (j:=0) rfl rfl n hn);obtain⟨s1,rfl,fits1,blk1⟩:=arg_str Tryz.underlying9 (hval 1 9 v1 rfl rfl) h1;have g1:=fits1 reachBytes fun n hn=>hw n (DataW.weights_mem_each (j:=1) rfl rfl n hn);have walk:Calls Tryz.prog 3 #[.string s0,.string s1] W fun e W'=>e=.returned (.bool true)∧Below W.heap.size W W':=by
  have sz0:s0.size≤1048576:=by have h:s0.size+1≤_:=blk0;omega
  have sz1:s1.size≤1048576:=by have h:s1.size+1≤_:=blk1;omega
  exact deskLines_any s0 s1 W sz0 sz1 (desk_of_laid hL hSh).1 (desk_of_laid hL hSh).2
 exact walk.mono fun e W' ⟨he,hb⟩=>⟨_,he,law_post hW' rfl (by kernel_rfl) Tryz.underlying4 rfl laid_out (by rw[Tryz.params3];exact tys_cons ⟨by kernel_rfl,of_decide_eq_true (by kernel_rfl)⟩ (tys_cons ⟨by kernel_rfl,of_decide_eq_true (by kernel_rfl)⟩ (tys_nil))) hb⟩
theorem reads (os:Os) {H:Type} (enc:TypeId×Value→H):∃ places,DataW.whole enc Tryz.prog ((laidWorld #[.string ByteArray.empty,.string ByteArray.empty] os).forCall (fun _ _=>0) ⟨#[],#[.string ByteArray.empty,.string ByteArray.empty],[]⟩).memory Tryz.f3.params.toList Rows.deskLinesSpec.vars false (#[.string ByteArray.empty,.string ByteArray.empty]:Array Value).toList 8=some ([.lit (.string []),.lit (.string [])],[],places):=
 ⟨[],by kernel_rfl⟩
theorem lifted (os:Os) (started:os.Started) (H:Type) (enc:TypeId×Value→H) (F:Stop.Interp):
 ReturnsInHanded {} Tryz.checked os 3 .any ((Rows.OpenSpec.upto Rows.deskLinesSpec).preRow enc Tryz.prog Tryz.f3 Rows.deskLinesUptoRow.domain false Rows.deskLinesUptoRow.laid) (((Rows.OpenSpec.upto Rows.deskLinesSpec).at F).post enc Tryz.prog Tryz.f3 false true false false):=by
 obtain⟨places,hx⟩:=reads os enc;refine returnsInHanded_of_row (C:=Tryz.checked) (s:=(Rows.OpenSpec.upto Rows.deskLinesSpec)) own_knob started (by kernel_rfl) Tryz.func3
  (witness_row_zip (enc:=enc) (C:=Tryz.checked) false (laidWorld #[.string ByteArray.empty,.string ByteArray.empty] os) #[.string ByteArray.empty,.string ByteArray.empty] (laidWorld_os os _) (by kernel_rfl) (by kernel_rfl) (by kernel_rfl)
    (OpenSpec.preRow_of_cond 8 hx (by kernel_rfl) (fun k hk=>by cases hk;kernel_rfl) (by kernel_rfl) (laidWorld_met os _))) ?_
 intro W base args ds gs before hval hW _ hcond hsz hL hSh _;exact contract H enc W base args ds gs before hval hW (hcond _ rfl) hsz hL hSh
theorem said:Rows.DeskLinesUptoSaid:=
 OpenClaim.holds_of_cond 3 Tryz.f3 rfl rfl rfl rfl rfl rfl rfl ⟨rfl,rfl,rfl,rfl,rfl⟩ rfl rfl rfl rfl rfl (by kernel_rfl) Tryz.func3 (Eq.trans (b:=joinedFacts Tryz.prog 3 Tryz.f3 Rows.deskLinesSpec Rows.deskLinesUptoRow) (by kernel_rfl) closed)
  (of_decide_eq_true (by kernel_rfl)) (by unfold Func.isWrapper;first|(rw[if_pos (by decide +kernel)];kernel_rfl)|(rw[if_neg (by decide +kernel)];exact⟨rfl,rfl⟩))
  (fun os started H enc _ F=>by rw[OpenClaim.pre_eq_preRow];exact lifted os started H enc F)
theorem noStandIn:∀ t∈[9,9],Tryz.prog.wantsStandIn t=false:=by
 intro t ht;simp only[List.mem_cons,List.not_mem_nil,or_false]at ht;rcases ht with rfl|rfl
 ·exact(show Tryz.prog.wantsStandIn 9=false by kernel_rfl)
 ·exact(show Tryz.prog.wantsStandIn 9=false by kernel_rfl)
theorem plainly (f:FuncId) (fn:Func) (hf:Tryz.pinned.checked.prog.funcNamed "linguister/linguisterlaw4.DeskLines" =some f) (hfn:Tryz.pinned.checked.prog.funcs[f]? =some fn):
 true=Tryz.pinned.checked.prog.looks []∧∀(j:Nat) t,fn.params[j]? =some t→Tryz.pinned.checked.prog.wantsStandIn t=false:=by
 obtain rfl:f=3:=Option.some.inj ((show Tryz.prog.funcNamed "linguister/linguisterlaw4.DeskLines" =some 3 by kernel_rfl).symm.trans hf) |>.symm
 obtain rfl:fn=Tryz.f3:=(Option.some.inj (Tryz.func3.symm.trans hfn)).symm;refine⟨by kernel_rfl,fun j t ht=> ?_⟩
 rw[Tryz.params3]at ht;exact noStandIn t (by have:=Array.mem_of_getElem? ht;simpa using this)
theorem card:Rows.DeskLinesUptoCardSaid:=
 Claim7.holds_tied_plain_at .later [] _ _ _ _ said (fun _ h=>by cases h) (by kernel_rfl) (fun _ h=>by cases h) deskLinesUpto_row_tie rfl ⟨rfl,rfl⟩ (by kernel_rfl) rfl plainly (by kernel_rfl)
end Go.Proofs.YtagfnpdoooachaaGreatDoor.deskLinesUpto
