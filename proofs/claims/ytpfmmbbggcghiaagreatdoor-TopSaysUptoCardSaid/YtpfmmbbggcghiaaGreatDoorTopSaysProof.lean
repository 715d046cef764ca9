/- PROVED: a server says just what is said of the message that is read of the text that is found, in the language of the bundle in which it is; made in one row it says the same: for every input of bulk at most 1048576. Conditions: the variables that are listed (of math/bits, internal/strconv, unicode/utf8, errors, strconv, linguister/msg, linguister/plural, linguister/eval) are tied to the program's text by the card. -/
import Derived.Test.YtpfmmbbggcghiaaGreatDoorTopSaysFacts
import Derived.Test.YtpfmmbbggcghiaaGreatDoorLaidW
set_option linter.unusedSimpArgs false
set_option linter.unusedVariables false
set_option maxHeartbeats 1000000
set_option maxRecDepth 100000
namespace Go.Proofs.YtpfmmbbggcghiaaGreatDoor.topSaysUpto
open Go.RowKit Go.ChangeShapes Go.WideShapes Go.ChangeAt
theorem contract (H:Type) (enc:TypeId×Value→H) (W:World) (base:Nat) (args:Array Value) (ds gs:List (DataW H)) (before:List MemPlace)
 (hval:∀(j:Nat) t v,Tryz.f3.params[j]? =some t→args[j]? =some v→Value.okWide Tryz.prog W .any base t v)
 (hW:DataW.Whole enc Tryz.prog Tryz.f3.params.toList Rows.topSaysSpec.vars false W args.toList ds gs before)
 (hk:Rows.uptoSmall H (ds++gs)=true)
 (hsz:(DataW.weightsEach Tryz.prog (Tryz.f3.params.toList++Rows.topSaysSpec.plain.varTypes Tryz.prog) (ds++gs)).all (· ≤reachBytes)=true)
 (hL:laidMetH Tryz.prog Rows.topSaysUptoRow.laid W)
 (hSh:W.ShapedOpen Tryz.prog)
 : Calls Tryz.prog 3 args W fun e W'=>∃ v,e=.returned v∧Rows.topSaysSpec.post enc Tryz.prog Tryz.f3 false true false false W args v W':=by
 have hW':=hW;have hlt:∀ x∈before,x.block < W.heap.size:=fun x hx=>hW.lt x hx;obtain⟨p,q,hA0,hV,rfl,_,_⟩:=hW;have hA:DataW.TrodAll enc Tryz.prog W 0 (fun _=>true) true Tryz.f3.params.toList args.toList ds p:=hA0;clear hA0;obtain⟨rfl,rfl⟩:=trodVars_none hV;rw[Tryz.params3]at hA hval hsz;obtain⟨v0,vs0,d0,ds0,p0,q0,hargs,rfl,rfl,h0,r0⟩:=trodAll_cons hA;obtain⟨v1,vs1,d1,ds1,p1,q1,rfl,rfl,rfl,h1,r1⟩:=trodAll_cons r0;obtain⟨v2,vs2,d2,ds2,p2,q2,rfl,rfl,rfl,h2,r2⟩:=trodAll_cons r1;obtain⟨v3,vs3,d3,ds3,p3,q3,rfl,rfl,rfl,h3,r3⟩:=trodAll_cons r2;obtain⟨v4,vs4,d4,ds4,p4,q4,rfl,rfl,rfl,h4,r4⟩:=trodAll_cons r3;obtain⟨rfl,rfl,rfl⟩:=trodAll_nil r4;obtain rfl:args=#[v0,v1,v2,v3,v4]:=by cases args;simp_all
 have hB:Rows.uptoBulkAll ([d0,d1,d2,d3,d4]:List (DataW H))≤1048576:=by have:=of_decide_eq_true hk;simpa only[List.append_nil]using this
 simp only[Rows.uptoBulkAll]at hB;have hw:∀ n∈DataW.weightsEach Tryz.prog ([3,22,9,9,23]++Rows.topSaysSpec.plain.varTypes Tryz.prog) ([d0,d1,d2,d3,d4]++[]),n≤reachBytes:=fun n hn=>by simpa using List.all_eq_true.1 hsz n hn
 obtain⟨n0,rfl,n0a,n0b⟩:=arg_int Tryz.underlying3 (hval 0 3 v0 rfl rfl) h0;obtain⟨l1,hl1,fits1,blk1⟩:=arg_list (opens_list (E:=Enc.bun) opens_bun Tryz.underlying22 (by kernel_rfl) (by kernel_rfl) (by decide)) Tryz.underlying22 (hval 1 22 v1 rfl rfl) h1 (hi:=W.heap.size) (fun x hx=>hlt x (by simp[hx]))
 have g1:=fits1 reachBytes fun n hn=>hw n (DataW.weights_mem_each (j:=1) rfl rfl n hn);obtain⟨s2,rfl,fits2,blk2⟩:=arg_str Tryz.underlying9 (hval 2 9 v2 rfl rfl) h2;have g2:=fits2 reachBytes fun n hn=>hw n (DataW.weights_mem_each (j:=2) rfl rfl n hn);obtain⟨s3,rfl,fits3,blk3⟩:=arg_str Tryz.underlying9 (hval 3 9 v3 rfl rfl) h3;have g3:=fits3 reachBytes fun n hn=>hw n (DataW.weights_mem_each (j:=3) rfl rfl n hn);obtain⟨l4,hl4,fits4,blk4⟩:=arg_list (opens_list (E:=Enc.argV) opens_argV Tryz.underlying23 (by kernel_rfl) (by kernel_rfl) (by decide)) Tryz.underlying23 (hval 4 23 v4 rfl rfl) h4 (hi:=W.heap.size) (fun x hx=>hlt x (by simp[hx]))
 have g4:=fits4 reachBytes fun n hn=>hw n (DataW.weights_mem_each (j:=4) rfl rfl n hn);have walk:Calls Tryz.prog 3 #[.int .i64 n0,v1,.string s2,.string s3,v4] W fun e W'=>e=.returned (.bool true)∧Below W.heap.size W W':=by
  have b1:l1.length*40≤140737488355328:=by have h:=g1.1;have e:Enc.bun.bytes=40:=rfl;rw[e]at h;exact Nat.le_trans h (by decide)
  have k1:(l1.map Enc.bun.bulk).sum≤1048576:=by have h:(l1.map Enc.bun.bulk).sum+1≤_:=blk1;omega
  have in1:BunsIn W v1 l1:=⟨⟨_,hl1⟩,b1,fun b hb=>by
   obtain⟨f1,f2,f3⟩:=g1.2 b hb;have e:Enc.ent.bytes=32:=rfl;rw[e]at f2;have f4:=bulk_mem Enc.bun.bulk hb;have f5:Enc.bun.bulk b=b.tag.size+Enc.ent.list.bulk b.ents:=rfl;exact⟨by omega,by have h:b.ents.length*32≤140737488355328:=Nat.le_trans f2 (by decide);omega,fun x hx=>⟨Nat.le_trans (f3 x hx).1 (by decide),Nat.le_trans (f3 x hx).2 (by decide)⟩⟩⟩
  have hL1:HandsL W l1 v1:=⟨hl1,in1.each,in1.len⟩;have sz2:s2.size≤1048576:=by have h:s2.size+1≤_:=blk2;omega
  have sz3:s3.size≤1048576:=by have h:s3.size+1≤_:=blk3;omega
  have kj:(l4.map Enc.argV.bulk).sum≤1048576:=by have h:(l4.map Enc.argV.bulk).sum+1≤_:=blk4;omega
  have hH:Hands W l4 v4:=⟨fun W' hW'=>(ev_of_laidN hL hSh).below hW',fun m ki=>⟨ki,by
   have h:=len_sum Enc.argV.bulk l4 fun a _=>by
    have f5:Enc.argV.bulk a=a.name.size+a.text.size+5:=rfl;omega
   have h5:=mem_sum5 l4;omega,fun a ha=>by
   have h:=bulk_mem Enc.argV.bulk ha;have f5:Enc.argV.bulk a=a.name.size+a.text.size+5:=rfl;omega,fun a ha=>by
   have h:=bulk_mem Enc.argV.bulk ha;have f5:Enc.argV.bulk a=a.name.size+a.text.size+5:=rfl;omega⟩,hl4⟩
  exact topSays_any n0 l1 v1 s2 s3 l4 v4 W hH hL1 sz2 sz3 (errVar_of_laidN hL)
 exact walk.mono fun e W' ⟨he,hb⟩=>⟨_,he,law_post hW' rfl (by kernel_rfl) Tryz.underlying4 rfl laid_out (by rw[Tryz.params3];exact tys_cons ⟨by kernel_rfl,of_decide_eq_true (by kernel_rfl)⟩ (tys_cons ⟨by kernel_rfl,of_decide_eq_true (by kernel_rfl)⟩ (tys_cons ⟨by kernel_rfl,of_decide_eq_true (by kernel_rfl)⟩ (tys_cons ⟨by kernel_rfl,of_decide_eq_true (by kernel_rfl)⟩ (tys_cons ⟨by kernel_rfl,of_decide_eq_true (by kernel_rfl)⟩ (tys_nil)))))) hb⟩
theorem reads (os:Os) {H:Type} (enc:TypeId×Value→H):∃ places,DataW.whole enc Tryz.prog ((laidWorld #[.int .i64 0,.slice none 0 0,.string ByteArray.empty,.string ByteArray.empty,.slice none 0 0] os).forCall (fun _ _=>0) ⟨#[],#[.int .i64 0,.slice none 0 0,.string ByteArray.empty,.string ByteArray.empty,.slice none 0 0],[]⟩).memory Tryz.f3.params.toList Rows.topSaysSpec.vars false (#[.int .i64 0,.slice none 0 0,.string ByteArray.empty,.string ByteArray.empty,.slice none 0 0]:Array Value).toList 8=some ([.lit (.int .i64 0),.nil,.lit (.string []),.lit (.string []),.nil],[],places):=
 ⟨[],by kernel_rfl⟩
theorem lifted (os:Os) (started:os.Started) (H:Type) (enc:TypeId×Value→H) (F:Stop.Interp):
 ReturnsInHanded {} Tryz.checked os 3 .any ((Rows.OpenSpec.upto Rows.topSaysSpec).preRow enc Tryz.prog Tryz.f3 Rows.topSaysUptoRow.domain false Rows.topSaysUptoRow.laid) (((Rows.OpenSpec.upto Rows.topSaysSpec).at F).post enc Tryz.prog Tryz.f3 false true false false):=by
 obtain⟨places,hx⟩:=reads os enc;refine returnsInHanded_of_row (C:=Tryz.checked) (s:=(Rows.OpenSpec.upto Rows.topSaysSpec)) own_knob started (by kernel_rfl) Tryz.func3
  (witness_row_zip (enc:=enc) (C:=Tryz.checked) false (laidWorld #[.int .i64 0,.slice none 0 0,.string ByteArray.empty,.string ByteArray.empty,.slice none 0 0] os) #[.int .i64 0,.slice none 0 0,.string ByteArray.empty,.string ByteArray.empty,.slice none 0 0] (laidWorld_os os _) (by kernel_rfl) (by kernel_rfl) (by kernel_rfl)
    (OpenSpec.preRow_of_cond 8 hx (by kernel_rfl) (fun k hk=>by cases hk;kernel_rfl) (by kernel_rfl) (laidWorld_met os _))) ?_
 intro W base args ds gs before hval hW _ hcond hsz hL hSh _;exact contract H enc W base args ds gs before hval hW (hcond _ rfl) hsz hL hSh
theorem said:Rows.TopSaysUptoSaid:=
 OpenClaim.holds_of_cond 3 Tryz.f3 rfl rfl rfl rfl rfl rfl rfl ⟨rfl,rfl,rfl,rfl,rfl⟩ rfl rfl rfl rfl rfl (by kernel_rfl) Tryz.func3 (Eq.trans (b:=joinedFacts Tryz.prog 3 Tryz.f3 Rows.topSaysSpec Rows.topSaysUptoRow) (by kernel_rfl) closed)
  (of_decide_eq_true (by kernel_rfl)) (by unfold Func.isWrapper;first|(rw[if_pos (by decide +kernel)];kernel_rfl)|(rw[if_neg (by decide +kernel)];exact⟨rfl,rfl⟩))
  (fun os started H enc _ F=>by rw[OpenClaim.pre_eq_preRow];exact lifted os started H enc F)
theorem noStandIn:∀ t∈[3,22,9,9,23],Tryz.prog.wantsStandIn t=false:=by
 intro t ht;simp only[List.mem_cons,List.not_mem_nil,or_false]at ht;rcases ht with rfl|rfl|rfl|rfl|rfl
 ·exact(show Tryz.prog.wantsStandIn 3=false by kernel_rfl)
 ·exact(show Tryz.prog.wantsStandIn 22=false by kernel_rfl)
 ·exact(show Tryz.prog.wantsStandIn 9=false by kernel_rfl)
 ·exact(show Tryz.prog.wantsStandIn 9=false by kernel_rfl)
 ·exact(show Tryz.prog.wantsStandIn 23=false by kernel_rfl)
theorem plainly (f:FuncId) (fn:Func) (hf:Tryz.pinned.checked.prog.funcNamed "linguister/linguistertop.TopSays" =some f) (hfn:Tryz.pinned.checked.prog.funcs[f]? =some fn):
 true=Tryz.pinned.checked.prog.looks []∧∀(j:Nat) t,fn.params[j]? =some t→Tryz.pinned.checked.prog.wantsStandIn t=false:=by
 obtain rfl:f=3:=Option.some.inj ((show Tryz.prog.funcNamed "linguister/linguistertop.TopSays" =some 3 by kernel_rfl).symm.trans hf) |>.symm
 obtain rfl:fn=Tryz.f3:=(Option.some.inj (Tryz.func3.symm.trans hfn)).symm;refine⟨by kernel_rfl,fun j t ht=> ?_⟩
 rw[Tryz.params3]at ht;exact noStandIn t (by have:=Array.mem_of_getElem? ht;simpa using this)
theorem card:Rows.TopSaysUptoCardSaid:=
 Claim7.holds_tied_plain_at .later [] _ _ _ _ said (fun _ h=>by cases h) (by kernel_rfl) (fun _ h=>by cases h) topSaysUpto_row_tie rfl ⟨rfl,rfl⟩ (by kernel_rfl) rfl plainly (by kernel_rfl)
end Go.Proofs.YtpfmmbbggcghiaaGreatDoor.topSaysUpto
