/- errors.As at a target of type *api.Errno, of an error that is an Errno; plain.Told; linguistersame.Error and Told. -/
import Derived.Test.YtpfmmbbggcghiaaGreatDoorTrim
import Derived.LaidEql
import Derived.Stop.Asserts
import Derived.RowKitTokens
import Derived.Test.YtpfmmbbggcghiaaGreatDoorMsgD
namespace Go.Proofs.YtpfmmbbggcghiaaGreatDoor
open Go.RowKit Go.Extern.Stop Go.Stop Go.Extern
set_option linter.unusedSimpArgs false
theorem valueOfP (t:Addr) (w:World):(ReflectliteValue.unpack (.iface 153 (.pointer (some t)))).run Tryz.prog w
 = .ok (.agg #[.pointer (some ⟨13,153,none⟩),.pointer (some ⟨w.heap.size,0,none⟩),.int .u64 150]) (w.alloc (.cells #[.pointer (some t)] 153)):=by kernel_rfl
theorem typeP (a:Addr) (w:World):(ReflectliteValue.methodAny (ReflectliteValue.valueError "reflectlite.Value.Type" 0) (fun t _ _ _=>ReflectliteType.toType t) #[.agg #[.pointer (some ⟨13,153,none⟩),.pointer (some a),.int .u64 150]]).run Tryz.prog w
 = .ok (.iface 263 (.agg #[.pointer (some ⟨13,153,none⟩)])) w:=by kernel_rfl
theorem methodKind (h:Value) (w:World):(Go.method 494 263 (.agg #[h]) "Kind").run Tryz.prog w=.ok (261,h) w:=by kernel_rfl
theorem kindP (w:World):((ReflectliteType.abiMethod fun t=>(fun a:Nat=>Value.int IntKind.u8 (a:Int)) <$> Rtype.kind t) #[.pointer (some ⟨13,153,none⟩)]).run Tryz.prog w=.ok (.int .u8 22) w:=by kernel_rfl
theorem kindE (w:World):((ReflectliteType.abiMethod fun t=>(fun a:Nat=>Value.int IntKind.u8 (a:Int)) <$> Rtype.kind t) #[.pointer (some ⟨13,35,none⟩)]).run Tryz.prog w=.ok (.int .u8 2) w:=by kernel_rfl
theorem rlm (z:Sem Value) (f:TypeId→Addr→Nat→Nat→Sem Value) (v:Value):
 ReflectliteValue.method z f #[v]=(do match ←ReflectliteValue.parts v with|none=>z|some (t,a,fl)=>f t a fl (fl % 32)):=rfl
theorem partsP (a:Addr) (w:World):(ReflectliteValue.parts (.agg #[.pointer (some ⟨13,153,none⟩),.pointer (some a),.int .u64 150])).run Tryz.prog w=.ok (some (153,a,150)) w:=by kernel_rfl
theorem isNilP (a p:Addr) (W:World) (ha:W.cell? a=some (.pointer (some p))):
 (ReflectliteValue.method (ReflectliteValue.valueError "reflectlite.Value.IsNil" 0) ReflectliteValue.isNil #[.agg #[.pointer (some ⟨13,153,none⟩),.pointer (some a),.int .u64 150]]).run Tryz.prog W=.ok (.bool false) W:=by
 rw[rlm];simp only[Sem.run_bind,partsP,Result.andThen];simp[ReflectliteValue.isNil,loadVar,isAgg,underlying,Tryz.underlying153,ha,Result.andThen]
theorem methodElem (h:Value) (w:World):(Go.method 494 263 (.agg #[h]) "Elem").run Tryz.prog w=.ok (273,.agg #[h]) w:=by kernel_rfl
theorem methodImplements (h:Value) (w:World):(Go.method 494 263 (.agg #[h]) "Implements").run Tryz.prog w=.ok (274,.agg #[h]) w:=by kernel_rfl
theorem methodAssignableTo (h:Value) (w:World):(Go.method 494 263 (.agg #[h]) "AssignableTo").run Tryz.prog w=.ok (271,.agg #[h]) w:=by kernel_rfl
theorem elemP (w:World):(ReflectliteType.method ReflectliteType.elem #[.agg #[.pointer (some ⟨13,153,none⟩)]]).run Tryz.prog w=.ok (.iface 263 (.agg #[.pointer (some ⟨13,35,none⟩)])) w:=by kernel_rfl
theorem implementsE (w:World):(ReflectliteType.relation "Implements" ReflectliteType.implements_ #[.agg #[.pointer (some ⟨13,35,none⟩)],.iface 263 (.agg #[.pointer (some ⟨13,27,none⟩)])]).run Tryz.prog w=.ok (.bool true) w:=by kernel_rfl
theorem typeOfE (v:Value) (w:World):(ReflectliteType.typeOf #[.iface 35 v]).run Tryz.prog w=.ok (.iface 263 (.agg #[.pointer (some ⟨13,35,none⟩)])) w:=by kernel_rfl
theorem assignableE (w:World):(ReflectliteType.relation "AssignableTo" ReflectliteType.assignableTo #[.agg #[.pointer (some ⟨13,35,none⟩)],.iface 263 (.agg #[.pointer (some ⟨13,35,none⟩)])]).run Tryz.prog w=.ok (.bool true) w:=by kernel_rfl
theorem valueOfE (n:Int) (w:World):(ReflectliteValue.unpack (.iface 35 (.int .i64 n))).run Tryz.prog w
 = .ok (.agg #[.pointer (some ⟨13,35,none⟩),.pointer (some ⟨w.heap.size,0,none⟩),.int .u64 130]) (w.alloc (.cells #[.int .i64 n] 35)):=by kernel_rfl
theorem elemOfP (w:World):(Rtype.elem? 153).run Tryz.prog w=.ok (some 35) w:=by kernel_rfl
theorem mkE (p:Addr) (w:World):(ReflectliteValue.mk 35 p ReflectliteValue.flagAddr).run Tryz.prog w=.ok (.agg #[.pointer (some ⟨13,35,none⟩),.pointer (some p),.int .u64 386]) w:=by kernel_rfl
theorem elemVP (a p:Addr) (W:World) (ha:W.cell? a=some (.pointer (some p))):
 (ReflectliteValue.method (ReflectliteValue.valueError "reflectlite.Value.Elem" 0) ReflectliteValue.elem #[.agg #[.pointer (some ⟨13,153,none⟩),.pointer (some a),.int .u64 150]]).run Tryz.prog W
   = .ok (.agg #[.pointer (some ⟨13,35,none⟩),.pointer (some p),.int .u64 386]) W:=by
 rw[rlm];simp only[Sem.run_bind,partsP,Result.andThen];simp[ReflectliteValue.elem,loadVar,isAgg,underlying,Tryz.underlying153,ha,Result.andThen,elemOfP,mkE]
theorem rls (v x:Value):ReflectliteValue.set #[v,x]=(do
 let (some (dst,a,fl),some (src,b,_)):=(←ReflectliteValue.parts v,←ReflectliteValue.parts x)
  | unsupported (.noEntry "extern/(internal/reflectlite.Value).Set.zeroValue")
 if fl / ReflectliteValue.flagAddr % 2 == 0 then unsupported (.noEntry "extern/(internal/reflectlite.Value).Set.unaddressable")
 let val ←loadVar src b
 if ←Rtype.directlyAssignable dst src then storeVar dst a val
 else if ←Rtype.implements dst src then
  if(←Rtype.kind src) == 20 then
   match val with
   | .nilIface=>unsupported (.noEntry "extern/reflectlite: a nil value of one interface type handed on as a value of another")
   | _=>storeVar dst a val
  else storeVar dst a (.iface src val)
 else panicString ("reflectlite.Set: value of type " ++ (←Rtype.spelt src) ++ " is not assignable to type " ++ (←Rtype.spelt dst))
 pure (.tuple #[])):=rfl
theorem partsEa (a:Addr) (w:World):(ReflectliteValue.parts (.agg #[.pointer (some ⟨13,35,none⟩),.pointer (some a),.int .u64 386])).run Tryz.prog w=.ok (some (35,a,386)) w:=by kernel_rfl
theorem partsE (a:Addr) (w:World):(ReflectliteValue.parts (.agg #[.pointer (some ⟨13,35,none⟩),.pointer (some a),.int .u64 130])).run Tryz.prog w=.ok (some (35,a,130)) w:=by kernel_rfl
theorem directE (w:World):(Rtype.directlyAssignable 35 35).run Tryz.prog w=.ok true w:=by kernel_rfl
theorem setE (ta b:Addr) (n:Int) (old:Value) (W:World) (hb:W.cell? b=some (.int .i64 n)) (ht:W.cell? ta=some old) (hf:W.frozen? ta=false):
 (ReflectliteValue.set #[.agg #[.pointer (some ⟨13,35,none⟩),.pointer (some ta),.int .u64 386],.agg #[.pointer (some ⟨13,35,none⟩),.pointer (some b),.int .u64 130]]).run Tryz.prog W
   = .ok (.tuple #[]) (W.setCell ta (.int .i64 n)):=by
 rw[rls];simp only[Sem.run_bind,partsEa,partsE,Result.andThen];simp[ReflectliteValue.flagAddr,loadVar,isAgg,underlying,Tryz.underlying35,hb,Result.andThen,directE,storeVar,Value.cells,storeCells,Addr.add];rw[run_store Tryz.prog W ta _ _ (by rfl)]
 simp[ht,hf]
def ErrVar (w:World):Prop:=w.cell? ⟨2,0,none⟩=some (.iface 263 (.agg #[.pointer (some ⟨13,27,none⟩)]))
theorem ErrVar.lt {w:World} (h:ErrVar w):2 < w.heap.size:=by
 unfold ErrVar World.cell? at h;cases ho:w.heap[2]? with
 | none=>simp[ho]at h
 | some o=>exact(Array.getElem?_eq_some_iff.1 ho).1
theorem ErrVar.below {w w':World} {B:Nat} (h:ErrVar w) (hb:Below B w w') (hB:2 < B):ErrVar w':=(hb.cell (p:=⟨2,0,none⟩) hB).trans h
theorem ErrVar.alloc {w:World} (h:ErrVar w) (o:Obj):ErrVar (w.alloc o):=h.below ((Below.refl w.heap.size w).alloc (Nat.le_refl _) o) h.lt
set_option maxHeartbeats 4000000 in
set_option maxRecDepth 100000 in
theorem as_hit (n:Int) (t:Addr) (old:Value) (w:World) (hg:ErrVar w) (ht0:w.cell? t=some old) (hf0:w.frozen? t=false) (htl:t.block < w.heap.size):
 Calls Tryz.prog 65 #[.iface 35 (.int .i64 n),.iface 153 (.pointer (some t))] w fun ev w'=>ev=.returned (.bool true)∧w'=((((w.alloc (.cells #[.pointer (some t)] 153)).alloc (.cells #[.pointer (some ⟨13,153,none⟩),.pointer (some ⟨w.heap.size,0,none⟩),.int .u64 150] 211)).alloc (.cells #[.pointer (some ⟨13,153,none⟩),.pointer (some ⟨w.heap.size,0,none⟩),.int .u64 150] 211)).alloc (.cells #[.int .i64 n] 35)).setCell t (.int .i64 n):=by
 have h6:=@run_callFunc_extern Tryz.prog 106 _ (fun args=>ReflectliteValue.unpack (args.getD 0 (.tuple #[]))) Tryz.func106 (by kernel_rfl) (by kernel_rfl) (by kernel_rfl) (by kernel_rfl)
 have h7:=@run_callFunc_extern Tryz.prog 107 _ (ReflectliteValue.methodAny (ReflectliteValue.valueError "reflectlite.Value.Type" 0) (fun t _ _ _=>ReflectliteType.toType t)) Tryz.func107 (by kernel_rfl) (by kernel_rfl) (by kernel_rfl) (by kernel_rfl)
 have h8:=@run_callFunc_extern Tryz.prog 108 _ (ReflectliteValue.method (ReflectliteValue.valueError "reflectlite.Value.IsNil" 0) ReflectliteValue.isNil) Tryz.func108 (by kernel_rfl) (by kernel_rfl) (by kernel_rfl) (by kernel_rfl)
 have h27:=@run_callFunc_extern Tryz.prog 261 _ (ReflectliteType.abiMethod fun t=>do pure (.int .u8 (←Rtype.kind t))) Tryz.func261 (by kernel_rfl) (by kernel_rfl) (by kernel_rfl) (by kernel_rfl)
 have h37:=@run_callFunc_extern Tryz.prog 273 _ (ReflectliteType.method ReflectliteType.elem) Tryz.func273 (by kernel_rfl) (by kernel_rfl) (by kernel_rfl) (by kernel_rfl)
 have h38:=@run_callFunc_extern Tryz.prog 274 _ (ReflectliteType.relation "Implements" ReflectliteType.implements_) Tryz.func274 (by kernel_rfl) (by kernel_rfl) (by kernel_rfl) (by kernel_rfl)
 have h10:=@run_callFunc_extern Tryz.prog 156 _ ReflectliteType.typeOf Tryz.func156 (by kernel_rfl) (by kernel_rfl) (by kernel_rfl) (by kernel_rfl)
 have h35:=@run_callFunc_extern Tryz.prog 271 _ (ReflectliteType.relation "AssignableTo" ReflectliteType.assignableTo) Tryz.func271 (by kernel_rfl) (by kernel_rfl) (by kernel_rfl) (by kernel_rfl)
 have h11:=@run_callFunc_extern Tryz.prog 157 _ (ReflectliteValue.method (ReflectliteValue.valueError "reflectlite.Value.Elem" 0) ReflectliteValue.elem) Tryz.func157 (by kernel_rfl) (by kernel_rfl) (by kernel_rfl) (by kernel_rfl)
 have h12:=@run_callFunc_extern Tryz.prog 158 _ ReflectliteValue.set Tryz.func158 (by kernel_rfl) (by kernel_rfl) (by kernel_rfl) (by kernel_rfl)
 have tO:=typeOfE;have mA:=methodAssignableTo;have a25:=assignableE;have v25:=valueOfE;have f6:=valueOfP;have f7:=typeP;have mK:=methodKind;have mE:=methodElem;have mI:=methodImplements;have k27:=kindP;have k25:=kindE;have e27:=elemP;have i25:=implementsE;have n8:=isNilP ⟨w.heap.size,0,none⟩ t ((w.alloc (.cells #[.pointer (some t)] 153)).alloc (.cells #[.pointer (some ⟨13,153,none⟩),.pointer (some ⟨w.heap.size,0,none⟩),.int .u64 150] 211)) (by simp)
 have hg2:ErrVar ((w.alloc (.cells #[.pointer (some t)] 153)).alloc (.cells #[.pointer (some ⟨13,153,none⟩),.pointer (some ⟨w.heap.size,0,none⟩),.int .u64 150] 211)):=(hg.alloc _).alloc _;unfold ErrVar at hg2 hg;have el:=elemVP ⟨w.heap.size,0,none⟩ t (((w.alloc (.cells #[.pointer (some t)] 153)).alloc (.cells #[.pointer (some ⟨13,153,none⟩),.pointer (some ⟨w.heap.size,0,none⟩),.int .u64 150] 211)).alloc (.cells #[.pointer (some ⟨13,153,none⟩),.pointer (some ⟨w.heap.size,0,none⟩),.int .u64 150] 211)) (by rw[World.cell?_alloc_lt _ _ ⟨w.heap.size,0,none⟩ (by simp;omega)];simp)
 have st:=setE t ⟨w.heap.size+1+1+1,0,none⟩ n old ((((w.alloc (.cells #[.pointer (some t)] 153)).alloc (.cells #[.pointer (some ⟨13,153,none⟩),.pointer (some ⟨w.heap.size,0,none⟩),.int .u64 150] 211)).alloc (.cells #[.pointer (some ⟨13,153,none⟩),.pointer (some ⟨w.heap.size,0,none⟩),.int .u64 150] 211)).alloc (.cells #[.int .i64 n] 35))
  (by rw[World.cell?_alloc_at _ _ _ _ (by simp)];rfl)
  (by rw[World.cell?_alloc_lt _ _ t (by simp;omega),World.cell?_alloc_lt _ _ t (by simp;omega),World.cell?_alloc_lt _ _ t (by simp;omega),World.cell?_alloc_lt _ _ t htl];exact ht0)
  (by rw[World.frozen?_alloc_old _ _ t (by simp;omega),World.frozen?_alloc_old _ _ t (by simp;omega),World.frozen?_alloc_old _ _ t (by simp;omega),World.frozen?_alloc_old _ _ t (Nat.ne_of_lt htl)];exact hf0)
 go_enter Tryz.func65,Tryz.ntmps65
 go_wp2
 refine wp_loop_rounds 1 ?_;rw[rounds_succ]
 go_wp2
 go_ret
 exact⟨rfl,rfl⟩
end Go.Proofs.YtpfmmbbggcghiaaGreatDoor
/- plain.Told, linguistersame.Error and Told, of an error that is nil or an Errno. -/

namespace Go.Proofs.YtpfmmbbggcghiaaGreatDoor
open Go.RowKit
set_option maxHeartbeats 400000 in
theorem told_nil (w:World):Calls Tryz.prog 30 #[.nilIface] w fun e w'=>e=.returned (.int .i64 0)∧w=w':=by
 go_enter Tryz.func30,Tryz.ntmps30
 go_wp2_with fail
 go_ret
 exact⟨rfl,rfl⟩
set_option maxHeartbeats 400000 in
theorem told_err (n:Int) (w:World) (hg:ErrVar w):Calls Tryz.prog 30 #[.iface 35 (.int .i64 n)] w fun e w'=>e=.returned (.int .i64 n)∧Below w.heap.size w w':=by
 have hA:Hid (Calls Tryz.prog 65 #[.iface 35 (.int .i64 n),.iface 153 (.pointer (some ⟨w.heap.size,0,none⟩))] (w.alloc (.cells #[.int .i64 0] 35)) fun ev w'=>ev=.returned (.bool true)∧w'.cell? ⟨w.heap.size,0,none⟩=some (.int .i64 n)∧Below w.heap.size w w'):=by
  refine(as_hit n ⟨w.heap.size,0,none⟩ (.int .i64 0) _ (hg.alloc _) (by simp) (by simp) (by simp)).mono ?_
  rintro e w' ⟨h1,h2⟩;refine⟨h1,?_,?_⟩
  ·rw[h2];refine World.cell?_setCell_same _ _ _ (u:=.int .i64 0) ?_;rw[World.cell?_alloc_lt _ _ _ (by simp;omega),World.cell?_alloc_lt _ _ _ (by simp;omega),World.cell?_alloc_lt _ _ _ (by simp;omega),World.cell?_alloc_lt _ _ _ (by simp)]
   simp
  ·rw[h2];refine Below.setCell ?_ (by simp) _
   repeat' (first|exact Below.refl _ _|(refine Below.alloc ?_ (by simp;try omega) _))
 go_enter Tryz.func30,Tryz.ntmps30
 go_wp2_with fail
 refine hA.out.mono ?_;rintro e w1 ⟨rfl,hc,hb⟩
 go_wp2_with fail
 go_ret
 exact⟨rfl,hb⟩
def errV (n:Int):Value:=if n=0 then .nilIface else .iface 35 (.int .i64 n)
theorem errV_zero:errV 0=.nilIface:=rfl
theorem errV_ne {n:Int} (h:n≠0):errV n=.iface 35 (.int .i64 n):=if_neg h
theorem told_any (n:Int) (w:World) (hg:ErrVar w):Calls Tryz.prog 30 #[errV n] w fun e w'=>e=.returned (.int .i64 n)∧Below w.heap.size w w':=by
 by_cases h:n=0
 ·subst h;exact(told_nil w).mono fun e w' ⟨h1,h2⟩=>⟨h1,h2 ▸ Below.refl _ _⟩
 ·rw[errV_ne h];exact told_err n w hg
set_option maxHeartbeats 400000 in
theorem stold_any (n m:Int) (w:World) (hg:ErrVar w):Calls Tryz.prog 13 #[errV n,errV m] w fun e w'=>e=.returned (.bool (decide (n=m)))∧Below w.heap.size w w':=by
 have H:=Lib.hid (told_any n w hg);have H2:Hid (∀ w',Below w.heap.size w w'→Calls Tryz.prog 30 #[errV m] w' fun e w''=>e=.returned (.int .i64 m)∧Below w'.heap.size w' w''):=fun w' hb=>told_any m w' (hg.below hb hg.lt);generalize errV n=v at H;generalize errV m=u at H2
 go_enter Tryz.func13,Tryz.ntmps13
 go_wp2_with fail
 refine H.out.mono ?_;rintro e w1 ⟨rfl,hb⟩
 go_wp2_with fail
 refine(H2.out w1 hb).mono ?_;rintro e w2 ⟨rfl,hb2⟩
 go_wp2_with fail
 go_ret
 exact⟨ret_bool (by rw[Bool.eq_iff_iff];simp),hb.trans (hb2.mono hb.size)⟩
end Go.Proofs.YtpfmmbbggcghiaaGreatDoor
/- msg.cases and msg.check: the walks. -/

namespace Go.Proofs.YtpfmmbbggcghiaaGreatDoor
open Go.RowKit
def otherB:ByteArray:=⟨#[111,116,104,101,114]⟩
section
variable {β:Type} (chk:List β→Bool→Int)
def casesM (kind:Int) (mark:Bool):List (ByteArray×List β)→List ByteArray→Int
 | [],seen=>if seen.any (eqs · otherB)then 0 else 2
 | c::r,seen=>if keyM kind c.1=false then 3 else if seen.any (eqs · c.1)=true then 5 else if chk c.2 (mark || kind == 4)≠0 then chk c.2 (mark || kind == 4)else casesM kind mark r (seen++[c.1])
def checkM (mark:Bool):Option Int→List (NdF β)→Int
 | _,[]=>0
 | last,x::r=>if fineM x.kind x.text last mark=false then 3 else if x.kind=4∧(x.off < 0∨9 < x.off)then 1 else if hasCases x.kind=true∧casesM chk x.kind mark x.cases []≠0 then casesM chk x.kind mark x.cases []else checkM mark (some x.kind) r
theorem casesM_at {kind:Int} {mark:Bool} {l:List (ByteArray×List β)} {j:Nat} {seen:List ByteArray} (h:j < l.length):casesM chk kind mark (l.drop j) seen=
 if keyM kind l[j].1=false then 3 else if seen.any (eqs · l[j].1)=true then 5 else if chk l[j].2 (mark || kind == 4)≠0 then chk l[j].2 (mark || kind == 4)else casesM chk kind mark (l.drop (j+1)) (seen++[l[j].1]):=by
 rw[List.drop_eq_getElem_cons h];rfl
end
theorem info_strM:(Tryz.prog.info? 9).map (fun i=>(i.zero,i.size,i.bytes))=some (some (.string ByteArray.empty),1,16):=by kernel_rfl
theorem one_newsM (w:World) (X:ByteArray) (t:TypeId):∀ q u,([Value.string X]:List Value)[q]? =some u→(w.alloc (.cells #[.string X] t)).cell? ⟨w.heap.size,0+q,none⟩=some u:=fun q u hq=>by
 rw[Nat.zero_add,(Blk.new w t #[.string X]).cell q];simpa using hq
theorem own_blkM {w:World} {base:Nat} {e t:TypeId} {size:Nat} {v:Value} {m:Nat} {xs:List Value} {g:Nat} {cs:Array Value} (h:w.ownsRow base e size v m xs) (k:Blk w g t cs) (hne:e≠t):v.ownBlock≠some g:=by
 intro hg;obtain⟨_,⟨h2,_⟩|⟨g',cap,cur,hv,hb,hh,_⟩⟩:=h
 ·rw[h2]at hg;cases hg
 ·rw[hv]at hg;injection hg with hg;subst hg;unfold Blk at k;rw[hh]at k;injection k with k;injection k with _ k;exact hne k
set_option maxHeartbeats 6400000 in
set_option maxRecDepth 100000 in
theorem cases_walk {β:Type} {E:Enc β} (hE:E.Laws) (chk:List β→Bool→Int) (x:NdF β) (V:Value) (mark:Bool) (lo:Nat) (w:World) (hV:ListOk (Enc.cas E) w lo w.heap.size V x.cases) (hl:x.cases.length≤10000000) (hk:∀ c∈x.cases,c.1.size≤1000000000) (hv:MV w)
 (IH:Hid (∀ c∈x.cases,∀ mk W U,Below w.heap.size w W→ListOk E W lo W.heap.size U c.2→Calls Tryz.prog 78 #[U,.bool mk] W fun e w'=>e=.returned (errV (chk c.2 mk))∧Below W.heap.size W w')):
 Calls Tryz.prog 125 #[.agg #[.int .i64 x.kind,.string x.text,.int .i64 x.off,V],.bool mark] w fun e w'=>e=.returned (errV (casesM chk x.kind mark x.cases []))∧Below w.heap.size w w':=by
 obtain⟨VA,Vc,rfl,_⟩:=hV.form;obtain⟨kind,text,off,cs⟩:=x;dsimp only at hV hl hk IH ⊢;obtain⟨W1,eW1⟩:∃ W1,W1=w.alloc (.cells #[.int .i64 kind,.string text,.int .i64 off,.slice VA cs.length Vc] 126):=⟨_,rfl⟩;have hb1:Below w.heap.size w W1:=by rw[eW1];exact(Below.refl _ _).alloc (Nat.le_refl _) _
 have M1:Hid (Blk W1 w.heap.size 126 #[.int .i64 kind,.string text,.int .i64 off,.slice VA cs.length Vc]):=Lib.hid (by rw[eW1];exact Blk.new _ _ _)
 have HB1:=Lib.hid hb1;have HW1:=Lib.hid eW1;have k3:W1.cell? ⟨w.heap.size,3,none⟩=some (.slice VA cs.length Vc):=(M1.out.cell 3).trans rfl;have HVc:Hid (∀ W,Below w.heap.size w W→ListOk (Enc.cas E) W lo w.heap.size (.slice VA cs.length Vc) cs):=Lib.hid fun W hW=>hV.below (Enc.cas_laws hE) hW;have HMV:Hid (∀ W,Below w.heap.size w W→MV W):=Lib.hid fun W hW=>hv.below hW;have HKs:=Lib.hid hk;have hs1:w.heap.size+1≤W1.heap.size:=by have:=M1.out.lt;omega
 clear hV hk hv eW1 hb1
 go_enter Tryz.func125,Tryz.ntmps125
 go_upto_region 1 with fail
 rw[←HW1.out];clear HW1
 go_wp2_with fail
 go_loopw [5,7,8,12] (fun o _ _ i wr=>∃ j:Nat,j≤cs.length∧i=.int .i64 (j:Int)∧wr.ownsRow W1.heap.size 9 1 o ((cs.take j).map (·.1)).length (((cs.take j).map (·.1)).map Value.string)∧Hid (casesM chk kind mark cs []=casesM chk kind mark (cs.drop j) ((cs.take j).map (·.1)))∧Below W1.heap.size W1 wr) (fun _ _ _ i _=>cs.length - (intOf i).toNat)
 case atStart=>exact⟨0,Nat.zero_le _,rfl,own_nil,Lib.hid rfl,Below.refl _ _⟩
 case round=>
  obtain⟨j,hj,rfl,hown,HNo,hb⟩:=hrel;have HO:=Lib.hid hown;have HB:=Lib.hid hb;have hbs:=hb.size;have htl:((cs.take j).map (·.1)).length=j:=by rw[List.length_map,List.length_take];omega
  obtain⟨OA,Oc,rfl,_⟩:=own_slice hown;have Mr:=Lib.hid (M1.out.below hb M1.out.lt);have HBw:=Lib.hid (HB1.out.trans (hb.mono HB1.out.size))
  by_cases hlt:j < cs.length
  ·have i1:(0:Int)≤(j:Int):=Int.natCast_nonneg j;have i2:(j:Int) < (cs.length:Int):=by omega
   have hmem:cs[j]∈cs:=List.getElem_mem hlt;have HTk:Hid ((cs.take (j+1)).map (·.1)=(cs.take j).map (·.1)++[cs[j].1]):=Lib.hid (by rw[List.take_succ_eq_append_getElem hlt,List.map_append];rfl)
   have HAt:Hid (casesM chk kind mark cs []=if keyM kind cs[j].1=false then 3 else if((cs.take j).map (·.1)).any (eqs · cs[j].1)=true then 5 else if chk cs[j].2 (mark || kind == 4)≠0 then chk cs[j].2 (mark || kind == 4)else casesM chk kind mark (cs.drop (j+1)) ((cs.take j).map (·.1)++[cs[j].1])):=Lib.hid (by rw[HNo.out,casesM_at chk hlt])
   obtain⟨b0,o0,U,rfl,_,_,x0,x1,hU⟩:=(HVc.out _ HBw.out).casAt j hlt;have hks:=HKs.out _ hmem;obtain⟨UA,Uc,rfl,_⟩:=hU.form;have HCk:Hid (∀ mk W,Below w.heap.size w W→Calls Tryz.prog 78 #[.slice UA cs[j].2.length Uc,.bool mk] W fun e w'=>e=.returned (errV (chk cs[j].2 mk))∧Below W.heap.size W w'):=Lib.hid fun mk W hW=>
    IH.out _ hmem mk W _ hW ((hU.keep hE fun p h1 h2=>(hW.cell h2).trans (HBw.out.cell h2).symm).mono hE (Nat.le_refl _) hW.size)
   clear hU hmem HNo hb hown;rw[htl];rw[htl]at HO;generalize cs[j]=cc at *;obtain⟨ck,cb⟩:=cc;dsimp only at x0 x1 hks HCk HTk HAt;obtain⟨S,hS⟩:∃ S,S=(cs.take j).map (·.1):=⟨_,rfl⟩;rw[←hS]at HO HTk HAt htl;have HSq:Hid (S.length=j):=Lib.hid htl;clear hS htl;obtain⟨W2,eW2⟩:∃ W2,W2=wr.alloc (.cells #[.string ck,.slice UA cb.length Uc] 189):=⟨_,rfl⟩;have hb2:Below wr.heap.size wr W2:=by rw[eW2];exact(Below.refl _ _).alloc (Nat.le_refl _) _
   have M2:Hid (Blk W2 wr.heap.size 189 #[.string ck,.slice UA cb.length Uc]):=Lib.hid (by rw[eW2];exact Blk.new _ _ _)
   have Mx:=Lib.hid (Mr.out.below hb2 Mr.out.lt);have y0:W2.cell? ⟨wr.heap.size,0,none⟩=some (.string ck):=(M2.out.cell 0).trans rfl;have a0:=(Mx.out.cell 0).trans (show _=some (.int .i64 kind)from rfl);have a1:=(Mx.out.cell 1).trans (show _=some (.string text)from rfl);have a2:=(Mx.out.cell 2).trans (show _=some (.int .i64 off)from rfl);have a3:=(Mx.out.cell 3).trans (show _=some (.slice (some ⟨b0,o0,none⟩) cs.length Vc)from rfl);have HKy:=Lib.hid (key_any kind off text ck (some ⟨b0,o0,none⟩) cs.length Vc W2 hks (HMV.out _ (HBw.out.trans (hb2.mono HBw.out.size))));have HB2:=Lib.hid hb2;have HW2:=Lib.hid eW2;clear eW2 hb2
   go_upto_region 5 with fail
   rw[←HW2.out];clear HW2
   go_wp2_with fail
   refine HKy.out.mono ?_;clear HKy;rintro e w3 ⟨rfl,hb3⟩;have HB3:=Lib.hid (HB2.out.trans (hb3.mono HB2.out.size));have M3:=Lib.hid (M2.out.below hb3 M2.out.lt);have Mx3:=Lib.hid (Mx.out.below hb3 Mx.out.lt);have z0:w3.cell? ⟨wr.heap.size,0,none⟩=some (.string ck):=(M3.out.cell 0).trans rfl;have HB3w:=Lib.hid (HBw.out.trans (HB3.out.mono HBw.out.size));have HB31:=Lib.hid (HB.out.trans (HB3.out.mono hbs));clear hb3 a0 a1 a2 a3 y0 M2 Mx HB2;generalize keyM kind ck=KY at *;cases KY with
   | false=>
     have HE:Hid (casesM chk kind mark cs []=3):=Lib.hid (by rw[HAt.out,if_pos rfl])
     clear HAt HCk
     go_wp2_with fail
     go_ret
     exact⟨by rw[HE.out];rfl,HB3w.out⟩
   | true=>
     have HO3:=Lib.hid (own_below HO.out HB3.out (Nat.le_refl _));have HCt:=Lib.hid (containsS_any S (.slice OA j Oc) ck 0 w3.heap.size w3 (by
      have h:=HO3.out;have e:j=S.length:=HSq.out.symm;rw[e]at h ⊢;exact ListOk.strs_of_own h (Nat.zero_le _) (Nat.le_refl _)) (by have:=HSq.out;omega))
     have HA2:Hid (casesM chk kind mark cs []=if S.any (eqs · ck)=true then 5 else if chk cb (mark || kind == 4)≠0 then chk cb (mark || kind == 4)else casesM chk kind mark (cs.drop (j+1)) (S++[ck])):=Lib.hid (by rw[HAt.out,if_neg (by decide)])
     generalize S.any (eqs · ck)=SN at *;clear HAt
     go_wp2_with fail
     refine HCt.out.mono ?_;clear HCt;rintro e w4 ⟨rfl,rfl⟩;cases SN with
     | true=>
       have HE:Hid (casesM chk kind mark cs []=5):=Lib.hid (by rw[HA2.out,if_pos rfl])
       clear HA2 HCk
       go_wp2_with fail
       go_ret
       exact⟨by rw[HE.out];rfl,HB3w.out⟩
     | false=>
       have HA3:Hid (casesM chk kind mark cs []=if chk cb (mark || kind == 4)≠0 then chk cb (mark || kind == 4)else casesM chk kind mark (cs.drop (j+1)) (S++[ck])):=Lib.hid (by rw[HA2.out,if_neg (by decide)])
       clear HA2;have hsz3:=HB31.out.size
       go_wp2_with (at_builtin;refine wpList_append_any rfl _ _ 42 rfl W1.heap.size 9 Tryz.underlying42 info_strM rfl (by decide) (S.map Value.string) rfl (HO3.out.alloc _) [.string ck] rfl rfl (.inr ⟨_,_,rfl,one_newsM _ _ _⟩) (by simp[Value.oneCell']) (by unfold maxLen;omega) (by omega) (by simp;omega) ?_)
       intro v5 w5 hown5 hgrow5 _;obtain⟨A5,c5,rfl,_⟩:=own_slice hown5;have hO3l:∀ r,(Value.slice OA j Oc).ownBlock=some r→W1.heap.size≤r:=fun r hr=>(own_lt HO3.out hr).1;have HB5:Hid (Below W1.heap.size W1 w5):=Lib.hid ((HB31.out.alloc hsz3 _).grown hgrow5 (by simp;omega) hO3l)
       have M5:Hid (Blk w5 wr.heap.size 189 #[.string ck,.slice UA cb.length Uc]):=Lib.hid ((hgrow5.block _ (by have:=M3.out.lt;simp;omega) (fun e=>own_blkM HO3.out M3.out (by decide) e.symm)).trans (M3.out.alloc _))
       have Mx5:Hid (Blk w5 w.heap.size 126 #[.int .i64 kind,.string text,.int .i64 off,.slice (some ⟨b0,o0,none⟩) cs.length Vc]):=Lib.hid ((hgrow5.block _ (by have:=Mx3.out.lt;simp;omega) (fun e=>by have:=hO3l _ e.symm;omega)).trans (Mx3.out.alloc _))
       have HO5:Hid (w5.ownsRow W1.heap.size 9 1 (.slice A5 (j+1) c5) (S++[ck]).length ((S++[ck]).map Value.string)):=Lib.hid (by
        rw[List.length_append,HSq.out,List.map_append];exact hown5)
       have HB5w:=Lib.hid (HB1.out.trans (HB5.out.mono HB1.out.size));have u1:w5.cell? ⟨wr.heap.size,1,none⟩=some (.slice UA cb.length Uc):=(M5.out.cell 1).trans rfl;have c0:=(Mx5.out.cell 0).trans (show _=some (.int .i64 kind)from rfl);have HC5:=Lib.hid (HCk.out (mark || kind == 4) w5 HB5w.out);have hsz5:=HB5.out.size;generalize chk cb (mark || kind == 4)=e0 at *;clear hown5 hgrow5 HO3 HCk z0;obtain⟨K4,hK4⟩:∃ K4,K4=(kind == 4):=⟨_,rfl⟩;have hK4':(kind == 4)=K4:=hK4.symm;rw[hK4']at HC5;clear hK4;cases mark with
       | true=>
         rw[Bool.true_or]at HC5
         go_wp2_with fail
         refine HC5.out.mono ?_;clear HC5;rintro e w6 ⟨rfl,hb6⟩;have HB6:=Lib.hid (HB5.out.trans (hb6.mono hsz5));have HB6w:=Lib.hid (HB1.out.trans (HB6.out.mono HB1.out.size));have HO6:=Lib.hid (own_below HO5.out hb6 (Nat.le_refl _));clear hb6
         by_cases he:e0=0
         ·subst he;have HN:Hid (casesM chk kind true cs []=casesM chk kind true (cs.drop (j+1)) (S++[ck])):=Lib.hid (by rw[HA3.out,if_neg (by simp)])
          rw[errV_zero];clear HA3
          go_wp2_with fail
          go_roundw
          case rel=>exact⟨j+1,by omega,by go_num,by rw[HTk.out];exact HO6.out,by rw[HTk.out];exact HN,HB6.out⟩
          case measure=>simp[intOf];omega
         ·have HN:Hid (casesM chk kind true cs []=e0):=Lib.hid (by rw[HA3.out,if_pos he])
          rw[errV_ne he];clear HA3
          go_wp2_with fail
          go_ret
          exact⟨by rw[HN.out,errV_ne he];rfl,HB6w.out⟩
       | false=>
         rw[Bool.false_or]at HC5;cases K4 with
         | true=>
           go_wp2_with fail
           refine HC5.out.mono ?_;clear HC5;rintro e w6 ⟨rfl,hb6⟩;have HB6:=Lib.hid (HB5.out.trans (hb6.mono hsz5));have HB6w:=Lib.hid (HB1.out.trans (HB6.out.mono HB1.out.size));have HO6:=Lib.hid (own_below HO5.out hb6 (Nat.le_refl _));clear hb6
           by_cases he:e0=0
           ·subst he;have HN:Hid (casesM chk kind false cs []=casesM chk kind false (cs.drop (j+1)) (S++[ck])):=Lib.hid (by rw[HA3.out,if_neg (by simp)])
            rw[errV_zero];clear HA3
            go_wp2_with fail
            go_roundw
            case rel=>exact⟨j+1,by omega,by go_num,by rw[HTk.out];exact HO6.out,by rw[HTk.out];exact HN,HB6.out⟩
            case measure=>simp[intOf];omega
           ·have HN:Hid (casesM chk kind false cs []=e0):=Lib.hid (by rw[HA3.out,if_pos he])
            rw[errV_ne he];clear HA3
            go_wp2_with fail
            go_ret
            exact⟨by rw[HN.out,errV_ne he];rfl,HB6w.out⟩
         | false=>
           go_wp2_with fail
           refine HC5.out.mono ?_;clear HC5;rintro e w6 ⟨rfl,hb6⟩;have HB6:=Lib.hid (HB5.out.trans (hb6.mono hsz5));have HB6w:=Lib.hid (HB1.out.trans (HB6.out.mono HB1.out.size));have HO6:=Lib.hid (own_below HO5.out hb6 (Nat.le_refl _));clear hb6
           by_cases he:e0=0
           ·subst he;have HN:Hid (casesM chk kind false cs []=casesM chk kind false (cs.drop (j+1)) (S++[ck])):=Lib.hid (by rw[HA3.out,if_neg (by simp)])
            rw[errV_zero];clear HA3
            go_wp2_with fail
            go_roundw
            case rel=>exact⟨j+1,by omega,by go_num,by rw[HTk.out];exact HO6.out,by rw[HTk.out];exact HN,HB6.out⟩
            case measure=>simp[intOf];omega
           ·have HN:Hid (casesM chk kind false cs []=e0):=Lib.hid (by rw[HA3.out,if_pos he])
            rw[errV_ne he];clear HA3
            go_wp2_with fail
            go_ret
            exact⟨by rw[HN.out,errV_ne he];rfl,HB6w.out⟩
  ·obtain rfl:j=cs.length:=by omega
   have HCt:=Lib.hid (containsS_any ((cs.take cs.length).map (·.1)) (.slice OA ((cs.take cs.length).map (·.1)).length Oc) otherB 0 wr.heap.size wr (ListOk.strs_of_own HO.out (Nat.zero_le _) (Nat.le_refl _)) (by rw[htl];omega))
   have HN:Hid (casesM chk kind mark cs []=if((cs.take cs.length).map (·.1)).any (eqs · otherB)=true then 0 else 2):=Lib.hid (by rw[HNo.out,List.drop_length];rfl)
   rw[htl]at HCt ⊢;unfold otherB at *;generalize ((cs.take cs.length).map (·.1)).any (eqs · (⟨#[111,116,104,101,114]⟩:ByteArray))=X at *;clear hb HNo hown HO
   go_wp2_with fail
   refine HCt.out.mono ?_;clear HCt;rintro e w4 ⟨rfl,rfl⟩;cases X with
   | true=>
     have HE:Hid (casesM chk kind mark cs []=0):=Lib.hid (by rw[HN.out,if_pos rfl])
     clear HN
     go_wp2_with fail
     go_ret
     exact⟨by rw[HE.out];rfl,HBw.out⟩
   | false=>
     have HE:Hid (casesM chk kind mark cs []=2):=Lib.hid (by rw[HN.out,if_neg (by decide)])
     clear HN
     go_wp2_with fail
     go_ret
     exact⟨by rw[HE.out];rfl,HBw.out⟩
end Go.Proofs.YtpfmmbbggcghiaaGreatDoor
