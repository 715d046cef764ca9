/- Rows of tags that a call owns: each tag's variants in a block of their own. -/
import Derived.Deep.Upon
import Derived.Test.YtpfmmbbggcghiaaGreatDoorMsgC
import Derived.Stop.Asserts
set_option linter.unusedSimpArgs false
set_option linter.unusedVariables false
set_option maxHeartbeats 4000000
set_option maxRecDepth 100000
namespace Go.Proofs.YtpfmmbbggcghiaaGreatDoor
open Go.RowKit
section
variable {w w':World} {base base':Nat} {e:TypeId} {size:Nat} {v:Value} {n:Nat} {xs:List Value}
theorem own_keep (h:w.ownsRow base e size v n xs) (k:∀ g,v.ownBlock=some g→g < w.heap.size→w'.heap[g]? =w.heap[g]?):w'.ownsRow base e size v n xs:=by
 obtain⟨h1,h2|⟨g,cap,cur,hv,hb,hg,r⟩⟩:=h
 ·exact⟨h1,.inl h2⟩
 ·exact⟨h1,.inr ⟨g,cap,cur,hv,hb,(k g (by rw[hv];rfl) (Blk.lt (t:=e) (cs:=cur) hg)).trans hg,r⟩⟩
theorem own_lt (h:w.ownsRow base e size v n xs) {g:Nat} (hg:v.ownBlock=some g):base≤g∧g < w.heap.size:=by
 obtain⟨h1,⟨h2,_⟩|⟨g',cap,cur,hv,hb,hh,r⟩⟩:=h
 ·rw[h2]at hg;cases hg
 ·rw[hv]at hg;injection hg with hg;subst hg;exact⟨hb,Blk.lt (t:=e) (cs:=cur) hh⟩
theorem own_slice (h:w.ownsRow base e size v n xs):∃ A cap,v=.slice A n cap∧n≤cap:=by
 obtain⟨h1,⟨h2,h3⟩|⟨g',cap,cur,hv,hb,hh,hc,r⟩⟩:=h
 ·exact⟨none,0,by rw[h2,h3],by omega⟩
 ·exact⟨_,cap,hv,hc⟩
theorem own_below {B:Nat} (h:w.ownsRow base e size v n xs) (k:Below B w w') (hB:w.heap.size≤B):w'.ownsRow base e size v n xs:=
 own_keep h fun g _ hg=>k.block g (by omega)
theorem own_types {e':TypeId} {size' n':Nat} {v':Value} {xs':List Value} (h:w.ownsRow base e size v n xs) (h':w.ownsRow base' e' size' v' n' xs') (hne:e≠e') {g:Nat} (hg:v.ownBlock=some g):v'.ownBlock≠some g:=by
 intro hg';obtain⟨_,⟨h2,_⟩|⟨g1,cap,cur,hv,hb,hh,r⟩⟩:=h
 ·rw[h2]at hg;cases hg
 ·obtain⟨_,⟨h2',_⟩|⟨g2,cap',cur',hv',hb',hh',r'⟩⟩:=h'
  ·rw[h2']at hg';cases hg'
  ·rw[hv]at hg;injection hg with hg;subst hg;rw[hv']at hg';injection hg' with hg';subst hg';rw[hh]at hh';injection hh' with hh';injection hh' with _ hh';exact hne hh'
end
def tagCells (p:Tg×Value):List Value:=[.string p.1.lang,.string p.1.script,.string p.1.region,p.2]
def flatT (l:List (Tg×Value)):List Value:=l.flatMap tagCells
theorem flatT_at (l:List (Tg×Value)) (i:Nat) (h:i < l.length):((flatT l).drop (i*4)).take 4=tagCells l[i]:=by
 induction l generalizing i with
 | nil=>cases h
 | cons p l ih=>
   show((tagCells p++flatT l).drop (i*4)).take 4=_;cases i with
   | zero=>simp[tagCells]
   | succ i=>
     rw[show(i+1)*4=(tagCells p).length+i*4 from by simp[tagCells];omega,List.drop_append,List.drop_eq_nil_of_le (Nat.le_add_right _ _),Nat.add_sub_cancel_left]
     exact ih i (by simpa using h)
def VarRow (base:Nat) (w:World) (p:Tg×Value):Prop:=w.ownsRow base 9 1 p.2 p.1.vars.length (p.1.vars.map .string)
def Apart (a b:Tg×Value):Prop:=0 < b.1.vars.length→∀ g,a.2.ownBlock=some g→b.2.ownBlock≠some g
structure Rowed (base:Nat) (w:World) (u:Value) (ps:List (Tg×Value)):Prop where
 own:w.ownsRow base 44 4 u ps.length (flatT ps)
 vars:∀ p∈ps,VarRow base w p
 apart:ps.Pairwise Apart
def TagRow (base:Nat) (w:World) (u:Value) (l:List Tg):Prop:=∃ ps,ps.map Prod.fst=l∧Rowed base w u ps
theorem Rowed.keep {base:Nat} {w w':World} {u:Value} {ps:List (Tg×Value)} (h:Rowed base w u ps) (k:∀ g,base≤g→g < w.heap.size→w'.heap[g]? =w.heap[g]?):Rowed base w' u ps:=
 ⟨own_keep h.own fun g hg hlt=>k g (own_lt h.own hg).1 hlt,fun p hp=>own_keep (h.vars p hp) fun g hg hlt=>k g (own_lt (h.vars p hp) hg).1 hlt,h.apart⟩
theorem Rowed.below {base B:Nat} {w w':World} {u:Value} {ps:List (Tg×Value)} (h:Rowed base w u ps) (k:Below B w w') (hB:w.heap.size≤B):Rowed base w' u ps:=
 h.keep fun g _ hlt=>k.block g (by omega)
theorem VarRow.list {base lo hi:Nat} {w:World} {p:Tg×Value} (h:VarRow base w p) (hb:lo≤base) (hs:w.heap.size≤hi):ListOk Enc.str w lo hi p.2 p.1.vars:=ListOk.strs_of_own h hb hs
theorem Rowed.list {base lo hi:Nat} {w:World} {u:Value} {ps:List (Tg×Value)} (h:Rowed base w u ps) (hb:lo≤base) (hs:w.heap.size≤hi):ListOk Enc.tag w lo hi u (ps.map Prod.fst):=by
 have h1:=h.own;have e1:ps.length=(ps.map Prod.fst).length:=by simp
 rw[e1]at h1;refine ListOk.of_own (E:=Enc.tag) h1 hb hs fun i hl=> ?_;have hl':i < ps.length:=by simpa using hl
 refine⟨ps[i].2,?_,?_⟩
 ·rw[show Enc.tag.sz=4 from rfl,flatT_at ps i hl'];simp[tagCells]
 rw[List.getElem_map];exact(h.vars _ (List.getElem_mem hl')).list hb hs
theorem ListOk.drop {α:Type} {E:Enc α} {w:World} {lo hi:Nat} {b o n c:Nat} {l:List α} (h:ListOk E w lo hi (.slice (some ⟨b,o,none⟩) n c) l) (k:Nat) (hk:k≤l.length) (c':Nat) (hc':l.length - k≤c'):
 ListOk E w lo hi (.slice (some ⟨b,o+k*E.sz,none⟩) (l.length - k) c') (l.drop k):=by
 obtain⟨A',c1,hv,hc,hi⟩:=h;injection hv with hv1 hv2 hv3;subst hv1;have hl:(l.drop k).length=l.length - k:=by simp
 refine⟨_,c',by rw[hl],by omega,fun i h=> ?_⟩
 obtain⟨b',o',cs,hA,g1,g2,g3,g4⟩:=hi (k+i) (by omega)
 injection hA with hA;injection hA with e1 e2;subst e1;subst e2;refine⟨b,o+k*E.sz,cs,rfl,g1,g2,?_,by simpa using g4⟩
 rw[Nat.add_mul,←Nat.add_assoc]at g3;exact g3
theorem wpList_append_any {P:Program} {w:World} {ops:Array Oper} {rest:List Oper} {o:Oper} {a:Act} {Q:Exit→Act→World→Prop} (hgd:o.guard=none) (s x:Operand) (t:TypeId)
 (ho:o.op=.call { callee:=.builtin .append,args:=#[s,x],argTypes:=#[t,t] })
 (base:Nat) (e:TypeId) {z:Value} {size bytes:Nat} (ht:P.underlying t=some (.slice e)) (hi:(P.info? e).map (fun i=>(i.zero,i.size,i.bytes))=some (some z,size,bytes))
 (hzs:z.cells.size=size) (hsz:0 < size)
 {v:Value} {n:Nat} (xs:List Value) (hs:a.eval s=v) (hown:w.ownsRow base e size v n xs)
 {A:Option Addr} {m c:Nat} (news:List Value) (hx:a.eval x=.slice A m c) (hl:news.length=m*size)
 (hnews:m=0∨∃ b o,A=some ⟨b,o,none⟩∧∀ j u,news[j]? =some u→w.cell? ⟨b,o+j,none⟩=some u) (h1:∀ u∈news,u.oneCell'=true)
 (h63:n+m≤maxLen) (hbytes:(n+m)*bytes≤140737488355328) (hbase:base≤w.heap.size)
 (h:∀ v' w',w'.ownsRow base e size v' (n+m) (xs++news)→w.grownBy w' v.ownBlock→(v'.ownBlock=v.ownBlock∨v'.ownBlock=some w.heap.size)→wpList P ops Q rest (a.put o.dst v') w'):
 wpList P ops Q (o::rest) a w:=by
 obtain⟨i,hi,hz0,hz1,hz2⟩:=info_parts hi
 by_cases hm:m=0
 ·subst hm;have hnil:news=[]:=List.length_eq_zero_iff.1 (by omega)
  subst hnil;refine wpList_plain hgd fun K hK=> ?_;have hh:=h v w (by simpa using hown) (World.grownBy.refl _ _) (.inl rfl)
  obtain⟨B,cap,rfl,hcap⟩:=own_slice hown;have hS:Src P i.size t (.slice A 0 c) 0 [] w:=by
   cases A with
   | none=>exact Src.ofNil w ht c
   | some ad=>exact Src.ofSlice w ht ad 0 c [] (by simp) (fun j u hj=>by simp at hj) (fun u hu=>by cases hu)
  have hrun:=run_append_nothing (P:=P) w t t o.type e i ht hi B n cap hcap _ hS;unfold Oper.wp execOp;simp only[ho,resolve,invoke,builtin,Sem.run_bind,Sem.run_pure,Result.andThen_ok,List.map_toArray,List.map_cons,List.map_nil,hs,hx,hrun];exact hK _ _ hh
 ·rcases hnews with h0|⟨b,o',rfl,hc⟩
  ·exact absurd h0 hm
  refine wpList_append_own_at (P:=P) w hgd s x t ho base e i z size bytes ht hi hz0 hz1 hz2 hzs hsz v n xs hs hown ⟨b,o',none⟩ m c news hx hl (fun j u hj=> ?_) h1 h63 hbytes hbase fun v' w' p1 p2 _ p4=>h v' w' p1 p2 p4;have e1:((⟨b,o',none⟩:Addr).add j)=⟨b,o'+j,none⟩:=by
   unfold Addr.add
   by_cases h0:j=0
   ·rw[if_pos h0,h0];rfl
   ·rw[if_neg h0]
  rw[e1];exact hc j u hj
theorem own_nil {w:World} {base:Nat} {e:TypeId} {size:Nat}:w.ownsRow base e size (.slice none 0 0) 0 []:=⟨by simp,.inl ⟨rfl,rfl⟩⟩
theorem news_strs {w:World} {lo hi:Nat} {A:Option Addr} {c:Nat} {l:List ByteArray} (h:ListOk Enc.str w lo hi (.slice A l.length c) l):
 l.length=0∨∃ b o,A=some ⟨b,o,none⟩∧∀ j u,(l.map Value.string)[j]? =some u→w.cell? ⟨b,o+j,none⟩=some u:=by
 by_cases h0:l.length=0
 ·exact .inl h0
 ·obtain⟨b,o,rfl,_,_,_⟩:=h.strAt 0 (by omega)
  refine .inr ⟨b,o,rfl,fun j u hj=> ?_⟩;rw[List.getElem?_map]at hj;cases hq:l[j]? with
  | none=>rw[hq]at hj;cases hj
  | some y=>
    rw[hq]at hj;simp only[Option.map_some,Option.some.injEq]at hj;subst hj;obtain⟨hjl,rfl⟩:=List.getElem?_eq_some_iff.1 hq;obtain⟨b',o',he,_,_,hc⟩:=h.strAt j hjl;injection he with he;injection he with e1 e2;subst e1;subst e2;exact hc
theorem strs_oneCell (l:List ByteArray):∀ u∈l.map Value.string,u.oneCell'=true:=by
 intro u hu;obtain⟨y,_,rfl⟩:=List.mem_map.1 hu
 rfl
def smallF {β:Type} (S:β→Prop) (x:NdF β):Prop:=x.text.size≤1000000000∧x.cases.length≤10000000∧∀ c∈x.cases,c.1.size≤1000000000∧c.2.length≤10000000∧∀ y∈c.2,S y
def SmallN:(n:Nat)→Nd n→Prop
 | 0,_=>True
 | n+1,x=>smallF (SmallN n) x
structure MsgIn (n:Nat) (m:List (Nd n)):Prop where
 len:m.length≤10000000
 each:∀ x∈m,SmallN n x
theorem MsgIn.body {n:Nat} {m:List (Nd (n+1))} (h:MsgIn (n+1) m) {x:NdF (Nd n)} (hx:x∈(m:List (NdF (Nd n)))) {c:ByteArray×List (Nd n)} (hc:c∈x.cases):MsgIn n c.2:=by
 have h1:smallF (SmallN n) x:=h.each x hx;exact⟨(h1.2.2 c hc).2.1,(h1.2.2 c hc).2.2⟩
def sizeN:(n:Nat)→List (Nd n)→Nat→Int×Bool
 | 0,_,_=>(0,false)
 | n+1,m,d=>sizeG (sizeN n) (m:List (NdF (Nd n))) d
theorem empty_list:∀(m:List (Nd 0)),m=[]
 | []=>rfl
 | x::_=>(show Empty from x).elim
theorem sizeN_bound:(n:Nat)→(m:List (Nd n))→(d:Nat)→d≤6→MsgIn n m→0≤(sizeN n m d).1∧(sizeN n m d).1≤((7 - d:Nat):Int)*1000000000
 | 0,_,d,hd,_=>⟨by show(0:Int)≤0;omega,by show(0:Int)≤_;omega⟩
 | n+1,m,d,hd,hm=>by
   have h:=sizeG_bound (sizeN n) (d:=d) (G:=((7 - (d+1):Nat):Int)*1000000000) (by omega) (m:List (NdF (Nd n))) (fun h5 x hx c hc=>sizeN_bound n c.2 (d+1) (by omega) (hm.body hx hc)) (Nat.le_trans hm.len (by decide))
   have e:((7 - d:Nat):Int)=((7 - (d+1):Nat):Int)+1:=by omega
   refine⟨h.1,Int.le_trans h.2 ?_⟩;rw[e];omega
theorem size_any:(n:Nat)→(m:List (Nd n))→(d:Nat)→(v:Value)→(lo:Nat)→(w:World)→d≤6→MsgIn n m→ListOk (Enc.node n) w lo w.heap.size v m→
 Calls Tryz.prog 77 #[v,.int .i64 (d:Int)] w fun e w'=>e=.returned (.tuple #[.int .i64 (sizeN n m d).1,.bool (sizeN n m d).2])∧Below w.heap.size w w'
 | 0,m,d,v,lo,w,hd,hm,hv=>by
   obtain rfl:=empty_list m;obtain⟨A,c,rfl,_⟩:=hv.form;have h:=size_walk (E:=Enc.none_) Enc.none_laws (fun _ _=>(0,false)) ([]:List (NdF Empty)) d (.slice A 0 c) lo w hd (ListOk.nil c A) (Nat.zero_le _) (fun x hx=>by cases hx) (fun _ x hx=>by cases hx) (Lib.hid fun _ x hx=>by cases hx)
   have e:sizeG (fun(_:List Empty) (_:Nat)=>((0:Int),false)) ([]:List (NdF Empty)) d=(0,false):=by
    unfold sizeG;rw[if_neg (by simp)]
    rfl
   rw[e]at h;exact h
 | n+1,m,d,v,lo,w,hd,hm,hv=>by
   exact size_walk (E:=Enc.node n) (Enc.node_laws n) (sizeN n) (m:List (NdF (Nd n))) d v lo w hd hv (Nat.le_trans hm.len (by decide))
    (fun x hx=>by have h1:smallF (SmallN n) x:=hm.each x hx;have:=h1.2.1;omega)
    (fun h5 x hx c hc=>by
      have h:=sizeN_bound n c.2 (d+1) (by omega) (hm.body hx hc)
      exact⟨h.1,by have:((7 - (d+1):Nat):Int)≤7:=by omega
                   omega⟩)
    (Lib.hid fun h5 x hx c hc W V hW hV=>by
      have h:=size_any n c.2 (d+1) V lo W (by omega) (hm.body hx hc) hV
      exact h)
end Go.Proofs.YtpfmmbbggcghiaaGreatDoor
namespace Go.Proofs.YtpfmmbbggcghiaaGreatDoor
open Go.RowKit Go.Extern.Stop Go.Stop Go.Extern
set_option linter.unusedSimpArgs false
theorem valueOfP (t:Addr) (w:World):(ReflectliteValue.unpack (.iface 153 (.pointer (some t)))).run Tryz.prog w
 = .ok (.agg #[.pointer (some ⟨13,153,none⟩),.pointer (some ⟨w.heap.size,0,none⟩),.int .u64 150]) (w.alloc (.cells #[.pointer (some t)] 153)):=by kernel_rfl
theorem typeP (a:Addr) (w:World):(ReflectliteValue.methodAny (ReflectliteValue.valueError "reflectlite.Value.Type" 0) (fun t _ _ _=>ReflectliteType.toType t) #[.agg #[.pointer (some ⟨13,153,none⟩),.pointer (some a),.int .u64 150]]).run Tryz.prog w
 = .ok (.iface 263 (.agg #[.pointer (some ⟨13,153,none⟩)])) w:=by kernel_rfl
theorem methodKind (h:Value) (w:World):(Go.method 494 263 (.agg #[h]) "Kind").run Tryz.prog w=.ok (261,h) w:=by kernel_rfl
theorem kindP (w:World):((ReflectliteType.abiMethod fun t=>Functor.map (fun a:Nat=>Value.int IntKind.u8 (a:Int)) (Rtype.kind t)) #[.pointer (some ⟨13,153,none⟩)]).run Tryz.prog w=.ok (.int .u8 22) w:=by kernel_rfl
theorem kindE (w:World):((ReflectliteType.abiMethod fun t=>Functor.map (fun a:Nat=>Value.int IntKind.u8 (a:Int)) (Rtype.kind t)) #[.pointer (some ⟨13,35,none⟩)]).run Tryz.prog w=.ok (.int .u8 2) w:=by kernel_rfl
theorem rlm (z:Sem Value) (f:TypeId→Addr→Nat→Nat→Sem Value) (v:Value):
 ReflectliteValue.method z f #[v]=(do match ←ReflectliteValue.parts v with|none=>z|some (t,a,fl)=>f t a fl (fl % 32)):=rfl
theorem partsP (a:Addr) (w:World):(ReflectliteValue.parts (.agg #[.pointer (some ⟨13,153,none⟩),.pointer (some a),.int .u64 150])).run Tryz.prog w=.ok (some (153,a,150)) w:=by kernel_rfl
theorem isNilP (a p:Addr) (W:World) (ha:W.cell? a=some (.pointer (some p))):
 (ReflectliteValue.method (ReflectliteValue.valueError "reflectlite.Value.IsNil" 0) ReflectliteValue.isNil #[.agg #[.pointer (some ⟨13,153,none⟩),.pointer (some a),.int .u64 150]]).run Tryz.prog W=.ok (.bool false) W:=by
 rw[rlm];simp only[Sem.run_bind,partsP,Result.andThen];simp[ReflectliteValue.isNil,loadVar,isAgg,underlying,Tryz.underlying153,ha,Result.andThen]
theorem methodElem (h:Value) (w:World):(Go.method 494 263 (.agg #[h]) "Elem").run Tryz.prog w=.ok (273,.agg #[h]) w:=by kernel_rfl
theorem methodImplements (h:Value) (w:World):(Go.method 494 263 (.agg #[h]) "Implements").run Tryz.prog w=.ok (274,.agg #[h]) w:=by kernel_rfl
theorem methodAssignableTo (h:Value) (w:World):(Go.method 494 263 (.agg #[h]) "AssignableTo").run Tryz.prog w=.ok (271,.agg #[h]) w:=by kernel_rfl
theorem elemP (w:World):(ReflectliteType.method ReflectliteType.elem #[.agg #[.pointer (some ⟨13,153,none⟩)]]).run Tryz.prog w=.ok (.iface 263 (.agg #[.pointer (some ⟨13,35,none⟩)])) w:=by kernel_rfl
theorem implementsE (w:World):(ReflectliteType.relation "Implements" ReflectliteType.implements_ #[.agg #[.pointer (some ⟨13,35,none⟩)],.iface 263 (.agg #[.pointer (some ⟨13,27,none⟩)])]).run Tryz.prog w=.ok (.bool true) w:=by kernel_rfl
theorem typeOfE (v:Value) (w:World):(ReflectliteType.typeOf #[.iface 35 v]).run Tryz.prog w=.ok (.iface 263 (.agg #[.pointer (some ⟨13,35,none⟩)])) w:=by kernel_rfl
theorem assignableE (w:World):(ReflectliteType.relation "AssignableTo" ReflectliteType.assignableTo #[.agg #[.pointer (some ⟨13,35,none⟩)],.iface 263 (.agg #[.pointer (some ⟨13,35,none⟩)])]).run Tryz.prog w=.ok (.bool true) w:=by kernel_rfl
theorem valueOfE (n:Int) (w:World):(ReflectliteValue.unpack (.iface 35 (.int .i64 n))).run Tryz.prog w
 = .ok (.agg #[.pointer (some ⟨13,35,none⟩),.pointer (some ⟨w.heap.size,0,none⟩),.int .u64 130]) (w.alloc (.cells #[.int .i64 n] 35)):=by kernel_rfl
theorem elemOfP (w:World):(Rtype.elem? 153).run Tryz.prog w=.ok (some 35) w:=by kernel_rfl
theorem mkE (p:Addr) (w:World):(ReflectliteValue.mk 35 p ReflectliteValue.flagAddr).run Tryz.prog w=.ok (.agg #[.pointer (some ⟨13,35,none⟩),.pointer (some p),.int .u64 386]) w:=by kernel_rfl
theorem elemVP (a p:Addr) (W:World) (ha:W.cell? a=some (.pointer (some p))):
 (ReflectliteValue.method (ReflectliteValue.valueError "reflectlite.Value.Elem" 0) ReflectliteValue.elem #[.agg #[.pointer (some ⟨13,153,none⟩),.pointer (some a),.int .u64 150]]).run Tryz.prog W
   = .ok (.agg #[.pointer (some ⟨13,35,none⟩),.pointer (some p),.int .u64 386]) W:=by
 rw[rlm];simp only[Sem.run_bind,partsP,Result.andThen];simp[ReflectliteValue.elem,loadVar,isAgg,underlying,Tryz.underlying153,ha,Result.andThen,elemOfP,mkE]
theorem rls (v x:Value):ReflectliteValue.set #[v,x]=(do
 let (some (dst,a,fl),some (src,b,_)):=(←ReflectliteValue.parts v,←ReflectliteValue.parts x)
  | unsupported (.noEntry "extern/(internal/reflectlite.Value).Set.zeroValue")
 if fl / ReflectliteValue.flagAddr % 2 == 0 then unsupported (.noEntry "extern/(internal/reflectlite.Value).Set.unaddressable")
 let val ←loadVar src b
 if ←Rtype.directlyAssignable dst src then storeVar dst a val
 else if ←Rtype.implements dst src then
  if(←Rtype.kind src) == 20 then
   match val with
   | .nilIface=>unsupported (.noEntry "extern/reflectlite: a nil value of one interface type handed on as a value of another")
   | _=>storeVar dst a val
  else storeVar dst a (.iface src val)
 else panicString ("reflectlite.Set: value of type " ++ (←Rtype.spelt src) ++ " is not assignable to type " ++ (←Rtype.spelt dst))
 pure (.tuple #[])):=rfl
theorem partsEa (a:Addr) (w:World):(ReflectliteValue.parts (.agg #[.pointer (some ⟨13,35,none⟩),.pointer (some a),.int .u64 386])).run Tryz.prog w=.ok (some (35,a,386)) w:=by kernel_rfl
theorem partsE (a:Addr) (w:World):(ReflectliteValue.parts (.agg #[.pointer (some ⟨13,35,none⟩),.pointer (some a),.int .u64 130])).run Tryz.prog w=.ok (some (35,a,130)) w:=by kernel_rfl
theorem directE (w:World):(Rtype.directlyAssignable 35 35).run Tryz.prog w=.ok true w:=by kernel_rfl
theorem setE (ta b:Addr) (n:Int) (old:Value) (W:World) (hb:W.cell? b=some (.int .i64 n)) (ht:W.cell? ta=some old) (hf:W.frozen? ta=false):
 (ReflectliteValue.set #[.agg #[.pointer (some ⟨13,35,none⟩),.pointer (some ta),.int .u64 386],.agg #[.pointer (some ⟨13,35,none⟩),.pointer (some b),.int .u64 130]]).run Tryz.prog W
   = .ok (.tuple #[]) (W.setCell ta (.int .i64 n)):=by
 rw[rls];simp only[Sem.run_bind,partsEa,partsE,Result.andThen];simp[ReflectliteValue.flagAddr,loadVar,isAgg,underlying,Tryz.underlying35,hb,Result.andThen,directE,storeVar,Value.cells,storeCells,Addr.add];rw[run_store Tryz.prog W ta _ _ (by rfl)]
 simp[ht,hf]
def ErrVar (w:World):Prop:=w.cell? ⟨2,0,none⟩=some (.iface 263 (.agg #[.pointer (some ⟨13,27,none⟩)]))
theorem ErrVar.lt {w:World} (h:ErrVar w):2 < w.heap.size:=by
 unfold ErrVar World.cell? at h;cases ho:w.heap[2]? with
 | none=>simp[ho]at h
 | some o=>exact(Array.getElem?_eq_some_iff.1 ho).1
theorem ErrVar.below {w w':World} {B:Nat} (h:ErrVar w) (hb:Below B w w') (hB:2 < B):ErrVar w':=(hb.cell (p:=⟨2,0,none⟩) hB).trans h
theorem ErrVar.alloc {w:World} (h:ErrVar w) (o:Obj):ErrVar (w.alloc o):=h.below ((Below.refl w.heap.size w).alloc (Nat.le_refl _) o) h.lt
theorem as_hit (n:Int) (t:Addr) (old:Value) (w:World) (hg:ErrVar w) (ht0:w.cell? t=some old) (hf0:w.frozen? t=false) (htl:t.block < w.heap.size):
 Calls Tryz.prog 65 #[.iface 35 (.int .i64 n),.iface 153 (.pointer (some t))] w fun ev w'=>ev=.returned (.bool true)∧w'=((((w.alloc (.cells #[.pointer (some t)] 153)).alloc (.cells #[.pointer (some ⟨13,153,none⟩),.pointer (some ⟨w.heap.size,0,none⟩),.int .u64 150] 211)).alloc (.cells #[.pointer (some ⟨13,153,none⟩),.pointer (some ⟨w.heap.size,0,none⟩),.int .u64 150] 211)).alloc (.cells #[.int .i64 n] 35)).setCell t (.int .i64 n):=by
 have h6:=@run_callFunc_extern Tryz.prog 106 _ (fun args=>ReflectliteValue.unpack (args.getD 0 (.tuple #[]))) Tryz.func106 (by kernel_rfl) (by kernel_rfl) (by kernel_rfl) (by kernel_rfl)
 have h7:=@run_callFunc_extern Tryz.prog 107 _ (ReflectliteValue.methodAny (ReflectliteValue.valueError "reflectlite.Value.Type" 0) (fun t _ _ _=>ReflectliteType.toType t)) Tryz.func107 (by kernel_rfl) (by kernel_rfl) (by kernel_rfl) (by kernel_rfl)
 have h8:=@run_callFunc_extern Tryz.prog 108 _ (ReflectliteValue.method (ReflectliteValue.valueError "reflectlite.Value.IsNil" 0) ReflectliteValue.isNil) Tryz.func108 (by kernel_rfl) (by kernel_rfl) (by kernel_rfl) (by kernel_rfl)
 have h27:=@run_callFunc_extern Tryz.prog 261 _ (ReflectliteType.abiMethod fun t=>do pure (.int .u8 (←Rtype.kind t))) Tryz.func261 (by kernel_rfl) (by kernel_rfl) (by kernel_rfl) (by kernel_rfl)
 have h37:=@run_callFunc_extern Tryz.prog 273 _ (ReflectliteType.method ReflectliteType.elem) Tryz.func273 (by kernel_rfl) (by kernel_rfl) (by kernel_rfl) (by kernel_rfl)
 have h38:=@run_callFunc_extern Tryz.prog 274 _ (ReflectliteType.relation "Implements" ReflectliteType.implements_) Tryz.func274 (by kernel_rfl) (by kernel_rfl) (by kernel_rfl) (by kernel_rfl)
 have h10:=@run_callFunc_extern Tryz.prog 156 _ ReflectliteType.typeOf Tryz.func156 (by kernel_rfl) (by kernel_rfl) (by kernel_rfl) (by kernel_rfl)
 have h35:=@run_callFunc_extern Tryz.prog 271 _ (ReflectliteType.relation "AssignableTo" ReflectliteType.assignableTo) Tryz.func271 (by kernel_rfl) (by kernel_rfl) (by kernel_rfl) (by kernel_rfl)
 have h11:=@run_callFunc_extern Tryz.prog 157 _ (ReflectliteValue.method (ReflectliteValue.valueError "reflectlite.Value.Elem" 0) ReflectliteValue.elem) Tryz.func157 (by kernel_rfl) (by kernel_rfl) (by kernel_rfl) (by kernel_rfl)
 have h12:=@run_callFunc_extern Tryz.prog 158 _ ReflectliteValue.set Tryz.func158 (by kernel_rfl) (by kernel_rfl) (by kernel_rfl) (by kernel_rfl)
 have tO:=typeOfE;have mA:=methodAssignableTo;have a25:=assignableE;have v25:=valueOfE;have f6:=valueOfP;have f7:=typeP;have mK:=methodKind;have mE:=methodElem;have mI:=methodImplements;have k27:=kindP;have k25:=kindE;have e27:=elemP;have i25:=implementsE;have n8:=isNilP ⟨w.heap.size,0,none⟩ t ((w.alloc (.cells #[.pointer (some t)] 153)).alloc (.cells #[.pointer (some ⟨13,153,none⟩),.pointer (some ⟨w.heap.size,0,none⟩),.int .u64 150] 211)) (by simp)
 have hg2:ErrVar ((w.alloc (.cells #[.pointer (some t)] 153)).alloc (.cells #[.pointer (some ⟨13,153,none⟩),.pointer (some ⟨w.heap.size,0,none⟩),.int .u64 150] 211)):=(hg.alloc _).alloc _;unfold ErrVar at hg2 hg;have el:=elemVP ⟨w.heap.size,0,none⟩ t (((w.alloc (.cells #[.pointer (some t)] 153)).alloc (.cells #[.pointer (some ⟨13,153,none⟩),.pointer (some ⟨w.heap.size,0,none⟩),.int .u64 150] 211)).alloc (.cells #[.pointer (some ⟨13,153,none⟩),.pointer (some ⟨w.heap.size,0,none⟩),.int .u64 150] 211)) (by rw[World.cell?_alloc_lt _ _ ⟨w.heap.size,0,none⟩ (by simp;omega)];simp)
 have st:=setE t ⟨w.heap.size+1+1+1,0,none⟩ n old ((((w.alloc (.cells #[.pointer (some t)] 153)).alloc (.cells #[.pointer (some ⟨13,153,none⟩),.pointer (some ⟨w.heap.size,0,none⟩),.int .u64 150] 211)).alloc (.cells #[.pointer (some ⟨13,153,none⟩),.pointer (some ⟨w.heap.size,0,none⟩),.int .u64 150] 211)).alloc (.cells #[.int .i64 n] 35))
  (by rw[World.cell?_alloc_at _ _ _ _ (by simp)];rfl)
  (by rw[World.cell?_alloc_lt _ _ t (by simp;omega),World.cell?_alloc_lt _ _ t (by simp;omega),World.cell?_alloc_lt _ _ t (by simp;omega),World.cell?_alloc_lt _ _ t htl];exact ht0)
  (by rw[World.frozen?_alloc_old _ _ t (by simp;omega),World.frozen?_alloc_old _ _ t (by simp;omega),World.frozen?_alloc_old _ _ t (by simp;omega),World.frozen?_alloc_old _ _ t (Nat.ne_of_lt htl)];exact hf0)
 go_enter Tryz.func65,Tryz.ntmps65
 go_wp2
 refine wp_loop_rounds 1 ?_;rw[rounds_succ]
 go_wp2
 go_ret
 exact⟨rfl,rfl⟩
end Go.Proofs.YtpfmmbbggcghiaaGreatDoor
namespace Go.Proofs.YtpfmmbbggcghiaaGreatDoor
open Go.RowKit
theorem told_nil (w:World):Calls Tryz.prog 30 #[.nilIface] w fun e w'=>e=.returned (.int .i64 0)∧w=w':=by
 go_enter Tryz.func30,Tryz.ntmps30
 go_wp2_with fail
 go_ret
 exact⟨rfl,rfl⟩
theorem told_err (n:Int) (w:World) (hg:ErrVar w):Calls Tryz.prog 30 #[.iface 35 (.int .i64 n)] w fun e w'=>e=.returned (.int .i64 n)∧Below w.heap.size w w':=by
 have hA:Hid (Calls Tryz.prog 65 #[.iface 35 (.int .i64 n),.iface 153 (.pointer (some ⟨w.heap.size,0,none⟩))] (w.alloc (.cells #[.int .i64 0] 35)) fun ev w'=>ev=.returned (.bool true)∧w'.cell? ⟨w.heap.size,0,none⟩=some (.int .i64 n)∧Below w.heap.size w w'):=by
  refine(as_hit n ⟨w.heap.size,0,none⟩ (.int .i64 0) _ (hg.alloc _) (by simp) (by simp) (by simp)).mono ?_
  rintro e w' ⟨h1,h2⟩;refine⟨h1,?_,?_⟩
  ·rw[h2];refine World.cell?_setCell_same _ _ _ (u:=.int .i64 0) ?_;rw[World.cell?_alloc_lt _ _ _ (by simp;omega),World.cell?_alloc_lt _ _ _ (by simp;omega),World.cell?_alloc_lt _ _ _ (by simp;omega),World.cell?_alloc_lt _ _ _ (by simp)]
   simp
  ·rw[h2];refine Below.setCell ?_ (by simp) _
   repeat' (first|exact Below.refl _ _|(refine Below.alloc ?_ (by simp;try omega) _))
 go_enter Tryz.func30,Tryz.ntmps30
 go_wp2_with fail
 refine hA.out.mono ?_;rintro e w1 ⟨rfl,hc,hb⟩
 go_wp2_with fail
 go_ret
 exact⟨rfl,hb⟩
def errV (n:Int):Value:=if n=0 then .nilIface else .iface 35 (.int .i64 n)
theorem errV_zero:errV 0=.nilIface:=rfl
theorem errV_ne {n:Int} (h:n≠0):errV n=.iface 35 (.int .i64 n):=if_neg h
theorem told_any (n:Int) (w:World) (hg:ErrVar w):Calls Tryz.prog 30 #[errV n] w fun e w'=>e=.returned (.int .i64 n)∧Below w.heap.size w w':=by
 by_cases h:n=0
 ·subst h;exact(told_nil w).mono fun e w' ⟨h1,h2⟩=>⟨h1,h2 ▸ Below.refl _ _⟩
 ·rw[errV_ne h];exact told_err n w hg
theorem serror_any (n m:Int) (w:World) (hg:ErrVar w):Calls Tryz.prog 11 #[errV n,.int .i64 m] w fun e w'=>e=.returned (.bool (decide (n=m)))∧Below w.heap.size w w':=by
 have H:=Lib.hid (told_any n w hg);generalize errV n=v at H
 go_enter Tryz.func11,Tryz.ntmps11
 go_wp2_with fail
 refine H.out.mono ?_;rintro e w1 ⟨rfl,hb⟩
 go_wp2_with fail
 go_ret
 exact⟨ret_bool (by rw[Bool.eq_iff_iff];simp),hb⟩
theorem stold_any (n m:Int) (w:World) (hg:ErrVar w):Calls Tryz.prog 13 #[errV n,errV m] w fun e w'=>e=.returned (.bool (decide (n=m)))∧Below w.heap.size w w':=by
 have H:=Lib.hid (told_any n w hg);have H2:Hid (∀ w',Below w.heap.size w w'→Calls Tryz.prog 30 #[errV m] w' fun e w''=>e=.returned (.int .i64 m)∧Below w'.heap.size w' w''):=fun w' hb=>told_any m w' (hg.below hb hg.lt);generalize errV n=v at H;generalize errV m=u at H2
 go_enter Tryz.func13,Tryz.ntmps13
 go_wp2_with fail
 refine H.out.mono ?_;rintro e w1 ⟨rfl,hb⟩
 go_wp2_with fail
 refine(H2.out w1 hb).mono ?_;rintro e w2 ⟨rfl,hb2⟩
 go_wp2_with fail
 go_ret
 exact⟨ret_bool (by rw[Bool.eq_iff_iff];simp),hb.trans (hb2.mono hb.size)⟩
end Go.Proofs.YtpfmmbbggcghiaaGreatDoor
