/- Messages that a call made and writes into: a text, a body. -/
import Derived.Test.YtpfmmbbggcghiaaGreatDoorSepN
set_option linter.unusedSimpArgs false
set_option linter.unusedVariables false
namespace Go.Proofs.YtpfmmbbggcghiaaGreatDoor
open Go.RowKit
open Lib (hid)
theorem below_undrewC {B:Nat} {w w':World} (h:Below B w.drew w'):Below B w w':=⟨h.os,h.tape,h.output,h.size,h.block⟩
theorem own_at {W:World} {base:Nat} {e:TypeId} {size:Nat} {A:Option Addr} {n c:Nat} {xs:List Value} (h:W.ownsRow base e size (.slice A n c) n xs) (k:Nat) (hk:k < n*size):
 ∃ g,A=some ⟨g,0,none⟩∧base≤g∧g < W.heap.size∧W.cell? ⟨g,k,none⟩=xs[k]? ∧W.frozen? ⟨g,k,none⟩=false:=by
 obtain⟨hlen,⟨_,h0⟩|⟨g,cap,cur,hv,hb,hh,hc,hm,hcs,ht⟩⟩:=h
 ·subst h0;omega
 ·injection hv with hv1 _ hv3;refine⟨g,hv1,hb,Blk.lt (t:=e) (cs:=cur) hh,?_,Blk.frozen (t:=e) (cs:=cur) hh k⟩;rw[Blk.cell (t:=e) (cs:=cur) hh k,←ht,List.getElem?_take,if_pos hk,Array.getElem?_toList]
section
variable {β:Type}
end
structure PLaws {α:Type} (P:Nat→Nat→World→Value→α→Prop):Prop where
 keep:∀ {lo hi:Nat} {W W':World} {v:Value} {x:α},P lo hi W v x→(∀ g,lo≤g→g < hi→W'.heap[g]? =W.heap[g]?)→P lo hi W' v x
 mono:∀ {lo hi lo' hi':Nat} {W:World} {v:Value} {x:α},P lo hi W v x→lo'≤lo→hi≤hi'→P lo' hi' W v x
structure Prt (α:Type) where
 x:α
 u:Value
 s:Nat
 e:Nat
section
variable {α:Type} (cel:α→Value→List Value) (sz:Nat) (P:Nat→Nat→World→Value→α→Prop)
def RowOk (lo hi:Nat) (W:World) (v:Value) (l:List α):Prop:=
 ∃ A cap,v=.slice A l.length cap∧l.length≤cap∧∀ i (h:i < l.length),∃ b o u,A=some ⟨b,o,none⟩∧lo≤b∧b < hi∧(∀ j y,(cel l[i] u)[j]? =some y→W.cell? ⟨b,o+i*sz+j,none⟩=some y∧W.frozen? ⟨b,o+i*sz+j,none⟩=false)∧P lo hi W u l[i]
theorem RowOk.laws (hP:PLaws P):PLaws (RowOk cel sz P):=by
 constructor
 ·intro lo hi W W' v l h hk;obtain⟨A,cap,hv,hc,hi'⟩:=h;refine⟨A,cap,hv,hc,fun i hi=> ?_⟩;obtain⟨b,o,u,hA,h1,h2,h3,h4⟩:=hi' i hi;have hb:=hk b h1 h2;exact⟨b,o,u,hA,h1,h2,fun j y hj=>⟨(World.cell?_of_block (w:=W) hb).trans (h3 j y hj).1,(World.frozen?_of_block (w:=W) hb).trans (h3 j y hj).2⟩,hP.keep h4 hk⟩
 ·intro lo hi lo' hi' W v l h h1 h2;obtain⟨A,cap,hv,hc,hi''⟩:=h;refine⟨A,cap,hv,hc,fun i hi=> ?_⟩;obtain⟨b,o,u,hA,k1,k2,k3,k4⟩:=hi'' i hi;exact⟨b,o,u,hA,by omega,by omega,k3,hP.mono k4 h1 h2⟩
theorem RowOk.nil (lo hi:Nat) (W:World) (A:Option Addr) (c:Nat):RowOk cel sz P lo hi W (.slice A 0 c) ([]:List α):=⟨A,c,rfl,Nat.zero_le _,fun i hi=>by cases hi⟩
def flatW (l:List (Prt α)):List Value:=l.flatMap fun p=>cel p.x p.u
theorem flatW_snoc (l:List (Prt α)) (p:Prt α):flatW cel (l++[p])=flatW cel l++cel p.x p.u:=by simp[flatW]
theorem flatW_at (hz:∀ x u,(cel x u).length=sz):∀(l:List (Prt α)) (i:Nat) (h:i < l.length) (j:Nat),j < sz→(flatW cel l)[i*sz+j]? =(cel l[i].x l[i].u)[j]?
 | [],i,h,_,_=>by cases h
 | p::l,0,_,j,hj=>by
   show(cel p.x p.u++flatW cel l)[0*sz+j]? =_;rw[Nat.zero_mul,Nat.zero_add,List.getElem?_append_left (by rw[hz];exact hj)];rfl
 | p::l,i+1,h,j,hj=>by
   have ih:=flatW_at hz l i (by simpa using h) j hj
   show(cel p.x p.u++flatW cel l)[(i+1)*sz+j]? =_;rw[show(i+1)*sz+j=(cel p.x p.u).length+(i*sz+j)from by rw[hz,Nat.add_mul,Nat.one_mul];omega,List.getElem?_append_right (Nat.le_add_right _ _),Nat.add_sub_cancel_left]
   exact ih
structure Rws (t:TypeId) (base:Nat) (W:World) (out:Value) (xs:List (Prt α)):Prop where
 row:W.ownsRow base t sz out xs.length (flatW cel xs)
 part:∀ p∈xs,base≤p.s∧P p.s p.e W p.u p.x∧p.e≤W.heap.size∧away out p.s p.e
variable {cel sz P} {t:TypeId} {base:Nat} {W W' w7:World} {out out7:Value} {xs:List (Prt α)}
theorem Rws.nil:Rws cel sz P t base W (.slice none 0 0) []:=⟨own_nil,fun p hp=>(by cases hp)⟩
theorem Rws.keep (hP:PLaws P) (h:Rws cel sz P t base W out xs) (hk:∀ g,base≤g→g < W.heap.size→W'.heap[g]? =W.heap[g]?) (hs:W.heap.size≤W'.heap.size):Rws cel sz P t base W' out xs:=
 ⟨own_keep h.row fun g hg hl=>hk g (own_lt h.row hg).1 hl,fun p hp=>by
   obtain⟨h1,h2,h3,h4⟩:=h.part p hp;exact⟨h1,hP.keep h2 fun g g1 g2=>hk g (by omega) (by omega),by omega,h4⟩⟩
theorem Rws.push (hP:PLaws P) (h:Rws cel sz P t base W out xs) (p:Prt α) (h1:base≤p.s) (h2:P p.s p.e W p.u p.x) (h3:p.e≤W.heap.size) (h4:away out p.s p.e)
 (hg:W.grownBy w7 out.ownBlock) (hown:w7.ownsRow base t sz out7 (xs.length+1) (flatW cel xs++cel p.x p.u)) (ho:out7.ownBlock=out.ownBlock∨out7.ownBlock=some W.heap.size):Rws cel sz P t base w7 out7 (xs++[p]):=by
 have aw:∀ q:Prt α,base≤q.s→P q.s q.e W q.u q.x→q.e≤W.heap.size→away out q.s q.e→base≤q.s∧P q.s q.e w7 q.u q.x∧q.e≤w7.heap.size∧away out7 q.s q.e:=fun q k1 k2 k3 k4=>by
  refine⟨k1,hP.keep k2 fun g g1 g2=>hg.block g (by omega) fun e=> ?_,Nat.le_trans k3 hg.size,fun r hr=> ?_⟩
  ·have:=k4 g e.symm;omega
  ·rcases ho with ho|ho
   ·exact k4 r (by rw[←ho];exact hr)
   ·rw[ho]at hr;injection hr with hr;omega
 refine⟨by rw[flatW_snoc,List.length_append];exact hown,fun q hq=> ?_⟩
 rcases List.mem_append.1 hq with hq|hq
 ·obtain⟨k1,k2,k3,k4⟩:=h.part q hq;exact aw q k1 k2 k3 k4
 ·obtain rfl:=List.mem_singleton.1 hq;exact aw q h1 h2 h3 h4
theorem Rws.ok (hP:PLaws P) (hz:∀ x u,(cel x u).length=sz) (h:Rws cel sz P t base W out xs) {lo hi:Nat} (hb:lo≤base) (hs:W.heap.size≤hi):RowOk cel sz P lo hi W out (xs.map Prt.x):=by
 obtain⟨A,cap,rfl,hc⟩:=own_slice h.row;refine⟨A,cap,by rw[List.length_map],by rw[List.length_map];exact hc,fun i hi'=> ?_⟩
 have hl:i < xs.length:=by simpa using hi'
 obtain⟨k1,k2,k3,k4⟩:=h.part _ (List.getElem_mem hl);rw[List.getElem_map];rcases Nat.eq_zero_or_pos sz with h0|h0
 ·obtain⟨_,⟨_,h5⟩|⟨g,cap',cur,hv,hbb,hh,_⟩⟩:=h.row
  ·omega
  ·injection hv with hv1 _ _;refine⟨g,0,xs[i].u,hv1,by omega,Nat.lt_of_lt_of_le (Blk.lt (t:=t) (cs:=cur) hh) hs,fun j y hj=> ?_,hP.mono k2 (by omega) (by omega)⟩
   have:=hz xs[i].x xs[i].u;have hjl:=(List.getElem?_eq_some_iff.1 hj).1;omega
 ·have hlt:i*sz+0 < xs.length*sz:=by
   have:=Nat.mul_lt_mul_of_pos_right hl h0;omega
  obtain⟨g,hA,g1,g2,_,_⟩:=own_at h.row (i*sz+0) hlt;refine⟨g,0,xs[i].u,hA,by omega,by omega,fun j y hj=> ?_,hP.mono k2 (by omega) (by omega)⟩
  have hjz:j < sz:=by rw[←hz xs[i].x xs[i].u];exact(List.getElem?_eq_some_iff.1 hj).1
  have hjl:i*sz+j < xs.length*sz:=by
   have h5:(i+1)*sz≤xs.length*sz:=Nat.mul_le_mul_right _ hl;rw[Nat.add_mul,Nat.one_mul]at h5;omega
  obtain⟨g',hA',_,_,hc',hf'⟩:=own_at h.row (i*sz+j) hjl;rw[hA]at hA';injection hA' with hA';injection hA' with hA';subst hA';rw[Nat.zero_add];exact⟨by rw[hc',flatW_at cel sz hz xs i hl j hjz];exact hj,hf'⟩
end
section
variable {β:Type}
def nodC (x:NdF β) (u:Value):List Value:=[.int .i64 x.kind,.string x.text,.int .i64 x.off,u]
def casC (c:ByteArray×List β) (u:Value):List Value:=[.string c.1,u]
theorem nodC_len (x:NdF β) (u:Value):(nodC x u).length=4:=rfl
theorem casC_len (c:ByteArray×List β) (u:Value):(casC c u).length=2:=rfl
def MkB (M:Nat→Nat→World→Value→List β→Prop):Nat→Nat→World→Value→(ByteArray×List β)→Prop:=fun lo hi W u c=>M lo hi W u c.2
def MkC (M:Nat→Nat→World→Value→List β→Prop):Nat→Nat→World→Value→NdF β→Prop:=fun lo hi W u x=>RowOk casC 2 (MkB M) lo hi W u x.cases
theorem mkB_laws {M:Nat→Nat→World→Value→List β→Prop} (h:PLaws M):PLaws (MkB M):=⟨fun k e=>h.keep k e,fun k a b=>h.mono k a b⟩
theorem mkC_laws {M:Nat→Nat→World→Value→List β→Prop} (h:PLaws M):PLaws (MkC M):=⟨fun k e=>(RowOk.laws casC 2 _ (mkB_laws h)).keep k e,fun k a b=>(RowOk.laws casC 2 _ (mkB_laws h)).mono k a b⟩
abbrev MkM (M:Nat→Nat→World→Value→List β→Prop):Nat→Nat→World→Value→List (NdF β)→Prop:=RowOk nodC 4 (MkC M)
theorem mkM_laws {M:Nat→Nat→World→Value→List β→Prop} (h:PLaws M):PLaws (MkM M):=RowOk.laws nodC 4 _ (mkC_laws h)
theorem MkC.list {E:Enc β} {M:Nat→Nat→World→Value→List β→Prop} (hM:∀ {lo hi W v l},M lo hi W v l→ListOk E W lo hi v l) {lo hi:Nat} {W:World} {u:Value} {x:NdF β} (h:MkC M lo hi W u x):ListOk (Enc.cas E) W lo hi u x.cases:=by
 obtain⟨A,cap,hv,hc,hi'⟩:=h;refine⟨A,cap,hv,hc,fun i hi=> ?_⟩;obtain⟨b,o,u',hA,h1,h2,h3,h4⟩:=hi' i hi;exact⟨b,o,casC x.cases[i] u',hA,h1,h2,fun j y hj=>(h3 j y hj).1,u',rfl,hM h4⟩
theorem MkM.list {E:Enc β} {M:Nat→Nat→World→Value→List β→Prop} (hM:∀ {lo hi W v l},M lo hi W v l→ListOk E W lo hi v l) {lo hi:Nat} {W:World} {v:Value} {m:List (NdF β)} (h:MkM M lo hi W v m):ListOk (Enc.nodeF E) W lo hi v m:=by
 obtain⟨A,cap,hv,hc,hi'⟩:=h;refine⟨A,cap,hv,hc,fun i hi=> ?_⟩;obtain⟨b,o,u',hA,h1,h2,h3,h4⟩:=hi' i hi;exact⟨b,o,nodC m[i] u',hA,h1,h2,fun j y hj=>(h3 j y hj).1,u',rfl,MkC.list hM h4⟩
end
def MkN:(n:Nat)→Nat→Nat→World→Value→List (Nd n)→Prop
 | 0=>fun _ _ _ v m=>∃ A c,v=.slice A m.length c
 | n+1=>fun lo hi W v m=>MkM (MkN n) lo hi W v (m:List (NdF (Nd n)))
theorem mkN_laws:(n:Nat)→PLaws (MkN n)
 | 0=>⟨fun h _=>h,fun h _ _=>h⟩
 | n+1=>⟨fun h k=>(mkM_laws (mkN_laws n)).keep h k,fun h a b=>(mkM_laws (mkN_laws n)).mono h a b⟩
theorem MkN.list:(n:Nat)→ {lo hi:Nat}→ {W:World}→ {v:Value}→ {m:List (Nd n)}→MkN n lo hi W v m→ListOk (Enc.node n) W lo hi v m
 | 0,lo,hi,W,v,m,h=>by
   obtain⟨A,c,rfl⟩:=h;obtain rfl:=empty_list m;exact ListOk.nil c A
 | n+1,lo,hi,W,v,m,h=>MkM.list (E:=Enc.node n) (M:=MkN n) (fun h=>MkN.list n h) h
theorem MkN.form:(n:Nat)→ {lo hi:Nat}→ {W:World}→ {v:Value}→ {m:List (Nd n)}→MkN n lo hi W v m→∃ A c,v=.slice A m.length c
 | 0,_,_,_,_,_,h=>h
 | _+1,_,_,_,_,_,⟨A,c,hv,_,_⟩=>⟨A,c,hv⟩
theorem info_caseR:(Tryz.prog.info? 189).map (fun i=>(i.zero,i.size,i.bytes))=some (some (.agg #[.string ByteArray.empty,.slice none 0 0]),2,40):=by kernel_rfl
theorem info_nodeR:(Tryz.prog.info? 126).map (fun i=>(i.zero,i.size,i.bytes))=some (some (.agg #[.int .i64 0,.string ByteArray.empty,.int .i64 0,.slice none 0 0]),4,56):=by kernel_rfl
theorem news_of (W:World) (cs:List Value) (t:TypeId):∀ q u,cs[q]? =some u→(W.alloc (.cells cs.toArray t)).cell? ⟨W.heap.size,0+q,none⟩=some u:=fun q u hq=>by
 rw[Nat.zero_add,(Blk.new W t cs.toArray).cell q];simpa using hq
def ReadR {α:Type} (ok:Nat→Nat→World→Value→α→Prop) (k:Nat) (d:Int) (o:Option (α×List UInt8)) (w:World) (e:Ending) (w':World):Prop:=
 FrK k w w'∧match o with
  | none=>e=.panicked formP∧∃ l' d',Rdr w' k l' d'
  | some p=>∃ v,e=.returned v∧Rdr w' k p.2 d∧ok w.heap.size w'.heap.size w' v p.1
theorem readR_none {α:Type} {ok:Nat→Nat→World→Value→α→Prop} {k:Nat} {d d':Int} {o:Option (α×List UInt8)} {w w':World} {l:List UInt8} (ho:o=none) (hF:FrK k w w') (hR:Rdr w' k l d'):ReadR ok k d o w (.panicked formP) w':=by
 subst ho;exact⟨hF,rfl,_,_,hR⟩
theorem readR_some {α:Type} {ok:Nat→Nat→World→Value→α→Prop} {k:Nat} {d:Int} {o:Option (α×List UInt8)} {p:α×List UInt8} {w w':World} {v:Value} (ho:o=some p) (hF:FrK k w w') (hR:Rdr w' k p.2 d) (hv:ok w.heap.size w'.heap.size w' v p.1):ReadR ok k d o w (.returned v) w':=by
 subst ho;exact⟨hF,v,rfl,hR,hv⟩
def appX {α γ:Type} (a:List α) (p:List α×γ):List α×γ:=(a++p.1,p.2)
section
variable {β:Type} {rd:Bool→List UInt8→Option (List β×List UInt8)} {mark:Bool} {n:Nat} {l:List UInt8}
theorem casesL_end {r:List UInt8} (h:cutL [125] l=some r):casesL rd mark (n+1) l=some ([],r):=by
 unfold casesL;rw[h]
theorem casesL_go (h:cutL [125] l=none):casesL rd mark (n+1) l=(cas1L rd mark l).bind fun p=>(casesL rd mark n p.2).map fun q=>(p.1::q.1,q.2):=by
 rw[casesL];rw[h]
theorem cas1L_1 (h:cutL [32] l=none):cas1L rd mark l=none:=by unfold cas1L;rw[h];rfl
theorem cas1L_2 {r1:List UInt8} (h:cutL [32] l=some r1) (h2:wordL [32] r1=none):cas1L rd mark l=none:=by
 unfold cas1L;rw[h,Option.bind_some,h2];rfl
theorem cas1L_3 {r1:List UInt8} {kw:List UInt8×List UInt8} (h:cutL [32] l=some r1) (h2:wordL [32] r1=some kw) (h3:cutL [32,123] kw.2=none):cas1L rd mark l=none:=by
 unfold cas1L;rw[h,Option.bind_some,h2,Option.bind_some,h3];rfl
theorem cas1L_4 {r1 r3:List UInt8} {kw:List UInt8×List UInt8} (h:cutL [32] l=some r1) (h2:wordL [32] r1=some kw) (h3:cutL [32,123] kw.2=some r3) (h4:rd mark r3=none):cas1L rd mark l=none:=by
 unfold cas1L;rw[h,Option.bind_some,h2,Option.bind_some,h3,Option.bind_some,h4];rfl
theorem cas1L_5 {r1 r3:List UInt8} {kw:List UInt8×List UInt8} {b:List β×List UInt8} (h:cutL [32] l=some r1) (h2:wordL [32] r1=some kw) (h3:cutL [32,123] kw.2=some r3) (h4:rd mark r3=some b) (h5:cutL [125] b.2=none):cas1L rd mark l=none:=by
 unfold cas1L;rw[h,Option.bind_some,h2,Option.bind_some,h3,Option.bind_some,h4,Option.bind_some,h5];rfl
theorem cas1L_6 {r1 r3 r5:List UInt8} {kw:List UInt8×List UInt8} {b:List β×List UInt8} (h:cutL [32] l=some r1) (h2:wordL [32] r1=some kw) (h3:cutL [32,123] kw.2=some r3) (h4:rd mark r3=some b) (h5:cutL [125] b.2=some r5):cas1L rd mark l=some ((str kw.1,b.1),r5):=by
 unfold cas1L;rw[h,Option.bind_some,h2,Option.bind_some,h3,Option.bind_some,h4,Option.bind_some,h5];rfl
end
def ChildOk {β:Type} (M:Nat→Nat→World→Value→List β→Prop) (rd:Bool→List UInt8→Option (List β×List UInt8)) (k:Nat) (d:Int):Prop:=
 (∀ mark l b r,rd mark l=some (b,r)→r.length≤l.length)∧∀(mark:Bool) (l:List UInt8) (W:World),Rdr W k l d→l.length≤2000→Calls Tryz.prog 38 #[.pointer (some ⟨k,0,none⟩),.bool mark] W fun e w'=>ReadR M k d (rd mark l) W e w'
set_option maxHeartbeats 6400000 in
set_option maxRecDepth 100000 in
theorem rcases_walk {β:Type} {M:Nat→Nat→World→Value→List β→Prop} (hM:PLaws M) (rd:Bool→List UInt8→Option (List β×List UInt8)) (k:Nat) (d:Int) (mark:Bool) (l:List UInt8) (w:World) (h:Rdr w k l d) (hl:l.length≤2000) (HC:Hid (ChildOk M rd k d)) (HUn:Hid (∀ lo hi W v b,M lo hi W v b→∃ A c,v=.slice A b.length c)):
 Calls Tryz.prog 122 #[.pointer (some ⟨k,0,none⟩),.bool mark] w fun e w'=>ReadR (RowOk casC 2 (MkB M)) k d (csL rd mark l) w e w':=by
 have hk:=h.lt;obtain⟨Q,hQ⟩:∃ Q,Q=csL rd mark l:=⟨_,rfl⟩;rw[←hQ];have HQ:=hid hQ;have H0:=hid h;have HLaw:=hid (mkB_laws hM);clear hQ h
 go_enter Tryz.func122,Tryz.ntmps122
 go_wp2_with fail
 go_loopg [5,6] l.length (fun g o _ wr=>∃(l':List UInt8) (n:Nat) (xs:List (Prt (ByteArray×List β))),l'.length=g∧Hid (Q=(casesL rd mark (n+1) l').map (appX (xs.map Prt.x))∧l'.length≤n∧xs.length+l'.length≤2000)∧Rdr wr k l' d∧FrK k w wr∧Rws casC 2 (MkB M) 189 w.heap.size wr o xs)
 case atStart=>exact⟨l,l.length,[],rfl,hid ⟨by rw[HQ.out];show casesL rd mark (l.length+1) l=_;cases casesL rd mark (l.length+1) l <;> rfl,Nat.le_refl _,by simpa using hl⟩,H0.out,Fr.refl _ _,Rws.nil⟩
 case round=>
  clear H0 HQ;obtain⟨l',n,xs,rfl,HI,hR,hF,hX⟩:=hrel;obtain⟨wo,rfl⟩:∃ wo:World,wo=wr:=⟨_,rfl⟩;have HX:=hid hX;have HF:=hid hF;have hs0:=hF.size;obtain⟨OA,Oc,rfl,_⟩:=own_slice hX.row;have hlx:xs.length+l'.length≤2000:=HI.out.2.2;have hln:l'.length≤n:=HI.out.2.1;have HCut:Hid (Calls Tryz.prog 75 #[.pointer (some ⟨k,0,none⟩),.string ⟨#[125]⟩] wo fun e w'=>e=.returned (.bool (cutL [125] l').isSome)∧Rdr w' k ((cutL [125] l').getD l') d∧FrK k wo w'):=hid (cut_any k l' d ⟨#[125]⟩ wo hR);clear hR hF hX;cases ho:cutL [125] l' with
  | some r=>
    rw[ho]at HCut;have HE:Hid (Q=some (xs.map Prt.x,r)):=hid (by rw[HI.out.1,casesL_end ho];show some _=some _;simp[appX])
    clear HI ho
    go_wp2_with fail
    refine HCut.out.mono ?_;clear HCut;rintro e w1 ⟨rfl,hR1,hF1⟩;have HR1:=hid (And.intro hR1 (HF.out.trans hF1));have hkp:∀ g,w.heap.size≤g→g < wo.heap.size→w1.heap[g]? =wo.heap[g]? :=fun g g1 g2=>hF1.block g g2 (by show ¬ g=k;omega)
    have HX1:=hid (HX.out.keep HLaw.out hkp hF1.size);clear hR1 hF1 hkp
    go_wp2_with fail
    go_ret
    exact readR_some HE.out HR1.out.2 HR1.out.1 (HX1.out.ok HLaw.out casC_len (Nat.le_refl _) (Nat.le_refl _))
  | none=>
    rw[ho]at HCut;have HI2:=hid (HI.out.1.trans (by rw[casesL_go ho]))
    clear HI ho
    go_wp2_with fail
    refine HCut.out.mono ?_;clear HCut;rintro e w1 ⟨rfl,hR1,hF1⟩;have hR1:Rdr w1 k l' d:=hR1;have HF1:=hid (HF.out.trans hF1);have HW1:=hid hF1;have HN1:Hid (Calls Tryz.prog 123 #[.pointer (some ⟨k,0,none⟩),.string ⟨#[32]⟩] w1 fun e w'=>NeedR k d l' (cutL [32] l') w1 e w'):=hid (need_any k l' d ⟨#[32]⟩ w1 hR1);clear hR1 hF1;cases h1:cutL [32] l' with
    | none=>
      rw[h1]at HN1;have HE:Hid (Q=none):=hid (by rw[HI2.out,cas1L_1 h1];rfl)
      clear HI2 h1
      go_wp2_with fail
      refine HN1.out.mono ?_;clear HN1;rintro e w2 ⟨hF2,rfl,hR2⟩;have HR2:=hid (And.intro hR2 (HF1.out.trans hF2));clear hR2 hF2
      go_wp2_with fail
      exact⟨rfl,readR_none HE.out HR2.out.2 HR2.out.1⟩
    | some r1=>
      rw[h1]at HN1;have hc1:=cutL_len h1;simp only[List.length_cons,List.length_nil]at hc1
      go_wp2_with fail
      refine HN1.out.mono ?_;clear HN1;rintro e w2 ⟨hF2,rfl,hR2⟩;have HF2:=hid (HF1.out.trans hF2);have HW2:=hid (HW1.out.trans hF2);have HWd:Hid (Calls Tryz.prog 121 #[.pointer (some ⟨k,0,none⟩),.string ⟨#[32]⟩] w2 fun e w'=>WordR k d r1 (wordL [32] r1) w2 e w'):=hid (word_any k r1 d ⟨#[32]⟩ w2 hR2 (by omega) idx_one)
      clear hR2 hF2 HF1 HW1;cases h2:wordL [32] r1 with
      | none=>
        rw[h2]at HWd;have HE:Hid (Q=none):=hid (by rw[HI2.out,cas1L_2 h1 h2];rfl)
        clear HI2 h1 h2
        go_wp2_with fail
        refine HWd.out.mono ?_;clear HWd;rintro e w3 ⟨hF3,rfl,hR3⟩;have HR3:=hid (And.intro hR3 (HF2.out.trans hF3));clear hR3 hF3
        go_wp2_with fail
        exact⟨rfl,readR_none HE.out HR3.out.2 HR3.out.1⟩
      | some kw=>
        rw[h2]at HWd;have hc2:=wordL_len h2
        go_wp2_with fail
        refine HWd.out.mono ?_;clear HWd;rintro e w3 ⟨hF3,rfl,hR3⟩;obtain⟨W4,eW4⟩:∃ W4,W4=w3.alloc (.cells #[.string (str kw.1),.slice none 0 0] 189):=⟨_,rfl⟩;have hb34:Below w3.heap.size w3 W4:=by rw[eW4];exact(Below.refl _ _).alloc (Nat.le_refl _) _
        have hC4:Blk W4 w3.heap.size 189 #[.string (str kw.1),.slice none 0 0]:=by rw[eW4];exact Blk.new _ _ _
        have hw3:wo.heap.size≤w3.heap.size:=Nat.le_trans HW2.out.size hF3.size;have HC4:=hid hC4;have HF4:=hid ((HF2.out.trans hF3).then_below hb34);have HW4:=hid ((HW2.out.trans hF3).then_below hb34);have EW4:=hid eW4;have HN4:Hid (Calls Tryz.prog 123 #[.pointer (some ⟨k,0,none⟩),.string ⟨#[32,123]⟩] W4 fun e w'=>NeedR k d kw.2 (cutL [32,123] kw.2) W4 e w'):=hid (need_any k kw.2 d ⟨#[32,123]⟩ W4 (hR3.on hb34));clear hR3 hF3 hb34 hC4 eW4 HF2 HW2;cases h3:cutL [32,123] kw.2 with
        | none=>
          rw[h3]at HN4;have HE:Hid (Q=none):=hid (by rw[HI2.out,cas1L_3 h1 h2 h3];rfl)
          clear HI2 h1 h2 h3
          go_wp2_with fail
          rw[←EW4.out];refine HN4.out.mono ?_;clear HN4;rintro e w5 ⟨hF5,rfl,hR5⟩;have HR5:=hid (And.intro hR5 (HF4.out.trans hF5));clear hR5 hF5
          go_wp2_with fail
          exact⟨rfl,readR_none HE.out HR5.out.2 HR5.out.1⟩
        | some r3=>
          rw[h3]at HN4;have hc3:=cutL_len h3;simp only[List.length_cons,List.length_nil]at hc3
          go_wp2_with fail
          rw[←EW4.out];refine HN4.out.mono ?_;clear HN4;rintro e w5 ⟨hF5,rfl,hR5⟩;have hne5:¬ w3.heap.size=k:=by omega
          have HF5:=hid (HF4.out.trans hF5);have HW5:=hid (HW4.out.trans hF5);have HC5:=hid (HC4.out.fr hF5 hne5);have HMs:=hid (HC.out.2 mark r3 w5 hR5 (by omega))
          have hl4:=HC.out.1 mark r3;have hw5:w3.heap.size < w5.heap.size:=HC5.out.lt;clear hR5 hF5 EW4 HF4 HW4 HC4;cases h4:rd mark r3 with
          | none=>
            rw[h4]at HMs;have HE:Hid (Q=none):=hid (by rw[HI2.out,cas1L_4 h1 h2 h3 h4];rfl)
            clear HI2 h1 h2 h3 h4 hl4
            go_wp2_with fail
            refine HMs.out.mono ?_;clear HMs;rintro e w6 ⟨hF6,rfl,l6,d6,hR6⟩;have HR6:=hid (And.intro hR6 (HF5.out.trans hF6));clear hR6 hF6
            go_wp2_with fail
            exact⟨rfl,readR_none HE.out HR6.out.2 HR6.out.1⟩
          | some b=>
            rw[h4]at HMs;have hc4:=hl4 b.1 b.2 h4;clear hl4
            go_wp2_with fail
            refine HMs.out.mono ?_;clear HMs;rintro e w6 ⟨hF6,u,rfl,hR6,hM6⟩;obtain⟨UA,Uc,rfl⟩:=HUn.out _ _ _ _ _ hM6;have hC6:=HC5.out.fr hF6 hne5;have x1:=(hC6.cell 1).trans (show _=some (.slice none 0 0)from rfl);have f1:=hC6.frozen 1;have hw6:w5.heap.size≤w6.heap.size:=hF6.size;obtain⟨W7,eW7⟩:∃ W7,W7=w6.setCell ⟨w3.heap.size,1,none⟩ (.slice UA b.1.length Uc):=⟨_,rfl⟩;have hz7:W7.heap.size=w6.heap.size:=by rw[eW7];simp[World.setCell]
            have HC7:Hid (Blk W7 w3.heap.size 189 #[.string (str kw.1),(.slice UA b.1.length Uc)]):=hid (by rw[eW7];exact hC6.set_ 1 (.slice UA b.1.length Uc))
            have HF7:Hid (FrK k w W7):=hid (by rw[eW7];exact(HF5.out.trans hF6).setCell (p:=⟨w3.heap.size,1,none⟩) (.inr (by show w.heap.size≤w3.heap.size;omega)) (.slice UA b.1.length Uc))
            have HW7:Hid (FrK k wo W7):=hid (by rw[eW7];exact(HW5.out.trans hF6).setCell (p:=⟨w3.heap.size,1,none⟩) (.inr (by show wo.heap.size≤w3.heap.size;omega)) (.slice UA b.1.length Uc))
            have hR7:Rdr W7 k b.2 d:=by rw[eW7];exact Blk.far (t:=94) hR6 (p:=⟨w3.heap.size,1,none⟩) (fun e=>hne5 e.symm) (.slice UA b.1.length Uc)
            have HM7:Hid (M w5.heap.size w6.heap.size W7 (.slice UA b.1.length Uc) b.1):=hid (hM.keep hM6 fun g g1 g2=>by rw[eW7];exact Below.heap_setCell _ _ _ _ (by show g≠w3.heap.size;omega))
            have EW7:=hid eW7;have HN7:Hid (Calls Tryz.prog 123 #[.pointer (some ⟨k,0,none⟩),.string ⟨#[125]⟩] W7 fun e w'=>NeedR k d b.2 (cutL [125] b.2) W7 e w'):=hid (need_any k b.2 d ⟨#[125]⟩ W7 hR7);clear hR6 hF6 hM6 hC6 hR7 eW7 HF5 HW5 HC5;cases h5:cutL [125] b.2 with
            | none=>
              rw[h5]at HN7;have HE:Hid (Q=none):=hid (by rw[HI2.out,cas1L_5 h1 h2 h3 h4 h5];rfl)
              clear HI2 h1 h2 h3 h4 h5
              go_wp2_with fail
              rw[←EW7.out];refine HN7.out.mono ?_;clear HN7;rintro e w8 ⟨hF8,rfl,hR8⟩;have HR8:=hid (And.intro hR8 (HF7.out.trans hF8));clear hR8 hF8
              go_wp2_with fail
              exact⟨rfl,readR_none HE.out HR8.out.2 HR8.out.1⟩
            | some r5=>
              rw[h5]at HN7;have hc5:=cutL_len h5;simp only[List.length_cons,List.length_nil]at hc5;have hn1:1≤n:=by omega
              obtain⟨n',rfl⟩:∃ n',n=n'+1:=⟨n - 1,by omega⟩
              have HI3:Hid (Q=(casesL rd mark (n'+1) r5).map (appX ((xs++[(⟨(str kw.1,b.1),(.slice UA b.1.length Uc),w5.heap.size,w6.heap.size⟩:Prt (ByteArray×List β))]).map Prt.x))∧r5.length≤n'∧(xs++[(⟨(str kw.1,b.1),(.slice UA b.1.length Uc),w5.heap.size,w6.heap.size⟩:Prt (ByteArray×List β))]).length+r5.length≤2000):=hid ⟨by
               rw[HI2.out,cas1L_6 h1 h2 h3 h4 h5,Option.bind_some];cases casesL rd mark (n'+1) r5 with
               | none=>rfl
               | some q=>show some _=some _;simp[appX],by omega,by rw[List.length_append];simp;omega⟩
              clear HI2 h1 h2 h3 h4 h5
              go_wp2_with fail
              rw[←EW7.out];refine HN7.out.mono ?_;clear HN7;rintro e w8 ⟨hF8,rfl,hR8⟩;have hC8:=HC7.out.fr hF8 hne5;have y0:=(hC8.cell 0).trans (show _=some (.string (str kw.1))from rfl);have y1:=(hC8.cell 1).trans (show _=some (.slice UA b.1.length Uc)from rfl);have hs8:W7.heap.size≤w8.heap.size:=hF8.size;have hW8:=HW7.out.trans hF8;have HF8:=hid (HF7.out.trans hF8);have HR8:=hid hR8;have HX8:=hid (HX.out.keep (W':=w8) HLaw.out (fun g g1 g2=>hW8.block g g2 (by show ¬ g=k;omega)) hW8.size)
              have HM8:Hid (M w5.heap.size w6.heap.size w8 (.slice UA b.1.length Uc) b.1):=hid (hM.keep HM7.out fun g g1 g2=>hF8.block g (by omega) (by show ¬ g=k;omega))
              obtain⟨W9,eW9⟩:∃ W9,W9=w8.alloc (.cells #[.string (str kw.1),(.slice UA b.1.length Uc)] 189):=⟨_,rfl⟩;have hb9:Below w8.heap.size w8 W9:=by rw[eW9];exact(Below.refl _ _).alloc (Nat.le_refl _) _
              have HX9:=hid (HX8.out.keep (W':=W9) HLaw.out (fun g _ g2=>hb9.block g g2) hb9.size);have HM9:Hid (M w5.heap.size w6.heap.size W9 (.slice UA b.1.length Uc) b.1):=hid (hM.keep HM8.out fun g g1 g2=>hb9.block g (by omega))
              have HF9:=hid (HF8.out.then_below hb9);have HR9:=hid (HR8.out.on hb9);have HNews:Hid (1=0∨∃ b9 o9,(some ⟨w8.heap.size,0,none⟩:Option Addr)=some ⟨b9,o9,none⟩∧∀ j y,(casC (str kw.1,b.1) (.slice UA b.1.length Uc))[j]? =some y→W9.cell? ⟨b9,o9+j,none⟩=some y):=hid (.inr ⟨w8.heap.size,0,rfl,by rw[eW9];exact news_of w8 [.string (str kw.1),(.slice UA b.1.length Uc)] 189⟩)
              have HOne:Hid (∀ y∈casC (str kw.1,b.1) (.slice UA b.1.length Uc),y.oneCell'=true):=hid (by
               intro y hy;unfold casC at hy;simp at hy;rcases hy with rfl|rfl
               ·rfl
               ·rfl)
              have EW9:=hid eW9;have hxl:xs.length≤2000:=by omega
              have hsz9:w.heap.size≤W9.heap.size:=HF9.out.size;have hout:away (.slice OA xs.length Oc) w5.heap.size w6.heap.size:=fun r hr=>.inl (by have:=(own_lt HX.out.row hr).2;omega)
              have HOut:=hid hout;clear hF8 hC8 hW8 hR8 HX8 HM8 eW9 hb9 HW7 HF7 HC7 HM7 HX HF8 HR8 hout
              go_wp2_with (at_builtin;rw[←EW9.out];refine wpList_append_any rfl _ _ 124 rfl w.heap.size 189 Tryz.underlying124 info_caseR rfl (by decide) (flatW casC xs) rfl HX9.out.row (casC (str kw.1,b.1) (.slice UA b.1.length Uc)) rfl rfl HNews.out HOne.out (by unfold maxLen;omega) (by omega) hsz9 ?_)
              intro v10 w10 hown10 hg10 ho10;have HX10:=hid (HX9.out.push HLaw.out ⟨(str kw.1,b.1),(.slice UA b.1.length Uc),w5.heap.size,w6.heap.size⟩ (by show w.heap.size≤w5.heap.size;omega) HM9.out (by show w6.heap.size≤W9.heap.size;rw[EW9.out,World.size_alloc];omega) HOut.out hg10 hown10 ho10)
              have HF10:Hid (FrK k w w10):=hid (HF9.out.grown hg10 fun r hr=>.inr (own_lt HX9.out.row hr).1);have HR10:Hid (Rdr w10 k r5 d):=hid ((hg10.block k (by have:=HR9.out.lt;omega) (fun e=>by have:=(own_lt HX9.out.row e.symm).1;omega)).trans HR9.out)
              clear hown10 hg10 ho10 HX9 HM9 HF9 HR9 HNews HOne EW9 HOut
              go_wp2_with fail
              go_roundg r5.length
              case measure=>omega
              case rel=>exact⟨r5,n',_,rfl,HI3,HR10.out,HF10.out,HX10.out⟩
end Go.Proofs.YtpfmmbbggcghiaaGreatDoor
