/- Words for memory and small lemmas, over no program: frames, encodings of data in cells, slices that read as lists. -/
import Derived.Test.YtagfnpdoooachaaGreatDoorRows
import Derived.WalkSpells
import Derived.WalkLawsBesides
import Derived.Lib.Hide
import Derived.ProofKit
import Derived.OpenShut
import Derived.Lib.SplitLaws
import Derived.Lib.Join
set_option linter.unusedSimpArgs false
set_option linter.unusedVariables false
namespace Go.Proofs.YtagfnpdoooachaaGreatDoor
open Go.RowKit
theorem findIdx_at {α:Type} (l:List α) (p:α→Bool) (j:Nat) (h:j < l.length) (hp:p l[j]=true) (hno:∀ q (h:q < l.length),q < j→p l[q]=false):l.findIdx? p=some j:=by
 rw[List.findIdx?_eq_some_iff_getElem];exact⟨h,hp,fun q hq=>by simpa using hno q (by omega) hq⟩
theorem findIdx_none {α:Type} (l:List α) (p:α→Bool) (hno:∀ q (h:q < l.length),p l[q]=false):l.findIdx? p=none:=by
 rw[List.findIdx?_eq_none_iff];intro x hx;obtain⟨q,h,rfl⟩:=List.getElem_of_mem hx;exact hno q h
theorem step_no {α:Type} (l:List α) (p:α→Bool) (j:Nat) (hno:∀ q (h:q < l.length),q < j→p l[q]=false) (hj:∀ h:j < l.length,p l[j]=false):
 ∀ q (h:q < l.length),q < j+1→p l[q]=false:=fun q h hq=>by
 rcases Nat.lt_or_eq_of_le (Nat.le_of_lt_succ hq)with h1|h1
 ·exact hno q h h1
 ·subst h1;exact hj h
theorem any_of_at {α:Type} (l:List α) (p:α→Bool) (j:Nat) (h:j < l.length) (hp:p l[j]=true):l.any p=true:=List.any_eq_true.2 ⟨_,List.getElem_mem h,hp⟩
def eqs (a b:ByteArray):Bool:=a.toList == b.toList
theorem eqs_iff (a b:ByteArray):eqs a b=true↔a=b:=by
 unfold eqs;rw[ByteArray.toList_eq,ByteArray.toList_eq,beq_iff_eq,Array.toList_inj]
 constructor
 ·intro h;cases a;cases b;simp_all
 ·intro h;rw[h]
theorem eqs_self (a:ByteArray):eqs a a=true:=(eqs_iff a a).2 rfl
theorem eqs_false (a b:ByteArray):eqs a b=false↔a≠b:=by
 rw[←Bool.not_eq_true,eqs_iff]
theorem ret_bool {a b:Bool} (h:a=b):Ending.returned (.bool a)=.returned (.bool b):=by rw[h]
theorem quiet_left {P:Program} {f:FuncId} {args:Array Value} {w:World} {n:Nat} {v:Value}
 (h:Calls P f args (w.drewN n) fun e w'=>e=.returned v∧w.drewN n=w'):Calls P f args (w.drewN n) fun e w''=>e=.returned v∧∃ m,w''=w.drewN m:=
 h.mono fun _ _ ⟨he,hm⟩=>⟨he,n,hm.symm⟩
theorem quiet_add_left {P:Program} {f:FuncId} {args:Array Value} {w:World} {a n:Nat} {v:Value}
 (h:Calls P f args (w.drewN (a+n)) fun e w'=>e=.returned v∧w.drewN (a+n)=w'):Calls P f args (w.drewN (a+n)) fun e w''=>e=.returned v∧∃ m,w''=w.drewN (a+m):=
 h.mono fun _ _ ⟨he,hm⟩=>⟨he,n,hm.symm⟩
structure Fr (w w':World) (S:Nat→Prop):Prop where
 os:w'.os=w.os
 tape:w'.tape=w.tape
 output:w'.output=w.output
 size:w.heap.size≤w'.heap.size
 block:∀ k,k < w.heap.size→¬ S k→w'.heap[k]? =w.heap[k]?
section
variable {w w' w0 w1:World} {S S':Nat→Prop}
theorem Fr.refl (w:World) (S:Nat→Prop):Fr w w S:=⟨rfl,rfl,rfl,Nat.le_refl _,fun _ _ _=>rfl⟩
theorem Fr.trans (h:Fr w w1 S) (k:Fr w1 w' S):Fr w w' S:=
 ⟨k.os.trans h.os,k.tape.trans h.tape,k.output.trans h.output,Nat.le_trans h.size k.size,fun i hi hn=>(k.block i (Nat.lt_of_lt_of_le hi h.size) hn).trans (h.block i hi hn)⟩
theorem Fr.of_below (h:Below w.heap.size w w') (S:Nat→Prop):Fr w w' S:=⟨h.os,h.tape,h.output,h.size,fun i hi _=>h.block i hi⟩
theorem Fr.below {B:Nat} (h:Below B w0 w) (k:Fr w w' S) (hB:B≤w.heap.size) (hs:∀ i,S i→B≤i):Below B w0 w':=
 h.trans ⟨k.os,k.tape,k.output,k.size,fun i hi=>k.block i (by omega) fun hk=>by have:=hs i hk;omega⟩
theorem Fr.then_below (h:Fr w w1 S) (k:Below w1.heap.size w1 w'):Fr w w' S:=h.trans (Fr.of_below k S)
theorem Fr.drew (h:Fr w w1 S):Fr w w1.drew S:=⟨h.os,h.tape,h.output,h.size,h.block⟩
theorem Fr.setCell (h:Fr w w1 S) {p:Addr} (hp:S p.block∨w.heap.size≤p.block) (u:Value):Fr w (w1.setCell p u) S:=
 ⟨h.os,h.tape,h.output,by simpa[World.setCell]using h.size,fun i hi hn=>(Below.heap_setCell w1 p u i (by
   rintro rfl;rcases hp with hp|hp
   ·exact hn hp
   ·omega)).trans (h.block i hi hn)⟩
theorem Fr.grown {row:Option Nat} (h:Fr w w1 S) (hg:w1.grownBy w' row) (hr:∀ k,row=some k→S k∨w.heap.size≤k):Fr w w' S:=
 ⟨hg.os.trans h.os,hg.tape.trans h.tape,hg.output.trans h.output,Nat.le_trans h.size hg.size,fun i hi hn=>(hg.block i (Nat.lt_of_lt_of_le hi h.size) fun e=>by
   rcases hr i e.symm with h1|h1
   ·exact hn h1
   ·omega).trans (h.block i hi hn)⟩
end
def Blk (w:World) (g:Nat) (t:TypeId) (cs:Array Value):Prop:=w.heap[g]? =some (.cells cs t (0,0))
section
variable {w w':World} {g:Nat} {t:TypeId} {cs:Array Value}
theorem Blk.lt (h:Blk w g t cs):g < w.heap.size:=by
 rcases Nat.lt_or_ge g w.heap.size with hlt|hge
 ·exact hlt
 ·unfold Blk at h;rw[Array.getElem?_eq_none hge]at h;cases h
theorem Blk.cell (h:Blk w g t cs) (i:Nat):w.cell? ⟨g,i,none⟩=cs[i]? :=cell_of_row w g i cs t (0,0) h
theorem Blk.frozen (h:Blk w g t cs) (i:Nat):w.frozen? ⟨g,i,none⟩=false:=by
 unfold Blk at h;simp[World.frozen?,h]
theorem Blk.new (w:World) (t:TypeId) (cs:Array Value):Blk (w.alloc (.cells cs t)) w.heap.size t cs:=heap_alloc_new w _
theorem Blk.drew (h:Blk w g t cs):Blk w.drew g t cs:=h
theorem Blk.drewN (h:Blk w g t cs) (n:Nat):Blk (w.drewN n) g t cs:=h
theorem Blk.alloc (h:Blk w g t cs) (o:Obj):Blk (w.alloc o) g t cs:=(Below.heap_alloc w o g h.lt).trans h
theorem Blk.set_ (h:Blk w g t cs) (i:Nat) (u:Value):Blk (w.setCell ⟨g,i,none⟩ u) g t (cs.setIfInBounds i u):=by
 unfold Blk at h ⊢;simp[World.setCell,Array.getElem?_modify,h]
theorem Blk.far (h:Blk w g t cs) {p:Addr} (hp:g≠p.block) (u:Value):Blk (w.setCell p u) g t cs:=(Below.heap_setCell w p u g hp).trans h
theorem Blk.below {B:Nat} (h:Blk w g t cs) (hb:Below B w w') (hg:g < B):Blk w' g t cs:=(hb.block g hg).trans h
theorem Blk.fr {S:Nat→Prop} (h:Blk w g t cs) (hb:Fr w w' S) (hg:¬ S g):Blk w' g t cs:=(hb.block g h.lt hg).trans h
end
theorem own_form {w:World} {base:Nat} {e:TypeId} {size:Nat} {v:Value} {n:Nat} {xs:List Value} (h:w.ownsRow base e size v n xs) (hn:0 < n):
 ∃ g cap,v=.slice (some ⟨g,0,none⟩) n cap∧base≤g∧g < w.heap.size:=by
 rcases h.2 with⟨_,h0⟩|⟨g,cap,cur,hv,hb,hg,_⟩
 ·omega
 ·exact⟨g,cap,hv,hb,Blk.lt (t:=e) (cs:=cur) hg⟩
theorem own_mono {w:World} {base base':Nat} {e:TypeId} {size:Nat} {v:Value} {n:Nat} {xs:List Value} (h:w.ownsRow base e size v n xs) (hb:base'≤base):w.ownsRow base' e size v n xs:=by
 obtain⟨h1,h2|⟨g,cap,cur,hv,hg,r⟩⟩:=h
 ·exact⟨h1,.inl h2⟩
 ·exact⟨h1,.inr ⟨g,cap,cur,hv,by omega,r⟩⟩
structure Enc (α:Type) where
 sz:Nat
 bytes:Nat
 ok:World→Nat→Nat→List Value→α→Prop
 fits:Nat→α→Prop
 bulk:α→Nat
def Alk (lo hi:Nat) (w w':World):Prop:=∀ p:Addr,lo≤p.block→p.block < hi→w'.cell? p=w.cell? p
structure Enc.Laws {α:Type} (E:Enc α):Prop where
 len:∀ {w lo hi cs a},E.ok w lo hi cs a→cs.length=E.sz
 keep:∀ {w w' lo hi cs a},E.ok w lo hi cs a→Alk lo hi w w'→E.ok w' lo hi cs a
 mono:∀ {w lo hi lo' hi' cs a},E.ok w lo hi cs a→lo'≤lo→hi≤hi'→E.ok w lo' hi' cs a
theorem Alk.of_below {B lo:Nat} {w w':World} (h:Below B w w'):Alk lo B w w':=fun _ _ hp=>h.cell hp
theorem Alk.trans {lo hi:Nat} {w w1 w':World} (h:Alk lo hi w w1) (k:Alk lo hi w1 w'):Alk lo hi w w':=fun p hp hq=>(k p hp hq).trans (h p hp hq)
theorem Alk.mono {lo hi lo' hi':Nat} {w w':World} (h:Alk lo hi w w') (h1:lo≤lo') (h2:hi'≤hi):Alk lo' hi' w w':=fun p hp hq=>h p (by omega) (by omega)
def CellsAt (w:World) (b o:Nat) (cs:List Value):Prop:=∀ j u,cs[j]? =some u→w.cell? ⟨b,o+j,none⟩=some u
theorem CellsAt.keep {w w':World} {b o lo hi:Nat} {cs:List Value} (h:CellsAt w b o cs) (k:Alk lo hi w w') (h1:lo≤b) (h2:b < hi):CellsAt w' b o cs:=fun j u hj=>(k ⟨b,o+j,none⟩ h1 h2).trans (h j u hj)
def Enc.str:Enc ByteArray:=⟨1,16,fun _ _ _ cs s=>cs=[.string s],fun B s=>s.size≤B,fun s=>s.size+1⟩
theorem Enc.str_laws:Enc.str.Laws:=⟨fun h=>by cases h;rfl,fun h _=>h,fun h _ _=>h⟩
def ListOk {α:Type} (E:Enc α) (w:World) (lo hi:Nat) (v:Value) (l:List α):Prop:=
 ∃ A c,v=.slice A l.length c∧l.length≤c∧∀ i (h:i < l.length),∃ b o cs,A=some ⟨b,o,none⟩∧lo≤b∧b < hi∧CellsAt w b (o+i*E.sz) cs∧E.ok w lo hi cs l[i]
def Enc.list {α:Type} (E:Enc α):Enc (List α):=⟨1,24,fun w lo hi cs l=>∃ v,cs=[v]∧ListOk E w lo hi v l,fun B l=>l.length*E.bytes≤B∧∀ a∈l,E.fits B a,fun l=>(l.map E.bulk).sum+1⟩
section
variable {α:Type} {E:Enc α} {w w':World} {lo hi lo' hi':Nat} {v:Value} {l:List α}
theorem ListOk.keep (hE:E.Laws) (h:ListOk E w lo hi v l) (k:Alk lo hi w w'):ListOk E w' lo hi v l:=by
 obtain⟨A,c,hv,hc,hi⟩:=h;refine⟨A,c,hv,hc,fun i h=> ?_⟩;obtain⟨b,o,cs,hA,h1,h2,h3,h4⟩:=hi i h;exact⟨b,o,cs,hA,h1,h2,h3.keep k h1 h2,hE.keep h4 k⟩
theorem ListOk.mono (hE:E.Laws) (h:ListOk E w lo hi v l) (h1:lo'≤lo) (h2:hi≤hi'):ListOk E w lo' hi' v l:=by
 obtain⟨A,c,hv,hc,hi⟩:=h;refine⟨A,c,hv,hc,fun i h=> ?_⟩;obtain⟨b,o,cs,hA,g1,g2,g3,g4⟩:=hi i h;exact⟨b,o,cs,hA,by omega,by omega,g3,hE.mono g4 h1 h2⟩
theorem Enc.list_laws (hE:E.Laws):E.list.Laws:=
 ⟨fun⟨_,h,_⟩=>by cases h;rfl,fun⟨v,h,k⟩ ha=>⟨v,h,k.keep hE ha⟩,fun⟨v,h,k⟩ h1 h2=>⟨v,h,k.mono hE h1 h2⟩⟩
theorem ListOk.below (hE:E.Laws) {B:Nat} (h:ListOk E w lo B v l) (hb:Below B w w'):ListOk E w' lo B v l:=h.keep hE (Alk.of_below hb)
theorem ListOk.nil (c:Nat) (A:Option Addr):ListOk E w lo hi (.slice A 0 c) []:=⟨A,c,rfl,Nat.zero_le _,fun i h=>absurd h (by simp)⟩
theorem ListOk.strAt {A:Option Addr} {n c:Nat} {l:List ByteArray} (h:ListOk Enc.str w lo hi (.slice A n c) l) (i:Nat) (hl:i < l.length):∃ b o,A=some ⟨b,o,none⟩∧lo≤b∧b < hi∧w.cell? ⟨b,o+i,none⟩=some (.string l[i]):=by
 obtain⟨A',c',hv,_,hi⟩:=h;obtain⟨b,o,cs,hA,h1,h2,h3,h4⟩:=hi i hl;injection hv with hv1;refine⟨b,o,hv1.trans hA,h1,h2,?_⟩;have h4':cs=[.string l[i]]:=h4;subst h4';simpa[Enc.str]using h3 0 _ rfl
theorem ListOk.form (h:ListOk E w lo hi v l):∃ A c,v=.slice A l.length c∧l.length≤c:=let ⟨A,c,h1,h2,_⟩:=h;⟨A,c,h1,h2⟩
theorem ListOk.take {A:Option Addr} {n c:Nat} (h:ListOk E w lo hi (.slice A n c) l) (k:Nat) (hk:k≤l.length):ListOk E w lo hi (.slice A k c) (l.take k):=by
 obtain⟨A',c',hv,hc,hi⟩:=h;injection hv with hv1 hv2 hv3;subst hv1;subst hv3;have hl:(l.take k).length=k:=by simp;omega
 refine⟨A,c,by rw[hl],by omega,fun i h=> ?_⟩
 obtain⟨b,o,cs,hA,g1,g2,g3,g4⟩:=hi i (by omega)
 exact⟨b,o,cs,hA,g1,g2,g3,by simpa using g4⟩
theorem ListOk.of_own {base:Nat} {e:TypeId} {xs:List Value} (h:w.ownsRow base e E.sz v l.length xs) (hb:lo≤base) (hs:w.heap.size≤hi) (hx:∀ i (hl:i < l.length),E.ok w lo hi ((xs.drop (i*E.sz)).take E.sz) l[i]):ListOk E w lo hi v l:=by
 obtain⟨hlen,h1|⟨g,cap,cur,hv,hg,hh,hc,hm,hcs,ht⟩⟩:=h
 ·obtain⟨hv,hn⟩:=h1;exact⟨none,0,by rw[hv,hn],by omega,fun i hl=>absurd hl (by omega)⟩
 ·refine⟨some ⟨g,0,none⟩,cap,hv,hc,fun i hl=> ?_⟩;have hlt:g < w.heap.size:=Blk.lt (t:=e) (cs:=cur) hh;refine⟨g,0,_,rfl,by omega,by omega,?_,hx i hl⟩
  intro j u hj;rw[cell_of_row w g _ cur e (0,0) hh];rw[List.getElem?_take]at hj;split at hj
  ·rw[List.getElem?_drop,←ht,List.getElem?_take]at hj;split at hj
   ·simpa using hj
   ·cases hj
  ·cases hj
theorem ListOk.strs_of_own {base:Nat} {e:TypeId} {l:List ByteArray} (h:w.ownsRow base e 1 v l.length (l.map .string)) (hb:lo≤base) (hs:w.heap.size≤hi):ListOk Enc.str w lo hi v l:=
 ListOk.of_own (E:=Enc.str) h hb hs fun i hl=>by
  show _=_;have e1:Enc.str.sz=1:=rfl;rw[e1,Nat.mul_one,←List.map_drop,←List.map_take,List.drop_eq_getElem_cons hl]
  rfl
end
end Go.Proofs.YtagfnpdoooachaaGreatDoor
namespace Go.Proofs.YtagfnpdoooachaaGreatDoor
open Go.RowKit Go.ChangeShapes Go.WideShapes Go.ChangeAt
def Opens {α:Type} (P:Program) (E:Enc α) (t:TypeId):Prop:=
 ∀ {H:Type} (enc:TypeId×Value→H) (w:World) (sp:Nat→Bool) (held:Bool) (fuel:Nat) (cs:List Value) (x:DataW H×List MemPlace) (hi:Nat),
  DataW.trod enc P w 0 sp held fuel t cs=some x→(∀ p∈x.2,p.block < hi)→
  ∃ a,E.ok w 0 hi cs a∧(∀ B,(∀ n∈x.1.weights P t,n≤B)→E.fits B a)∧E.bulk a≤Rows.uptoBulk x.1
section
variable {P:Program} {t e:TypeId}
theorem opens_str (ht:P.underlying t=some .string):Opens P Enc.str t:=by
 intro H enc w sp held fuel cs x hi h _;obtain⟨s,rfl,rfl,_⟩:=DataW.trod_string ht h;refine⟨s,rfl,fun B hB=> ?_,?_⟩
 ·have:=hB s.data.toList.length (by simp[DataW.weights])
  have e:s.data.toList.length=s.size:=by rw[Array.length_toList];rfl
  show s.size≤B;omega
 ·have e:s.data.toList.length=s.size:=by rw[Array.length_toList];rfl
  simp[Enc.str,Rows.uptoBulk,e]
end
section
variable {H:Type} {enc:TypeId×Value→H} {P:Program} {W:World} {base:Nat} {t e:TypeId} {v:Value} {d:DataW H} {p:List MemPlace} {hi:Nat}
theorem arg_str (ht:P.underlying t=some .string) (hv:Value.okWide P W .any base t v) (h:DataW.Trod enc P W 0 (fun _=>true) true t v d p):
 ∃ s:ByteArray,v=.string s∧(∀ B,(∀ n∈d.weights P t,n≤B)→s.size≤B)∧s.size+1≤Rows.uptoBulk d:=by
 obtain⟨s,rfl⟩:=okWide_string ht hv;obtain⟨fuel,hf⟩:=h;obtain⟨a,ha,hb⟩:=opens_str ht enc W _ _ _ _ (d,p) (p.foldr (fun x m=>max (x.block+1) m) 0) hf (fun x hx=>by
  clear hf;show x.block < _
  induction p with
  | nil=>cases hx
  | cons y r ih=>
    simp only[List.foldr_cons];cases List.mem_cons.1 hx with
    | inl e=>subst e;omega
    | inr e=>have:=ih e;omega)
 have e1:[Value.string s]=[Value.string a]:=ha;injection e1 with e1;injection e1 with e1;subst e1;exact⟨s,rfl,hb⟩
end
section
variable {H:Type} {enc:TypeId×Value→H} {P:Program}
theorem trodAll_below (hl:laidOutB P=true) {W W':World} (hb:Below W.heap.size W W') {sp:Nat→Bool}:∀ {ts:List TypeId} {vs:List Value} {ds:List (DataW H)} {ps:List MemPlace},
 (∀ t∈ts,P.readableRec t=true∧t < P.types.size)→DataW.TrodAll enc P W 0 (fun _=>true) true ts vs ds ps→(∀ p∈ps,p.block < W.heap.size)→(∀ p∈ps,sp p.block=true)→DataW.TrodAll enc P W' 0 sp true ts vs ds ps
 | [],[],[],_,_,h,_,_=>h
 | t::ts,v::vs,d::ds,ps,hts,h,hlt,hsp=>by
   obtain⟨p,q,h1,h2,rfl⟩:=h;obtain⟨hr,hrow⟩:=hts t (by simp)
   refine⟨p,q,WideElems.Trod_stays hl hr hrow h1 (fun x hx=>hb.same (hlt x (by simp[hx]))) (fun x hx=>hsp x (by simp[hx])),?_,rfl⟩
   exact trodAll_below hl hb (fun t ht=>hts t (by simp[ht])) h2 (fun x hx=>hlt x (by simp[hx])) (fun x hx=>hsp x (by simp[hx]))
 | [],[],_::_,_,_,h,_,_=>h.elim
 | [],_::_,_,_,_,h,_,_=>h.elim
 | _::_,[],_,_,_,h,_,_=>h.elim
 | _::_,_::_,[],_,_,h,_,_=>h.elim
theorem law_post {f:Func} {s:ChangeSpec} {apart fresh handsOn again:Bool} {W W':World} {args:Array Value} {ds gs:List (DataW H)} {before:List MemPlace} {tb:TypeId}
 (hW:DataW.Whole enc P f.params.toList s.vars apart W args.toList ds gs before) (hs:s.vars=[]) (hrt:f.resultTypes=#[tb]) (htb:P.underlying tb=some .bool)
 (hfn:s.fn H (ds++gs)= { results:=[.lit (.bool true)],args:=ds }) (hl:laidOutB P=true) (hts:∀ t∈f.params.toList,P.readableRec t=true∧t < P.types.size)
 (hb:Below W.heap.size W W'):s.post enc P f apart fresh handsOn again W args (.bool true) W':=by
 have hW':=hW;obtain⟨p,q,hA,hV,hpq,hz,hn⟩:=hW';rw[hs]at hV;obtain⟨rfl,rfl⟩:=trodVars_none hV;rw[List.append_nil]at hpq;subst hpq;have hlt:∀ x∈before,x.block < W.heap.size:=fun x hx=>hW.lt x hx;have hold:∀ x∈before,(fun b=>decide (b < W.heap.size)) x.block=true:=fun x hx=>by simpa using hlt x hx
 have hres:∀(b:Nat) (sp:Nat→Bool) (hd:Bool),DataW.TrodAll enc P W' b sp hd f.resultTypes.toList ((Value.bool true).resultList f.resultTypes.size) (s.fn H (ds++[])).results []:=fun b sp hd=>by
  rw[hfn,hrt];exact trodAll_cons_mk (shut_bool htb _) trodAll_mk0
 have hargs:∀ sp:Nat→Bool,(∀ x∈before,sp x.block=true)→DataW.TrodAll enc P W' 0 sp true f.params.toList args.toList (s.fn H (ds++[])).args before:=fun sp hsp=>by
  rw[hfn];exact trodAll_below hl hb hts hA hlt hsp
 have hvars:∀ sp:Nat→Bool,DataW.TrodVars enc P W' sp s.vars (s.fn H (ds++[])).vars []:=fun sp=>by rw[hfn,hs];rfl
 have hok:∀(j:Nat) (t:TypeId) (r:Value),f.resultTypes[j]? =some t→((Value.bool true).resultList f.resultTypes.size)[j]? =some r→Value.okWide P W' .any 0 t r:=by
  exact ok_one hrt rfl (okWide_bool_mk htb _)
 refine⟨ds,[],before,[],before,[],hW,hres _ _ _,hargs _ hold,hvars _,World.keptBut_mono (fun x hx=>⟨hx,?_⟩) (hb.frame (· ∈before)),fun _=> ?_⟩
 ·exact .inr (.inl hx)
 ·refine⟨hok,_,_,([]++before)++[],⟨[]++before,[],trodAll_append (hargs _ (fun _ _=>rfl)) (hres _ _ _),hvars _,rfl,?_,?_⟩,?_⟩
  ·intro b off hp;have hin:MemPlace.cell b off∈before:=by simpa using hp
   rw[hb.frozen (hlt _ hin)];exact hz b off hin
  ·intro ha;have:=hn ha;simpa using this
  ·intro x hx _;simpa using hx
end
def TyOk (P:Program) (t:TypeId):Prop:=P.readableRec t=true∧t < P.types.size
theorem tys_nil {P:Program}:∀ t∈([]:List TypeId),TyOk P t:=fun _ h=>by cases h
theorem tys_cons {P:Program} {t:TypeId} {ts:List TypeId} (h:TyOk P t) (hs:∀ x∈ts,TyOk P x):∀ x∈t::ts,TyOk P x:=fun x hx=>by
 cases List.mem_cons.1 hx with
 | inl e=>subst e;exact h
 | inr e=>exact hs x e
theorem own_knob:ownKnob Tryz.prog.godebug=none:=by kernel_rfl
theorem laid_out:laidOutB Tryz.prog=true:=by kernel_rfl
end Go.Proofs.YtagfnpdoooachaaGreatDoor
namespace Go.Proofs.YtagfnpdoooachaaGreatDoor
open Go.RowKit
def bts (s:ByteArray):List UInt8:=s.data.toList
def str (l:List UInt8):ByteArray:=⟨l.toArray⟩
theorem bts_str (l:List UInt8):bts (str l)=l:=rfl
theorem str_bts (s:ByteArray):str (bts s)=s:=by cases s;simp[str,bts]
theorem bts_len (s:ByteArray):(bts s).length=s.size:=by show s.data.toList.length=s.data.size;simp
theorem str_size (l:List UInt8):(str l).size=l.length:=by show l.toArray.size=_;simp
theorem bts_inj {a b:ByteArray} (h:bts a=bts b):a=b:=by rw[←str_bts a,←str_bts b,h]
def firstN (f:Nat→Int):Nat→Int
 | 0=>0
 | n+1=>if firstN f n=0 then f n else firstN f n
theorem firstN_zero (f:Nat→Int):∀ n,(∀ q,q < n→f q=0)→firstN f n=0
 | 0,_=>rfl
 | n+1,h=>by unfold firstN;rw[if_pos (firstN_zero f n fun q hq=>h q (by omega))];exact h n (by omega)
theorem firstN_at (f:Nat→Int) (j:Nat) (h0:∀ q,q < j→f q=0) (hj:f j≠0):∀ n,j < n→firstN f n=f j
 | 0,h=>absurd h (by omega)
 | n+1,h=>by
   unfold firstN
   by_cases hn:j < n
   ·rw[firstN_at f j h0 hj n hn,if_neg hj]
   ·obtain rfl:j=n:=by omega
    rw[if_pos (firstN_zero f j h0)]
theorem firstN_zero_iff (f:Nat→Int):∀ n,firstN f n=0↔∀ q,q < n→f q=0
 | 0=>⟨fun _ q hq=>absurd hq (by omega),fun _=>rfl⟩
 | n+1=>by
   refine⟨fun h q hq=> ?_,firstN_zero f _⟩;unfold firstN at h;split at h
   ·rename_i h1
    by_cases e:q=n
    ·subst e;exact h
    ·exact(firstN_zero_iff f n).1 h1 q (by omega)
   ·rename_i h1
    exact absurd h h1
def isLow (c:UInt8):Bool:=decide (97≤c.toNat) && decide (c.toNat≤122)
def isHigh (c:UInt8):Bool:=decide (65≤c.toNat) && decide (c.toNat≤90)
def isDig (c:UInt8):Bool:=decide (48≤c.toNat) && decide (c.toNat≤57)
def isBoth (c:UInt8):Bool:=isLow c || isDig c
def made (p:UInt8→Bool) (s:ByteArray) (a b:Nat):Bool:=(bts s).all p && (decide (a≤s.size) && decide (s.size≤b))
def scriptB (s:ByteArray):Bool:=decide (s.size=4) && (((bts s).take 1).all isHigh && ((bts s).drop 1).all isLow)
def regionB (s:ByteArray):Bool:=made isHigh s 2 2 || made isDig s 3 3
structure Tg where
 lang:ByteArray
 script:ByteArray
 region:ByteArray
 vars:List ByteArray
def headFault (t:Tg):Bool:= !made isLow t.lang 2 3 || (!eqs t.script ByteArray.empty && !scriptB t.script || !eqs t.region ByteArray.empty && !regionB t.region)
def varAt (l:List ByteArray) (j:Nat):Int:=if made isBoth (l.getD j ByteArray.empty) 5 8 then(if(l.take j).any (eqs · (l.getD j ByteArray.empty))then 5 else 0)else 3
def tagFault (t:Tg):Int:=
 if headFault t then 3
 else if firstN (varAt t.vars) t.vars.length=0 then(if 3 < t.vars.length then 4 else 0)
 else firstN (varAt t.vars) t.vars.length
def parts (t:Tg):List ByteArray:=([t.lang,t.script,t.region]++t.vars).filter (fun s=> !eqs s ByteArray.empty)
def joined (l:List ByteArray) (sep:ByteArray):ByteArray:=str (Lib.join (l.map bts) (bts sep))
def dash:ByteArray:=⟨#[45]⟩
def tagText (t:Tg):ByteArray:=joined (parts t) dash
def mapB (p:UInt8→Bool) (x:UInt8) (s:ByteArray):ByteArray:=str ((bts s).map fun c=>if p c then c ^^^ x else c)
def lowerB (s:ByteArray):ByteArray:=mapB isHigh 32 s
def upperB (s:ByteArray):ByteArray:=mapB isLow 32 s
def splitS (s sep:ByteArray):List ByteArray:=Lib.splitB sep 0 (Lib.countB s sep) s
def scriptOf (l:List ByteArray):ByteArray×List ByteArray:=
 match l with
 | p::r=>if made isLow p 4 4 then(upperB (p.extract 0 1)++p.extract 1 p.size,r)else(ByteArray.empty,p::r)
 | []=>(ByteArray.empty,[])
def regionOf (l:List ByteArray):ByteArray×List ByteArray:=
 match l with
 | p::r=>if regionB (upperB p)then(upperB p,r)else(ByteArray.empty,p::r)
 | []=>(ByteArray.empty,[])
def rawTag (s:ByteArray):Tg:=
 let l:=splitS (lowerB s) dash
 let b:=scriptOf (l.drop 1)
 let c:=regionOf b.2
 ⟨l.headD ByteArray.empty,b.1,c.1,c.2⟩
def parseTag (s:ByteArray):Option Tg:=
 if tagFault (rawTag s)=0 && eqs (lowerB (tagText (rawTag s))) (lowerB s)then some (rawTag s)else none
def less (t:Tg):Option Tg:=
 if t.vars.length≠0 then some { t with vars:=t.vars.take (t.vars.length - 1) }
 else if eqs t.region ByteArray.empty then(if eqs t.script ByteArray.empty then none else some { t with script:=ByteArray.empty })
 else some { t with region:=ByteArray.empty }
def deg (t:Tg):Nat:=t.vars.length+((if eqs t.region ByteArray.empty then 0 else 1)+(if eqs t.script ByteArray.empty then 0 else 1))
theorem less_deg {t u:Tg} (h:less t=some u):deg u < deg t:=by
 unfold less at h;split at h
 ·injection h with h;subst h;simp only[deg,List.length_take];omega
 ·split at h
  ·split at h
   ·cases h
   ·injection h with h;subst h
    rename_i h1 h2 h3
    simp only[deg,h3,eqs_self,if_true];simp
  ·injection h with h;subst h
   rename_i h1 h2
   simp only[deg,h2,eqs_self,if_true];simp
def chainN:Nat→Tg→List Tg
 | 0,t=>[t]
 | n+1,t=>match less t with|some u=>t::chainN n u|none=>[t]
def chainOf (t:Tg):List Tg:=chainN (deg t) t
theorem chainN_stop {t:Tg} (h:less t=none):∀ n,chainN n t=[t]
 | 0=>rfl
 | n+1=>by unfold chainN;rw[h]
theorem chainN_enough:∀(n m:Nat) (t:Tg),deg t≤n→deg t≤m→chainN n t=chainN m t
 | 0,m,t,hn,_=>by
   have h:less t=none:=by
    cases h:less t with
    | none=>rfl
    | some u=>have:=less_deg h;omega
   rw[chainN_stop h,chainN_stop h]
 | n+1,0,t,_,hm=>by
   have h:less t=none:=by
    cases h:less t with
    | none=>rfl
    | some u=>have:=less_deg h;omega
   rw[chainN_stop h,chainN_stop h]
 | n+1,m+1,t,hn,hm=>by
   unfold chainN;cases h:less t with
   | none=>rfl
   | some u=>have:=less_deg h;simp only;rw[chainN_enough n m u (by omega) (by omega)]
theorem chainOf_some {t u:Tg} (h:less t=some u):chainOf t=t::chainOf u:=by
 have:=less_deg h;unfold chainOf;obtain⟨k,hk⟩:∃ k,deg t=k+1:=⟨deg t - 1,by omega⟩
 rw[hk,chainN,h];simp only;rw[chainN_enough k (deg u) u (by omega) (Nat.le_refl _)]
theorem chainOf_none {t:Tg} (h:less t=none):chainOf t=[t]:=chainN_stop h _
theorem chainOf_length (t:Tg):(chainOf t).length≤deg t+1:=by
 have:∀ n t,(chainN n t).length≤n+1:=by
  intro n
  induction n with
  | zero=>intro t;simp[chainN]
  | succ n ih=>
    intro t;unfold chainN;split
    ·have:=ih ‹_›;simp;omega
    ·simp
 exact this _ _
def cut1 (c:UInt8):List UInt8→List (List UInt8)
 | []=>[[]]
 | b::l=>if b=c then []::cut1 c l else(b::(cut1 c l).headD [])::(cut1 c l).tail
theorem cut1_ne (c:UInt8):∀ l,cut1 c l≠[]
 | []=>by simp[cut1]
 | b::l=>by unfold cut1;split <;> simp
theorem cut1_cons (c:UInt8) (l:List UInt8):(cut1 c l).headD []::(cut1 c l).tail=cut1 c l:=by
 cases h:cut1 c l with
 | nil=>exact absurd h (cut1_ne c l)
 | cons x r=>rfl
theorem index_one_cons (b c:UInt8) (l:List UInt8) (h:b≠c):Lib.index (b::l) [c]=if Lib.index l [c] == -1 then -1 else Lib.index l [c]+1:=by
 have hp:([c]:List UInt8).isPrefixOf (b::l)=false:=by simp[List.isPrefixOf,Ne.symm h]
 rw[Lib.index,hp];simp
theorem splitK_one (c:UInt8):∀ l:List UInt8,Lib.splitK [c] 0 (l.count c) l=cut1 c l
 | []=>rfl
 | b::l=>by
   by_cases h:b=c
   ·subst h;have hix:Lib.index (b::l) [b]=0:=by rw[Lib.index];simp[List.isPrefixOf]
    rw[List.count_cons_self,Lib.splitK,hix,cut1,if_pos rfl,←splitK_one b l]
    rfl
   ·have ih:=splitK_one c l;rw[List.count_cons_of_ne (by simpa using h),cut1,if_neg h,←ih]
    cases hk:l.count c with
    | zero=>rfl
    | succ k=>
      have hne:¬ Lib.index l [c]= -1:=fun e=>by
       have:=Lib.count_miss e;rw[Lib.count_one]at this;omega
      have hge:=Lib.index_ge l [c];have e1:Lib.index (b::l) [c]=Lib.index l [c]+1:=by rw[index_one_cons b c l h,if_neg (by simpa using hne)]
      unfold Lib.splitK;rw[if_neg (by rw[e1];simp;omega),if_neg (by simpa using hne),e1]
      obtain⟨i,hi⟩:∃ i:Nat,Lib.index l [c]=i:=⟨(Lib.index l [c]).toNat,by omega⟩
      rw[hi];simp only[show((i:Int)+1).toNat=i+1 from by omega,Int.toNat_natCast,List.length_singleton,Nat.add_zero,List.take_succ_cons,List.drop_succ_cons,List.headD_cons,List.tail_cons]
theorem splitS_one (s:ByteArray) (c:UInt8):splitS s ⟨#[c]⟩=(cut1 c (bts s)).map str:=by
 have h:=Lib.splitB_data ⟨#[c]⟩ 0 (Lib.countB s ⟨#[c]⟩) s;have e:Lib.countB s ⟨#[c]⟩=(bts s).count c:=Lib.count_one c _;have h2:(splitS s ⟨#[c]⟩).map bts=cut1 c (bts s):=by
  rw[←splitK_one c (bts s),←e];exact h
 rw[←h2,List.map_map];exact(List.map_id'' (fun x=>str_bts x) _).symm
def Enc.tag:Enc Tg:=⟨4,72,fun w lo hi cs t=>∃ v,cs=[.string t.lang,.string t.script,.string t.region,v]∧ListOk Enc.str w lo hi v t.vars,
 fun B t=>t.lang.size≤B∧t.script.size≤B∧t.region.size≤B∧Enc.str.list.fits B t.vars,fun t=>t.lang.size+t.script.size+t.region.size+Enc.str.list.bulk t.vars⟩
theorem Enc.tag_laws:Enc.tag.Laws:=
 ⟨fun⟨_,h,_⟩=>by cases h;rfl,fun⟨v,h,k⟩ ha=>⟨v,h,k.keep Enc.str_laws ha⟩,fun⟨v,h,k⟩ h1 h2=>⟨v,h,k.mono Enc.str_laws h1 h2⟩⟩
end Go.Proofs.YtagfnpdoooachaaGreatDoor
