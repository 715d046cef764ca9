/- Maps from strings to whatever values: delete, clear. -/
import Derived.Lib.SlMapMerge
import Derived.Test.YtpfmmbbggcghiaaGreatDoorFindC
import Derived.Lib.SlKeysI
import Derived.Shelf.SlMaps.DeleteFunc
set_option linter.unusedSimpArgs false
set_option linter.unusedVariables false
namespace Go.Proofs.YtpfmmbbggcghiaaGreatDoor
open Go.RowKit Go.Maps
def delV (f:ByteArray→Option Value) (k:ByteArray):ByteArray→Option Value:=fun s=>if s=k then none else f s
theorem OwnsV.cleared {w:World} {b n:Nat} {f:ByteArray→Option Value} (h:OwnsV w b n f) {t e:TypeId} (ht:Tryz.prog.underlying t=some (.map 9 e)) (ty:TypeId):
 ∃ w',(Builtin.clear_ #[t] ty #[.map (some b)]).run Tryz.prog w=.ok (.tuple #[]) w'∧OwnsV w' b 0 (fun _=>none)∧w.mapTurned w' b:=by
 obtain⟨D,⟨es,clock,hb,F,hs,hD⟩,h2⟩:=h;refine⟨{ w with heap:=w.heap.setIfInBounds b (.map #[] clock) },?_,⟨.map [],⟨#[],clock,(MapKept.heap_set hb).1,⟨by simp,MapKept.stamped_empty _,by simp⟩,Nat.le_refl _,rfl⟩,fun s=>⟨rfl,fun z=>rfl⟩⟩,es,clock,#[],clock,hb,rfl⟩
 simp[Builtin.clear_,run_underlying ht,MapKept.run_getObj_map hb,MapKept.run_setObj_map _ hb,Result.andThen]
theorem wpList_clear_V {w:World} {ops:Array Oper} {rest:List Oper} {o:Oper} {a:Act} {Q:Exit→Act→World→Prop}
 (hg:o.guard=none) (m:Operand) (t e:TypeId) (hop:o.op=Op.call { callee:=Callee.builtin Builtin.clear,args:=#[m],argTypes:=#[t] }) (ht:Tryz.prog.underlying t=some (.map 9 e)) (b n:Nat) (f:ByteArray→Option Value)
 (hm:a.eval m=.map (some b)) (hown:OwnsV w b n f)
 (hK:∀ w',OwnsV w' b 0 (fun _=>none)→w.grownBy w' (some b)→wpList Tryz.prog ops Q rest (a.put o.dst (.tuple #[])) w'):
 wpList Tryz.prog ops Q (o::rest) a w:=by
 refine wpList_plain hg fun K' hK'=> ?_;obtain⟨w',hrun,r1,r2⟩:=hown.cleared ht o.type;unfold Oper.wp;simp[execOp,hop,resolve,invoke,builtin,hm,hrun,Result.andThen];exact hK' _ _ (hK w' r1 r2.grown)
theorem wpList_delete_V {w:World} {ops:Array Oper} {rest:List Oper} {o:Oper} {a:Act} {Q:Exit→Act→World→Prop}
 (hg:o.guard=none) (m x:Operand) (t e:TypeId) (hop:o.op=Op.call { callee:=Callee.builtin Builtin.delete,args:=#[m,x],argTypes:=#[t,9] }) (ht:Tryz.prog.underlying t=some (.map 9 e)) (b n:Nat) (f:ByteArray→Option Value)
 (hm:a.eval m=.map (some b)) (hown:OwnsV w b n f) (key:ByteArray) (hx:a.eval x=.string key) (hk:key.size≤maxLen)
 (hK:∀ w',OwnsV w' b n (delV f key)→w.grownBy w' (some b)→wpList Tryz.prog ops Q rest (a.put o.dst (.tuple #[])) w'):
 wpList Tryz.prog ops Q (o::rest) a w:=by
 obtain⟨D,h1,h2⟩:=hown;refine wpList_delete_own w hg m x t 9 hop e keyedS ht _ b n D hm h1 (.string key) (.string key.data.toList) hx (keyS hk) fun w' h3 h4=>hK w' ⟨_,h3,fun s=> ?_⟩ h4.grown;have hmp:=h1.isMap;unfold delV
 by_cases hs:s=key
 ·subst hs;rw[if_pos rfl];exact⟨has_del_same,fun z=>atKey_del_same _⟩
 ·have hne:(Lit.string s.data.toList)≠.string key.data.toList:=fun e=>hs (bytes_inj (Lit.string.inj e));rw[if_neg hs];exact⟨(has_del_other hne).trans (h2 s).1,fun z=>(atKey_del_other hne _).trans ((h2 s).2 z)⟩
def ltK (a b:ByteArray):Bool:=bytesBefore (bts a) (bts b)
def insE (x:Ent):List Ent→List Ent
 | []=>[x]
 | y::r=>if ltK x.key y.key then x::y::r else y::insE x r
def putE (S:List Ent) (x:Ent):List Ent:=insE x (S.filter fun e=> !eqs e.key x.key)
def srt (l:List Ent):List Ent:=l.foldl putE []
def hasK (S:List Ent) (k:ByteArray):Bool:=S.any fun e=>eqs e.key k
def textK (S:List Ent) (k:ByteArray):Option ByteArray:=(S.find? fun e=>eqs e.key k).map (·.text)
def Uniq (l:List Ent):Prop:=l.Pairwise fun a b=>a.key≠b.key
theorem mem_insE {x y:Ent}:∀ {S:List Ent},y∈insE x S↔y=x∨y∈S
 | []=>by simp[insE]
 | a::r=>by
   unfold insE;split
   ·simp
   ·simp only[List.mem_cons,mem_insE (S:=r)]
    constructor
    ·rintro(h|h|h)
     ·exact .inr (.inl h)
     ·exact .inl h
     ·exact .inr (.inr h)
    ·rintro(h|h|h)
     ·exact .inr (.inl h)
     ·exact .inl h
     ·exact .inr (.inr h)
theorem filter_self {S:List Ent} {k:ByteArray} (h:∀ e∈S,e.key≠k):(S.filter fun e=> !eqs e.key k)=S:=
 List.filter_eq_self.2 fun e he=>by rw[Bool.not_eq_true',eqs_false];exact h e he
theorem hasK_iff {S:List Ent} {k:ByteArray}:hasK S k=true↔∃ e∈S,e.key=k:=by
 unfold hasK;rw[List.any_eq_true];exact⟨fun⟨e,h1,h2⟩=>⟨e,h1,(eqs_iff _ _).1 h2⟩,fun⟨e,h1,h2⟩=>⟨e,h1,(eqs_iff _ _).2 h2⟩⟩
theorem textK_none {S:List Ent} {k:ByteArray}:textK S k=none↔hasK S k=false:=by
 unfold textK hasK;rw[Option.map_eq_none_iff,List.find?_eq_none,List.any_eq_false]
def entL (e:Ent):Lit×DataW Unit:=(.string (bts e.key),.lit (.string (bts e.text)))
def toD (S:List Ent):DataW Unit:=.map (S.map entL)
theorem sameKey_eqs (a b:ByteArray):(Lit.string (bts a)).sameKey (.string (bts b))=eqs a b:=by rw[eqs_bts];rfl
theorem insert_ins (x:Ent):∀ S:List Ent,DataW.insert (entL x) (S.map entL)=(insE x S).map entL
 | []=>rfl
 | y::r=>by
   rw[List.map_cons,DataW.insert];have e:(entL x).1.before (entL y).1=ltK x.key y.key:=rfl;rw[e,insE];split
   ·rfl
   ·rw[insert_ins x r];rfl
theorem filter_entL (k:ByteArray) (S:List Ent):((S.map entL).filter fun p=> !p.1.sameKey (.string (bts k)))=(S.filter fun e=> !eqs e.key k).map entL:=by
 rw[List.filter_map]
 congr 2
 funext e
 show(!(Lit.string (bts e.key)).sameKey _)=_;rw[sameKey_eqs]
theorem toD_put (S:List Ent) (x:Ent):(toD S).put (.string (bts x.key)) (.lit (.string (bts x.text)))=toD (putE S x):=by
 show DataW.map (DataW.insert (entL x) ((S.map entL).filter fun p=> !p.1.sameKey (.string (bts x.key))))=_;rw[filter_entL,insert_ins]
 rfl
theorem toD_at (S:List Ent) (k:ByteArray) (z:DataW Unit):(toD S).atKey (.string (bts k)) z=match textK S k with|some t=>.lit (.string (bts t))|none=>z:=by
 unfold toD DataW.atKey textK;dsimp only
 induction S with
 | nil=>rfl
 | cons a r ih=>
   rw[List.map_cons,List.find?_cons,List.find?_cons];have e:(entL a).1.sameKey (.string (bts k))=eqs a.key k:=sameKey_eqs _ _;rw[e];cases eqs a.key k with
   | true=>rfl
   | false=>exact ih
theorem entAt_zero {l:List Ent} {j:Nat} (hj:j < l.length):entAt l j=0↔keyOk l[j].key=true∧(l.take j).any (fun e=>eqs e.key l[j].key)=false∧l[j].text.size≤2000:=by
 have:l.getD j noEnt=l[j]:=by rw[List.getD_eq_getElem?_getD,List.getElem?_eq_getElem hj];rfl
 unfold entAt;rw[this];cases keyOk l[j].key <;> cases(l.take j).any (fun e=>eqs e.key l[j].key) <;> by_cases h:2000 < l[j].text.size <;> simp[h] <;> omega
structure Right (b:Bun):Prop where
 tag:isTag b.tag=true
 len:b.ents.length≤100
 uniq:Uniq b.ents
 each:∀ e∈b.ents,keyOk e.key=true∧e.text.size≤2000
theorem uniq_iff (l:List Ent):Uniq l↔∀ j (h:j < l.length),(l.take j).any (fun e=>eqs e.key l[j].key)=false:=by
 unfold Uniq;rw[List.pairwise_iff_getElem]
 constructor
 ·intro h j hj;rw[List.any_eq_false];intro x hx;obtain⟨i,hi,rfl⟩:=List.getElem_of_mem hx;rw[List.length_take]at hi;rw[List.getElem_take];have:=h i j (by omega) hj (by omega)
  rw[Bool.not_eq_true,eqs_false];exact this
 ·intro h i j hi hj hij;have:=h j hj;rw[List.any_eq_false]at this;have h2:=this l[i] (by
   have:(l.take j)[i]'(by rw[List.length_take];omega)=l[i]:=List.getElem_take
   rw[←this];exact List.getElem_mem _)
  rw[Bool.not_eq_true,eqs_false]at h2;exact h2
theorem right_iff (b:Bun):bunFault b=0↔Right b:=by
 unfold bunFault;cases ht:isTag b.tag with
 | false=>exact⟨fun h=>by simp at h,fun h=>by rw[h.tag]at ht;cases ht⟩
 | true=>
   simp only[if_true]
   by_cases hl:100 < b.ents.length
   ·rw[if_pos hl];exact⟨fun h=>by simp at h,fun h=>by have:=h.len;omega⟩
   ·rw[if_neg hl,firstN_zero_iff]
    constructor
    ·intro h;refine⟨ht,by omega,(uniq_iff _).2 fun j hj=>((entAt_zero hj).1 (h j hj)).2.1,fun e he=> ?_⟩
     obtain⟨j,hj,rfl⟩:=List.getElem_of_mem he;have:=(entAt_zero hj).1 (h j hj);exact⟨this.1,this.2.2⟩
    ·intro h j hj;have:=h.each _ (List.getElem_mem hj);exact(entAt_zero hj).2 ⟨this.1,(uniq_iff _).1 h.uniq j hj,this.2⟩
def rest (a p:List Ent) (gone:List ByteArray):List Ent:=p++a.filter fun e=> !hasK p e.key && !gone.any (eqs · e.key)
abbrev OwnsW (w:World) (b n:Nat) (S:List Ent):Prop:=w.ownsMap Tryz.prog 9 (plainElem (H:=Unit) Tryz.prog 9) b n (toD S)
theorem key_str {k:ByteArray} (hk:k.size≤maxLen):keyOf Tryz.prog 9 (.string k)=some (.string (bts k)):=Go.WideMaps.keyOf_string_mk Tryz.underlying9 hk
def srtN (l:List Ent) (j:Nat):List Ent:=srt (l.take j)
theorem srtN_succ (l:List Ent) (j:Nat) (hj:j < l.length):toD (srtN l (j+1))=(toD (srtN l j)).put (.string (bts l[j].key)) (.lit (.string (bts l[j].text))):=by
 rw[toD_put];unfold srtN srt;rw[List.take_succ_eq_append_getElem hj,List.foldl_append];rfl
theorem load_zero {l:List Bun} (h:loadFault l=0) (j:Nat) (hj:j < l.length):bunFault l[j]=0∧∀ q (h:q < j),l[q].tag≠l[j].tag:=by
 have h1:=(firstN_zero_iff _ _).1 h j hj;unfold loadAt at h1;have hg:l.getD j noBun=l[j]:=by rw[List.getD_eq_getElem?_getD,List.getElem?_eq_getElem hj];rfl
 rw[hg]at h1
 by_cases hf:bunFault l[j]=0
 ·rw[if_pos hf]at h1;refine⟨hf,fun q hq e=> ?_⟩;have:(l.take j).any (fun b=>eqs b.tag l[j].tag)=true:=by
   rw[List.any_eq_true];exact⟨l[q],List.mem_iff_getElem.2 ⟨q,by rw[List.length_take];omega,by rw[List.getElem_take]⟩,(eqs_iff _ _).2 e⟩
  rw[if_pos this]at h1;exact absurd h1 (by decide)
 ·rw[if_neg hf]at h1;exact absurd h1 hf
theorem load_twice {l:List Bun} (j:Nat) (hj:j < l.length) (h0:∀ q (h:q < j),loadAt l q=0) (hf:bunFault l[j]=0) (q:Nat) (hq:q < j) (ht:l[q].tag=l[j].tag):loadFault l=5:=by
 have hg:l.getD j noBun=l[j]:=by rw[List.getD_eq_getElem?_getD,List.getElem?_eq_getElem hj];rfl
 have h5:loadAt l j=5:=by
  unfold loadAt;rw[hg,if_pos hf,if_pos];rw[List.any_eq_true];exact⟨l[q],List.mem_iff_getElem.2 ⟨q,by rw[List.length_take];omega,by rw[List.getElem_take]⟩,(eqs_iff _ _).2 ht⟩
 unfold loadFault;rw[firstN_at _ j h0 (by rw[h5];decide) _ hj,h5]
theorem load_bad {l:List Bun} (j:Nat) (hj:j < l.length) (h0:∀ q (h:q < j),loadAt l q=0) (hf:bunFault l[j]≠0):loadFault l=bunFault l[j]:=by
 have hg:l.getD j noBun=l[j]:=by rw[List.getD_eq_getElem?_getD,List.getElem?_eq_getElem hj];rfl
 have h5:loadAt l j=bunFault l[j]:=by unfold loadAt;rw[hg,if_neg hf]
 unfold loadFault;rw[firstN_at _ j h0 (by rw[h5];exact hf) _ hj,h5]
theorem load_next {l:List Bun} (j:Nat) (hj:j < l.length) (hf:bunFault l[j]=0) (hn:∀ q (h:q < j),l[q].tag≠l[j].tag):loadAt l j=0:=by
 have hg:l.getD j noBun=l[j]:=by rw[List.getD_eq_getElem?_getD,List.getElem?_eq_getElem hj];rfl
 unfold loadAt;rw[hg,if_pos hf,if_neg];rw[List.any_eq_true];rintro⟨b,hb,he⟩;obtain⟨q,hq,rfl⟩:=List.mem_iff_getElem.1 hb;rw[List.length_take]at hq;rw[List.getElem_take]at he;exact hn q (by omega) ((eqs_iff _ _).1 he)
structure VR where
 blk:Nat
 held:Nat
 buns:List Bun
def pickV (q:Nat→VR→Bool):Nat→List VR→List (Nat×Nat)
 | _,[]=>[]
 | k,r::rs=>if q k r then(k,r.blk)::pickV q (k+1) rs else pickV q (k+1) rs
theorem pickV_snoc (q:Nat→VR→Bool) (r:VR):∀(vs:List VR) (k:Nat),pickV q k (vs++[r])=pickV q k vs++(if q (k+vs.length) r then [(k+vs.length,r.blk)]else [])
 | [],k=>by
   show(if q k r then _ else _)=_
   simp only[pickV,List.length_nil,Nat.add_zero,List.nil_append]
 | a::vs,k=>by
   have ih:=pickV_snoc q r vs (k+1);have e:k+1+vs.length=k+(a::vs).length:=by simp;omega
   rw[e]at ih;show(if q k a then(k,a.blk)::pickV q (k+1) (vs++[r])else pickV q (k+1) (vs++[r]))=(if q k a then(k,a.blk)::pickV q (k+1) vs else pickV q (k+1) vs)++_
   rw[ih];split <;> simp
theorem pickV_filter (q:Nat→VR→Bool) (f:Nat×Nat→Bool):∀(vs:List VR) (k:Nat),(pickV q k vs).filter f=pickV (fun k r=>q k r && f (k,r.blk)) k vs
 | [],k=>rfl
 | a::vs,k=>by
   have ih:=pickV_filter q f vs (k+1);show(if q k a then(k,a.blk)::pickV q (k+1) vs else pickV q (k+1) vs).filter f=(if(q k a && f (k,a.blk))then _ else _)
   cases h1:q k a with
   | false=>simp only[Bool.false_eq_true,if_false,Bool.false_and];exact ih
   | true=>
     simp only[if_true,Bool.true_and];rw[List.filter_cons];cases h2:f (k,a.blk)with
     | true=>simp only[if_true];rw[ih]
     | false=>simp only[Bool.false_eq_true,if_false];exact ih
theorem pickV_congr {q q':Nat→VR→Bool}:∀(vs vs':List VR) (k:Nat),vs.length=vs'.length→(∀ i (h:i < vs.length) (h':i < vs'.length),q (k+i) vs[i]=q' (k+i) vs'[i]∧vs[i].blk=vs'[i].blk)→pickV q k vs=pickV q' k vs'
 | [],[],_,_,_=>rfl
 | [],b::vs',_,h,_=>by simp at h
 | a::vs,[],_,h,_=>by simp at h
 | a::vs,b::vs',k,hl,h=>by
   have h0:=h 0 (by simp) (by simp)
   simp only[Nat.add_zero,List.getElem_cons_zero]at h0;have ih:=pickV_congr (q:=q) (q':=q') vs vs' (k+1) (by simpa using hl) fun i h1 h2=>by
    have h3:=h (i+1) (by simpa using h1) (by simpa using h2)
    simp only[List.getElem_cons_succ]at h3;have e:k+1+i=k+(i+1):=by omega
    rw[e];exact h3
   show(if q k a then(k,a.blk)::pickV q (k+1) vs else pickV q (k+1) vs)=(if q' k b then(k,b.blk)::pickV q' (k+1) vs' else pickV q' (k+1) vs')
   rw[h0.1,h0.2,ih]
theorem mem_pickV {q:Nat→VR→Bool} {m a:Nat}:∀ {vs:List VR} {k:Nat},(m,a)∈pickV q k vs↔∃ i,∃ h:i < vs.length,m=k+i∧a=vs[i].blk∧q (k+i) vs[i]=true
 | [],k=>by simp[pickV]
 | b::vs,k=>by
   have ih:=mem_pickV (q:=q) (m:=m) (a:=a) (vs:=vs) (k:=k+1);have e:(m,a)∈pickV q k (b::vs)↔(q k b=true∧m=k∧a=b.blk)∨(m,a)∈pickV q (k+1) vs:=by
    show(m,a)∈(if q k b then(k,b.blk)::pickV q (k+1) vs else pickV q (k+1) vs)↔_
    cases h:q k b with
    | true=>simp
    | false=>simp
   rw[e,ih]
   constructor
   ·rintro(⟨h1,h2,h3⟩|⟨i,h,h1,h2,h3⟩)
    ·exact⟨0,by simp,h2,h3,by simpa using h1⟩
    ·have e2:k+1+i=k+(i+1):=by omega
     exact⟨i+1,by simpa using h,by omega,by simpa using h2,by rw[←e2];simpa using h3⟩
   ·rintro⟨i,h,h1,h2,h3⟩;cases i with
    | zero=>exact .inl ⟨by simpa using h3,h1,by simpa using h2⟩
    | succ i=>
      have e2:k+1+i=k+(i+1):=by omega
      exact .inr ⟨i,by simpa using h,by omega,by simpa using h2,by rw[e2];simpa using h3⟩
def live (N k:Nat) (r:VR):Bool:=k == N || r.held != 0
def keptV (vs:List VR):List (Nat×Nat):=pickV (live vs.length) 1 vs
def heldOf (vs:List VR) (a:Nat):Nat:=((vs.find? fun r=>r.blk == a).map (·.held)).getD 0
theorem heldOf_at {vs:List VR} (hn:vs.Pairwise fun a b=>a.blk≠b.blk) (i:Nat) (h:i < vs.length):heldOf vs vs[i].blk=vs[i].held:=by
 unfold heldOf
 induction vs generalizing i with
 | nil=>cases h
 | cons a r ih=>
   obtain⟨h1,h2⟩:=List.pairwise_cons.1 hn;cases i with
   | zero=>rw[List.find?_cons];simp
   | succ i=>
     have hi:i < r.length:=by simpa using h
     have hne:(a.blk == r[i].blk)=false:=by rw[beq_eq_false_iff_ne];exact h1 _ (List.getElem_mem hi)
     have e:(a::r)[i+1]=r[i]:=rfl;rw[e,List.find?_cons,hne];exact ih h2 i hi
theorem clean_pick {q:Nat→VR→Bool} {vs:List VR} (hn:vs.Pairwise fun a b=>a.blk≠b.blk) (h:∀ i (hi:i < vs.length),live vs.length (1+i) vs[i]=true→q (1+i) vs[i]=true):
 (pickV q 1 vs).filter (fun p=> !(p.1 != vs.length && heldOf vs p.2 == 0))=keptV vs:=by
 rw[pickV_filter];refine pickV_congr _ _ _ rfl fun i hi _=>⟨?_,rfl⟩;have h1:=h i hi;show(q (1+i) vs[i] && !((1+i) != vs.length && heldOf vs vs[i].blk == 0))=live vs.length (1+i) vs[i];rw[heldOf_at hn i hi];unfold live at h1 ⊢;cases hq:q (1+i) vs[i]with
 | true=>
   rw[Bool.true_and,Bool.not_and];simp[bne]
 | false=>
   rw[hq]at h1;cases hl:(1+i == vs.length || vs[i].held != 0)with
   | true=>exact absurd (h1 hl) (by decide)
   | false=>rfl
theorem kept_more (vs:List VR) (r:VR):keptV vs++[(vs.length+1,r.blk)]=pickV (fun k x=>k == vs.length+1 || live vs.length k x) 1 (vs++[r]):=by
 rw[pickV_snoc];have e:1+vs.length=vs.length+1:=by omega
 rw[e];simp only[beq_self_eq_true,Bool.true_or,if_true]
 congr 1
 refine pickV_congr _ _ _ rfl fun i hi _=>⟨?_,rfl⟩;have:(1+i == vs.length+1)=false:=by rw[beq_eq_false_iff_ne];omega
 rw[this,Bool.false_or]
def entV (p:Nat×Nat):Lit×DataW Nat:=(.int .i64 p.1,.held p.2)
def toV (S:List (Nat×Nat)):DataW Nat:=.map (S.map entV)
theorem sameKey_int (a b:Int):(Lit.int .i64 a).sameKey (.int .i64 b)=decide (a=b):=by
 show decide (_∧_)=_;simp
theorem insert_end (x:Nat×Nat):∀ S:List (Nat×Nat),(∀ p∈S,p.1 < x.1)→DataW.insert (entV x) (S.map entV)=(S++[x]).map entV
 | [],_=>rfl
 | y::r,h=>by
   have h1:y.1 < x.1:=h y List.mem_cons_self;have e:(entV x).1.before (entV y).1=false:=by
    show decide ((x.1:Int) < y.1)=false;exact decide_eq_false (by omega)
   rw[List.map_cons,DataW.insert,e];simp only[Bool.false_eq_true,if_false];rw[insert_end x r fun p hp=>h p (List.mem_cons_of_mem _ hp)]
   rfl
theorem toV_put (S:List (Nat×Nat)) (n a:Nat) (h:∀ p∈S,p.1 < n):(toV S).put (.int .i64 n) (.held a)=toV (S++[(n,a)]):=by
 show DataW.map (DataW.insert (entV (n,a)) ((S.map entV).filter fun p=> !p.1.sameKey (.int .i64 n)))=_;have e:((S.map entV).filter fun p=> !p.1.sameKey (.int .i64 n))=S.map entV:=by
  rw[List.filter_eq_self];intro p hp;obtain⟨y,hy,rfl⟩:=List.mem_map.1 hp;show(!(Lit.int .i64 (y.1:Int)).sameKey (.int .i64 n))=true;rw[sameKey_int];have:=h y hy;simp;omega
 rw[e,insert_end (n,a) S h];rfl
theorem toV_delete (f:Nat×Nat→Bool) (pd:Lit→DataW Nat→Bool) (S:List (Nat×Nat)) (h:∀ p∈S,pd (.int .i64 p.1) (.held p.2)=f p):Lib.deleteFuncD pd (toV S)=toV (S.filter fun p=> !f p):=by
 show DataW.map ((S.map entV).filter fun q=> !pd q.1 q.2)=_;rw[List.filter_map];unfold toV
 congr 2
 refine List.filter_congr fun e he=> ?_;show(!pd (.int .i64 e.1) (.held e.2))=_;rw[h e he]
open Go.WideElems (Fit rd rg pl rd_val rg_of)
theorem mem_insert {H:Type} {x p:Lit×DataW H}:∀ {l:List (Lit×DataW H)},p∈DataW.insert x l↔p=x∨p∈l
 | []=>by simp[DataW.insert]
 | y::r=>by
   unfold DataW.insert;split
   ·simp
   ·simp only[List.mem_cons,mem_insert (l:=r)]
    constructor
    ·rintro(h|h|h)
     ·exact .inr (.inl h)
     ·exact .inl h
     ·exact .inr (.inr h)
    ·rintro(h|h|h)
     ·exact .inr (.inl h)
     ·exact .inl h
     ·exact .inr (.inr h)
theorem mem_sorted {H:Type} {p:Lit×DataW H}:∀ {l:List (Lit×DataW H)},p∈l.foldr DataW.insert []↔p∈l
 | []=>by simp
 | y::r=>by rw[List.foldr_cons,mem_insert,mem_sorted (l:=r),List.mem_cons]
theorem owns_sub {H:Type} {P:Program} {k:TypeId} {R R':Value→Option (DataW H×List MemPlace)} {w:World} {b n:Nat} {es:List (Lit×DataW H)} (h:w.ownsMap P k R b n (.map es))
 (hD:∀ p∈es,∀ v ps,R v=some (p.2,ps)→R' v=some (p.2,ps)):w.ownsMap P k R' b n (.map es):=by
 obtain⟨arr,clock,hb,F,hs,hD0⟩:=h;injection hD0 with hD0;have hst:∀ x∈arr.toList,∀ z,R x.val=some z→R' x.val=some z:=fun x hx z hz=>by
  obtain⟨y,hy⟩:=F.reads x hx;obtain⟨z',h1,h2⟩:=rd_val hy;rw[hz]at h1;injection h1 with h1;subst h1;have hm:y∈es:=by
   rw[hD0];exact mem_sorted.2 (List.mem_map.2 ⟨x,hx,rg_of hy⟩)
  have h3:=hD y hm x.val z.2 (by rw[hz,h2])
  rw[h2]at h3;exact h3
 obtain⟨F1,hmap,_⟩:=F.stay hst;exact⟨arr,clock,hb,F1,hs,by rw[hmap,hD0]⟩
def adr (b:Nat):ByteArray:=str (List.replicate (b+1) 0)
theorem adr_size (b:Nat):(adr b).size=b+1:=by unfold adr;rw[str_size,List.length_replicate]
theorem bts_adr (b:Nat):bts (adr b)=List.replicate (b+1) 0:=by unfold adr;rw[bts_str]
theorem adr_inj {a b:Nat} (h:adr a=adr b):a=b:=by
 have:=congrArg ByteArray.size h;rw[adr_size,adr_size]at this;omega
def mapR (v:Value):Option (DataW Unit×List MemPlace):=match v with
 | .map none=>some (.lit (.string []),[])
 | .map (some b)=>some (.lit (.string (List.replicate (b+1) 0)),[])
 | _=>none
theorem mapR_some (b:Nat):mapR (.map (some b))=some (.lit (.string (bts (adr b))),[]):=by rw[bts_adr];rfl
theorem mapR_inv {v:Value} {l:List UInt8} {ps:List MemPlace} (h:mapR v=some (.lit (.string l),ps)):(l=[]∧v=.map none)∨∃ b,l=bts (adr b)∧v=.map (some b):=by
 unfold mapR at h;split at h
 ·injection h with h;injection h with h1 h2;injection h1 with h1;injection h1 with h1;exact .inl ⟨h1.symm,rfl⟩
 ·rename_i b
  injection h with h;injection h with h1 h2;injection h1 with h1;injection h1 with h1;exact .inr ⟨b,by rw[bts_adr];exact h1.symm,rfl⟩
 ·cases h
def ptrR (v:Value):Option (DataW Nat×List MemPlace):=match v with
 | .pointer none=>some (.nil,[])
 | .pointer (some ⟨a,0,none⟩)=>some (.held a,[])
 | _=>none
theorem ptrR_held {v:Value} {a:Nat} {ps:List MemPlace} (h:ptrR v=some (.held a,ps)):v=.pointer (some ⟨a,0,none⟩):=by
 unfold ptrR at h;split at h
 ·injection h with h;injection h with h1 h2;cases h1
 ·injection h with h;injection h with h1 h2;injection h1 with h1;rw[h1]
 ·cases h
def ptrIn (L:List Nat) (v:Value):Option (DataW Nat×List MemPlace):=match v with
 | .pointer (some ⟨a,0,none⟩)=>if a∈L then some (.held a,[])else none
 | _=>none
theorem ptrIn_inv {L:List Nat} {v:Value} {d:DataW Nat} {ps:List MemPlace} (h:ptrIn L v=some (d,ps)):∃ a,a∈L∧v=.pointer (some ⟨a,0,none⟩)∧d=.held a:=by
 unfold ptrIn at h;split at h
 ·rename_i a
  split at h
  ·rename_i ha
   injection h with h;injection h with h1 h2;exact⟨a,ha,rfl,h1.symm⟩
  ·cases h
 ·cases h
theorem ptrR_in {L:List Nat} {v:Value} {d:DataW Nat} {ps:List MemPlace} {a:Nat} (ha:a∈L) (hd:d=.held a) (h:ptrR v=some (d,ps)):ptrIn L v=some (d,ps):=by
 subst hd;have hps:ps=[]:=by
  unfold ptrR at h;split at h
  ·injection h with h;injection h with h1 h2;cases h1
  ·injection h with h;injection h with h1 h2;exact h2.symm
  ·cases h
 rw[ptrR_held h,hps];unfold ptrIn;simp[ha]
theorem ptrIn_R {L:List Nat} {v:Value} {z:DataW Nat×List MemPlace} (h:ptrIn L v=some z):ptrR v=some z:=by
 unfold ptrIn at h;split at h
 ·split at h
  ·exact h
  ·cases h
 ·cases h
abbrev OwnsA (w:World) (b n:Nat) (S:List Ent):Prop:=w.ownsMap Tryz.prog 9 mapR b n (toD S)
abbrev OwnsN (w:World) (b n:Nat) (S:List (Nat×Nat)):Prop:=w.ownsMap Tryz.prog 3 ptrR b n (toV S)
theorem lawI:Keyed Tryz.prog 3:=int_keyed Tryz.underlying3
theorem key_num {n:Int} (h1: -9223372036854775808≤n) (h2:n≤9223372036854775807):keyOf Tryz.prog 3 (.int .i64 n)=some (.int .i64 n):=keyOf_int_mk Tryz.underlying3 (by
 have e1:IntKind.i64.min= -9223372036854775808:=by decide
 have e2:IntKind.i64.max=9223372036854775807:=by decide
 show(decide (IntKind.i64.min≤n) && decide (n≤IntKind.i64.max))=true;rw[e1,e2,decide_eq_true h1,decide_eq_true h2];rfl)
theorem zero_map (w:World):(zeroValue 147).run Tryz.prog w=.ok (.map none) w:=by kernel_rfl
theorem owns_lt {H:Type} {P:Program} {k:TypeId} {R:Value→Option (DataW H×List MemPlace)} {w:World} {b n:Nat} {D:DataW H} (h:w.ownsMap P k R b n D):b < w.heap.size:=h.lt
theorem owns_fr {H:Type} {P:Program} {k:TypeId} {R:Value→Option (DataW H×List MemPlace)} {w w':World} {b n:Nat} {D:DataW H} {X:Nat→Prop} (h:w.ownsMap P k R b n D) (hf:Fr w w' X) (hX:¬ X b):w'.ownsMap P k R b n D:=by
 have hlt:=h.lt;obtain⟨es,clock,hb,F,hs,hD⟩:=h;exact⟨es,clock,(hf.block b hlt hX).trans hb,F,hs,hD⟩
theorem owns_ne_blk {H:Type} {P:Program} {k:TypeId} {R:Value→Option (DataW H×List MemPlace)} {w:World} {b n g:Nat} {t:TypeId} {cs:Array Value} {D:DataW H} (h:w.ownsMap P k R b n D) (hk:Blk w g t cs):b≠g:=by
 intro e;obtain⟨es,clock,hb,_⟩:=h;rw[e]at hb;have:=hb.symm.trans hk;injection this with this;cases this
theorem look_no {w:World} {b n:Nat} {S:List Ent} (h:OwnsA w b n S) (k:ByteArray) (hk:k.size≤maxLen) (hn:hasK S k=false):
 (Instr.lookup 144 (.map (some b)) (.string k) false).run Tryz.prog w=.ok (.map none) w:=by
 obtain⟨v,ps,hrun,hv⟩:=h.lookup lawS Tryz.underlying144 (zero_map w) (zd:=.lit (.string [])) (zp:=[]) rfl (key_str hk);rw[toD_at,textK_none.2 hn]at hv;rcases mapR_inv hv with⟨_,rfl⟩|⟨b',e,_⟩
 ·exact hrun
 ·rw[bts_adr]at e;cases e
theorem look_yes {w:World} {b n mb:Nat} {S:List Ent} (h:OwnsA w b n S) (k:ByteArray) (hk:k.size≤maxLen) (ht:textK S k=some (adr mb)):
 (Instr.lookup 144 (.map (some b)) (.string k) false).run Tryz.prog w=.ok (.map (some mb)) w:=by
 obtain⟨v,ps,hrun,hv⟩:=h.lookup lawS Tryz.underlying144 (zero_map w) (zd:=.lit (.string [])) (zp:=[]) rfl (key_str hk);rw[toD_at,ht]at hv;rcases mapR_inv hv with⟨e,_⟩|⟨b',e,rfl⟩
 ·rw[bts_adr]at e;cases e
 ·obtain rfl:mb=b':=adr_inj (bts_inj e);exact hrun
structure Words (w:World) (base:Nat) (S:List Ent) (buns:List Bun):Prop where
 yes:∀ b∈buns,∃ mb k,textK S b.tag=some (adr mb)∧base≤mb∧OwnsW w mb k (srt b.ents)
 no:∀ tag,(∀ b∈buns,b.tag≠tag)→hasK S tag=false
theorem Words.fr {w w':World} {base:Nat} {S:List Ent} {buns:List Bun} {X:Nat→Prop} (h:Words w base S buns) (hf:Fr w w' X) (hX:∀ mb k T,base≤mb→OwnsW w mb k T→¬ X mb):Words w' base S buns:=
 ⟨fun b hb=>let ⟨mb,k,h1,h2,h3⟩:=h.yes b hb;⟨mb,k,h1,h2,owns_fr h3 hf (hX mb k _ h2 h3)⟩,h.no⟩
structure VerOk (w:World) (base:Nat) (r:VR):Prop where
 lo:base≤r.blk
 fine:loadFault r.buns=0
 rec_:∃ wb S n,Blk w r.blk 146 #[.map (some wb),.int .i64 r.held]∧base≤wb∧OwnsA w wb n S∧Words w base S r.buns
theorem VerOk.lt {w:World} {base:Nat} {r:VR} (h:VerOk w base r):r.blk < w.heap.size:=let ⟨_,_,_,h1,_⟩:=h.rec_;h1.lt
theorem VerOk.fr {w w':World} {base:Nat} {r:VR} {X:Nat→Prop} (h:VerOk w base r) (hf:Fr w w' X) (hX:∀ k,X k→k < base):VerOk w' base r:=by
 obtain⟨wb,S,n,h1,h2,h3,h4⟩:=h.rec_;exact⟨h.lo,h.fine,wb,S,n,h1.fr hf (fun hx=>by have:=hX _ hx;have:=h.lo;omega),h2,owns_fr h3 hf (fun hx=>by have:=hX _ hx;omega),h4.fr hf fun mb k T hm _ hx=>by have:=hX _ hx;omega⟩
def StX (p M:Nat) (vs:List VR) (k:Nat):Prop:=k=p∨k=M∨∃ r∈vs,k=r.blk
structure StoreIn (B b1:Nat) (w:World) (p M:Nat) (vs:List VR) (S:List (Nat×Nat)):Prop where
 lp:B≤p∧p < b1
 lM:B≤M∧M < b1
 box:Blk w p 142 #[.int .i64 vs.length,.map (some M)]
 all:∃ n,n≤vs.length∧OwnsN w M n S
 vers:∀ r∈vs,VerOk w b1 r
 apart:vs.Pairwise fun a b=>a.blk≠b.blk
abbrev StoreSt (B b1:Nat) (w:World) (p M:Nat) (vs:List VR):Prop:=StoreIn B b1 w p M vs (keptV vs)
theorem StoreIn.fr {B b1:Nat} {w w':World} {p M:Nat} {vs:List VR} {S:List (Nat×Nat)} {X:Nat→Prop} (h:StoreIn B b1 w p M vs S) (hf:Fr w w' X) (hX:∀ k,X k→k < B):StoreIn B b1 w' p M vs S:=
 ⟨h.lp,h.lM,h.box.fr hf fun hx=>by have:=hX _ hx;have:=h.lp;omega,let ⟨n,h1,h2⟩:=h.all;⟨n,h1,owns_fr h2 hf fun hx=>by have:=hX _ hx;have:=h.lM;omega⟩,
   fun r hr=>(h.vers r hr).fr hf fun k hk=>by have:=hX _ hk;have:=h.lp;omega,h.apart⟩
theorem StoreIn.keep {B b1:Nat} {w w':World} {p M:Nat} {vs:List VR} {S:List (Nat×Nat)} (h:StoreIn B b1 w p M vs S) (hb:Below w.heap.size w w'):StoreIn B b1 w' p M vs S:=h.fr (Fr.of_below hb fun _=>False) fun k hk=>hk.elim
end Go.Proofs.YtpfmmbbggcghiaaGreatDoor
namespace Go.Proofs
open Go.Shelf
def Tryz.layDel_ren:Go.Shelf.Ren:=⟨fun|5=>100|n=>n,fun|23=>140|26=>3|24=>143|27=>203|0=>0|4=>4|n=>n,fun|n=>n⟩
theorem Tryz.layDel:Go.Proofs.SlLaysDf.n5 Tryz.prog Tryz.layDel_ren:= {
 mixed:=by kernel_rfl
 f5:=⟨Tryz.f100.name,by decide,Tryz.func100.trans (congrArg some (by kernel_rfl))⟩
 t0:=Tryz.underlying0
 a0:=Tryz.isAgg0
 z0:=Tryz.sizeOf0
 v0:=Tryz.zeroValue0
 t4:=Tryz.underlying4
 a4:=Tryz.isAgg4
 z4:=Tryz.sizeOf4
 v4:=Tryz.zeroValue4
 t23:=Tryz.underlying140
 a23:=Tryz.isAgg140
 z23:=Tryz.sizeOf140
 v23:=Tryz.zeroValue140
 a24:=Tryz.isAgg143
 z24:=Tryz.sizeOf143
 a26:=Tryz.isAgg3
 z26:=Tryz.sizeOf3
 t27:=Tryz.underlying203
 a27:=Tryz.isAgg203
 z27:=Tryz.sizeOf203
 v27:=Tryz.zeroValue203 }
end Go.Proofs
namespace Go.Proofs.YtpfmmbbggcghiaaGreatDoor
open Go.RowKit
@[go_sem] theorem cell_drewN_alloc (w:World) (n:Nat) (o:Obj) (k i:Nat) (h:k < w.heap.size):((w.drewN n).alloc o).cell? ⟨k,i,none⟩=w.cell? ⟨k,i,none⟩:=World.cell?_alloc_lt (w.drewN n) o ⟨k,i,none⟩ h
@[go_sem] theorem frozen_drewN_alloc (w:World) (n:Nat) (o:Obj) (k i:Nat) (h:k < w.heap.size):((w.drewN n).alloc o).frozen? ⟨k,i,none⟩=w.frozen? ⟨k,i,none⟩:=by
  have h1:Below w.heap.size w ((w.drewN n).alloc o):=Below.alloc (a:=w) (w:=w.drewN n) ⟨rfl,rfl,rfl,Nat.le_refl _,fun _ _=>rfl⟩ (Nat.le_refl _) o;exact h1.frozen (p:=⟨k,i,none⟩) h
example (wr:World) (n bx:Nat) (o:Obj) (v:Value) (h:bx < wr.heap.size) (b1:wr.cell? ⟨bx,1,none⟩=some v):((wr.drewN n).alloc o).cell? ⟨bx,1,none⟩=some v:=by
 go_simp
end Go.Proofs.YtpfmmbbggcghiaaGreatDoor
