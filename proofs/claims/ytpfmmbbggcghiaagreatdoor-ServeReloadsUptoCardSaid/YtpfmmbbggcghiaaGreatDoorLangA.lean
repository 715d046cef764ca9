/- The speaker: one block of eight cells (a set, the args, a builder at offset 6): what its builder's methods do. -/
import Derived.Test.YtpfmmbbggcghiaaGreatDoorEvlB
set_option linter.unusedSimpArgs false
set_option linter.unusedVariables false
set_option maxHeartbeats 12800000
set_option maxRecDepth 100000
namespace Go.Proofs.YtpfmmbbggcghiaaGreatDoor
open Go.RowKit
open Lib (hid)
structure BwK (B k:Nat) (w w':World):Prop where
 below:Below B w w'
 kept:∀ g,g < w.heap.size→g≠k→(∀ cs f,w.heap[g]? ≠some (.cells cs 5 f))→w'.heap[g]? =w.heap[g]?
section
variable {B k:Nat} {w w1 w':World}
theorem BwK.refl (B k:Nat) (w:World):BwK B k w w:=⟨Below.refl _ _,fun _ _ _ _=>rfl⟩
theorem BwK.trans (h:BwK B k w w1) (h2:BwK B k w1 w'):BwK B k w w':=
 ⟨h.below.trans h2.below,fun g hg hk hn=>by
   have h3:=h.kept g hg hk hn;exact(h2.kept g (Nat.lt_of_lt_of_le hg h.below.size) hk (fun cs f=>by rw[h3];exact hn cs f)).trans h3⟩
theorem BwK.setCell (h:BwK B k w w1) (hB:B≤k) (j:Nat) (v:Value):BwK B k w (w1.setCell ⟨k,j,none⟩ v):=
 h.trans ⟨(Below.refl _ _).setCell (p:=⟨k,j,none⟩) hB v,fun g _ hk _=>Below.heap_setCell _ _ _ _ hk⟩
theorem BwK.blk (h:BwK B k w w') {g:Nat} {t:TypeId} {cs:Array Value} (hb:Blk w g t cs) (hk:g≠k) (ht:t≠5):Blk w' g t cs:=
 (h.kept g hb.lt hk (fun cs' f e=>by
   unfold Blk at hb;rw[hb]at e;injection e with e;injection e with _ e;exact ht e)).trans hb
theorem BwK.grown {v:Value} {n:Nat} {xs:List Value} (h:BwK B k w w1) (hown:w1.ownsRow B 5 1 v n xs) (hg:w1.grownBy w' v.ownBlock) (hB:B≤w1.heap.size):BwK B k w w':=
 h.trans ⟨(Below.refl B w1).grown hg hB (fun k hk=>(own_lt hown hk).1),fun g hgl _ hn=>hg.block g hgl (fun e=>by
  obtain⟨_,⟨h2,_⟩|⟨g',cap,cur,hv,_,hh,_⟩⟩:=hown
  ·rw[h2]at e;cases e
  ·rw[hv]at e;injection e with e;subst e;exact hn _ _ hh)⟩
end
theorem numT_len (d:DecV):(numT d).length≤400:=by
 unfold numT;split
 ·rename_i h
  have hok:d.ok:=by
   rcases Classical.em d.ok with h1|h1
   ·exact h1
   ·unfold numE at h;rw[if_neg h1]at h;exact absurd h (by decide)
  obtain⟨_,h2,_,h4⟩:=fmt_len d hok;unfold numS;dsimp only;split <;> split <;> (try rw[List.length_append]) <;> (try simp only[List.length_append,List.length_cons,List.length_nil]) <;> omega
 ·simp
structure ArgV where
 name:ByteArray
 isNum:Bool
 num:DecV
 text:ByteArray
def ArgV.cells (a:ArgV):List Value:=[.string a.name,.bool a.isNum,.int .i64 a.num.coef,.int .i64 a.num.scale,.string a.text]
def ArgV.val (a:ArgV):Value:=.agg #[.string a.name,.bool a.isNum,.int .i64 a.num.coef,.int .i64 a.num.scale,.string a.text]
def Enc.argV:Enc ArgV:=⟨5,56,fun _ _ _ cs a=>cs=a.cells,fun B a=>a.name.size≤B∧((Lit.int .i64 a.num.coef).wf=true∧(Lit.int .i64 a.num.scale).wf=true)∧a.text.size≤B,fun a=>a.name.size+a.text.size+5⟩
theorem Enc.argV_laws:Enc.argV.Laws:=⟨fun h=>by cases h;rfl,fun h _=>h,fun h _ _=>h⟩
theorem ListOk.argVAt {w:World} {lo hi:Nat} {A:Option Addr} {n c:Nat} {l:List ArgV} (h:ListOk Enc.argV w lo hi (.slice A n c) l) (i:Nat) (hl:i < l.length):
 ∃ b o,A=some ⟨b,o,none⟩∧lo≤b∧b < hi∧w.cell? ⟨b,o+i*5,none⟩=some (.string l[i].name)∧w.cell? ⟨b,o+i*5+1,none⟩=some (.bool l[i].isNum)∧w.cell? ⟨b,o+i*5+2,none⟩=some (.int .i64 l[i].num.coef)∧w.cell? ⟨b,o+i*5+3,none⟩=some (.int .i64 l[i].num.scale)∧w.cell? ⟨b,o+i*5+4,none⟩=some (.string l[i].text):=by
 obtain⟨A',c',hv,_,hi'⟩:=h;injection hv with hv1 _ _;subst hv1;obtain⟨b,o,cs,hA,h1,h2,h3,h4⟩:=hi' i hl;have h4:cs=l[i].cells:=h4;subst h4;exact⟨b,o,hA,h1,h2,h3 0 _ rfl,h3 1 _ rfl,h3 2 _ rfl,h3 3 _ rfl,h3 4 _ rfl⟩
abbrev KMap:=ByteArray→Option Bool
def putB (f:KMap) (k:ByteArray) (b:Bool):KMap:=fun s=>if s=k then some b else f s
def argE:List ArgV→KMap→Int
 | [],_=>0
 | a::r,f=>if nameR a.name=false then 3 else if a.isNum=true∧¬ a.num.ok then 1 else if(f a.name).isSome=true then 5 else argE r (putB f a.name a.isNum)
def argM (l:List ArgV) (f:KMap):KMap:=l.foldl (fun f a=>putB f a.name a.isNum) f
def needBad (x:Ned) (b:Bool):Bool:=(x.num && !b) || (x.text && b)
def needE:List Ned→KMap→Int
 | [],_=>0
 | x::r,f=>if(f x.name).isSome=false then 2 else if needBad x ((f x.name).getD false)=true then 7 else needE r f
def fitsR (n:Nat) (m:List (Nd n)) (args:List ArgV):Int:=
 if(ofR n m).1≠0 then(ofR n m).1 else if argE args (fun _=>none)≠0 then argE args (fun _=>none)else needE (ofR n m).2 (argM args fun _=>none)
theorem argM_snoc (l:List ArgV) (f:KMap) (j:Nat) (h:j < l.length):argM (l.take (j+1)) f=putB (argM (l.take j) f) l[j].name l[j].isNum:=by
 unfold argM;rw[List.take_succ_eq_append_getElem h,List.foldl_append];rfl
theorem putN_names {P:ByteArray→Prop} {l:List Ned} (h:∀ x∈l,P x.name) (i:Nat) (b c:Bool):∀ x∈putN l i b c,P x.name:=by
 intro x hx;unfold putN at hx;split at hx
 ·rename_i hi
  rcases List.mem_or_eq_of_mem_set hx with hx|rfl
  ·exact h x hx
  ·exact h l[i] (List.getElem_mem hi)
 ·exact h x hx
theorem addN_names {P:ByteArray→Prop} {l:List Ned} (h:∀ x∈l,P x.name) (kind:Int) {t:ByteArray} (ht:P t):∀ x∈addN l kind t,P x.name:=by
 unfold addN;split
 ·exact h
 ·split
  ·refine putN_names (fun x hx=> ?_) _ _ _;rcases List.mem_append.1 hx with hx|hx
   ·exact h x hx
   ·obtain rfl:=List.mem_singleton.1 hx;exact ht
  ·exact putN_names h _ _ _
theorem casA_names {β:Type} {P:ByteArray→Prop} {g:List β→List Ned→List Ned}:∀(cs:List (ByteArray×List β)) (l:List Ned),(∀ c∈cs,∀ l,(∀ x∈l,P x.name)→∀ x∈g c.2 l,P x.name)→(∀ x∈l,P x.name)→∀ x∈casA g cs l,P x.name
 | [],l,_,h=>h
 | c::r,l,hg,h=>casA_names r (g c.2 l) (fun d hd=>hg d (List.mem_cons_of_mem _ hd)) (hg c (List.mem_cons_self ..) l h)
theorem nodA_names {β:Type} {P:ByteArray→Prop} {g:List β→List Ned→List Ned}:∀(m:List (NdF β)) (l:List Ned),(∀ x∈m,P x.text∧∀ c∈x.cases,∀ l,(∀ x∈l,P x.name)→∀ x∈g c.2 l,P x.name)→(∀ x∈l,P x.name)→∀ x∈nodA g m l,P x.name
 | [],l,_,h=>h
 | x::r,l,hm,h=>nodA_names r _ (fun y hy=>hm y (List.mem_cons_of_mem _ hy))
    (casA_names (casesR x) _ (fun c hc=>(hm x (List.mem_cons_self ..)).2 c (casesR_sub hc)) (addN_names h x.kind (hm x (List.mem_cons_self ..)).1))
theorem allN_names:(n:Nat)→(m:List (Nd n))→(l:List Ned)→MsgIn n m→(∀ x∈l,x.name.size≤1000000000)→∀ x∈allN n m l,x.name.size≤1000000000
 | 0,_,l,_,h=>h
 | n+1,m,l,hm,h=>nodA_names (P:=fun s=>s.size≤1000000000) (m:List (NdF (Nd n))) l (fun x hx=>by
    have h1:smallF (SmallN n) x:=hm.each x hx;exact⟨h1.1,fun c hc l hl=>allN_names n c.2 l (hm.body hx hc) hl⟩) h
theorem ofR_names (n:Nat) (m:List (Nd n)) (hm:MsgIn n m):∀ x∈(ofR n m).2,x.name.size≤1000000000:=by
 unfold ofR;split
 ·intro x hx;cases hx
 ·split
  ·intro x hx;cases hx
  ·exact allN_names n m [] hm (fun x hx=>(by cases hx))
theorem ofR_len (n:Nat) (m:List (Nd n)) (hc:cntN n m≤10000000):(ofR n m).2.length≤10000000:=by
 have h:=allN_len n m [];simp at h;unfold ofR;split
 ·exact Nat.zero_le _
 ·split
  ·exact Nat.zero_le _
  ·show(allN n m []).length≤_;omega
end Go.Proofs.YtpfmmbbggcghiaaGreatDoor
namespace Go.Proofs.YtpfmmbbggcghiaaGreatDoor
open Go.RowKit Go.Maps
open Lib (hid)
def heldR:Value→Option (DataW Value×List MemPlace):=fun v=>some (.held v,[])
def OwnsV (w:World) (b n:Nat) (f:ByteArray→Option Value):Prop:=
 ∃ D:DataW Value,w.ownsMap Tryz.prog 9 heldR b n D∧∀ s:ByteArray,has D (.string s.data.toList)=(f s).isSome∧∀ z,D.atKey (.string s.data.toList) (.held z)=.held ((f s).getD z)
theorem keyedS:Keyed Tryz.prog 9:=string_keyed Tryz.underlying9
theorem keyS {k:ByteArray} (hk:k.size≤maxLen):keyOf Tryz.prog 9 (.string k)=some (.string k.data.toList):=Go.WideMaps.keyOf_string_mk Tryz.underlying9 hk
theorem OwnsV.made (w:World):OwnsV (w.alloc (.map #[] 0)) w.heap.size 0 (fun _=>none):=
 ⟨.map [],World.ownsMap_made w _ _ _,fun s=>⟨rfl,fun z=>rfl⟩⟩
theorem OwnsV.lt {w:World} {b n:Nat} {f:ByteArray→Option Value} (h:OwnsV w b n f):b < w.heap.size:=by
 obtain⟨D,h1,_⟩:=h;exact h1.lt
theorem OwnsV.keep {w w':World} {b n:Nat} {f:ByteArray→Option Value} (h:OwnsV w b n f) (hb:w'.heap[b]? =w.heap[b]?):OwnsV w' b n f:=by
 obtain⟨D,⟨es,clock,h1,F,h2,h3⟩,h4⟩:=h;exact⟨D,⟨es,clock,hb.trans h1,F,h2,h3⟩,h4⟩
theorem OwnsV.below {w w':World} {b n B:Nat} {f:ByteArray→Option Value} (h:OwnsV w b n f) (hb:Below B w w') (hB:b < B):OwnsV w' b n f:=h.keep (hb.block b hB)
theorem held_inj {a b:Value} (h:(DataW.held a:DataW Value)=.held b):a=b:=by injection h
theorem OwnsV.look {w:World} {b n:Nat} {f:ByteArray→Option Value} (h:OwnsV w b n f) {t e:TypeId} (ht:Tryz.prog.underlying t=some (.map 9 e)) {z:Value} (hz:(zeroValue e).run Tryz.prog w=.ok z w) {k:ByteArray} (hk:k.size≤maxLen):
 (Instr.lookup t (.map (some b)) (.string k) false).run Tryz.prog w=.ok ((f k).getD z) w:=by
 obtain⟨D,h1,h2⟩:=h;obtain⟨v,ps,hrun,hv⟩:=h1.lookup keyedS ht hz (zd:=.held z) (zp:=[]) rfl (keyS hk);rw[(h2 k).2 z]at hv;have e1:v=(f k).getD z:=held_inj (congrArg Prod.fst (Option.some.inj hv));rw[hrun,e1]
theorem OwnsV.look_ok {w:World} {b n:Nat} {f:ByteArray→Option Value} (h:OwnsV w b n f) {t e:TypeId} (ht:Tryz.prog.underlying t=some (.map 9 e)) {z:Value} (hz:(zeroValue e).run Tryz.prog w=.ok z w) {k:ByteArray} (hk:k.size≤maxLen):
 (Instr.lookup t (.map (some b)) (.string k) true).run Tryz.prog w=.ok (.tuple #[(f k).getD z,.bool (f k).isSome]) w:=by
 obtain⟨D,h1,h2⟩:=h;obtain⟨v,ps,hrun,hv⟩:=h1.look_ok keyedS ht hz (zd:=.held z) (zp:=[]) rfl (keyS hk);rw[(h2 k).2 z]at hv;have e1:v=(f k).getD z:=held_inj (congrArg Prod.fst (Option.some.inj hv));rw[hrun,e1,(h2 k).1]
def putV (f:ByteArray→Option Value) (k:ByteArray) (v:Value):ByteArray→Option Value:=fun s=>if s=k then some v else f s
theorem bytes_inj {a b:ByteArray} (h:a.data.toList=b.data.toList):a=b:=by
 cases a;cases b;simp only[ByteArray.mk.injEq];exact Array.toList_inj.1 h
theorem OwnsV.put {w:World} {b n:Nat} {f:ByteArray→Option Value} (h:OwnsV w b n f) {t e:TypeId} (ht:Tryz.prog.underlying t=some (.map 9 e)) (hn:n < maxLen) {k:ByteArray} (hk:k.size≤maxLen) (v:Value):
 ∃ w',(Instr.mapUpdate t (.map (some b)) (.string k) v).run Tryz.prog w=.ok () w'∧OwnsV w' b (n+1) (putV f k v)∧w.mapTurned w' b:=by
 obtain⟨D,h1,h2⟩:=h;obtain⟨w',hrun,h3,h4⟩:=h1.store keyedS ht hn (keyS hk) (val:=v) (d:=.held v) (ps:=[]) rfl;refine⟨w',hrun,⟨_,h3,fun s=> ?_⟩,h4⟩;have hm:=h1.isMap
 by_cases hs:s=k
 ·subst hs;unfold putV;rw[if_pos rfl];refine⟨has_put_same hm ?_ _,fun z=> ?_⟩
  ·exact trivial
  ·rw[atKey_put_same hm ?_]
   ·rfl
   ·exact trivial
 ·have hne:(Lit.string s.data.toList)≠.string k.data.toList:=fun e=>hs (bytes_inj (Lit.string.inj e));unfold putV;rw[if_neg hs];exact⟨(has_put_other hne _).trans (h2 s).1,fun z=>(atKey_put_other hne _ _).trans ((h2 s).2 z)⟩
theorem wpList_insert_V {w:World} {ops:Array Oper} {rest:List Oper} {o:Oper} {a:Act} {Q:Exit→Act→World→Prop}
 (hg:o.guard=none) (m x v:Operand) (t e:TypeId) (hop:o.op=Op.insert t m x v) (ht:Tryz.prog.underlying t=some (.map 9 e)) (b n:Nat) (f:ByteArray→Option Value)
 (hm:a.eval m=.map (some b)) (hown:OwnsV w b n f) (hn:n < maxLen) (key:ByteArray) (val:Value) (hx:a.eval x=.string key) (hv:a.eval v=val) (hk:key.size≤maxLen)
 (hK:∀ w',OwnsV w' b (n+1) (putV f key val)→w.grownBy w' (some b)→wpList Tryz.prog ops Q rest (a.put o.dst undef) w'):
 wpList Tryz.prog ops Q (o::rest) a w:=by
 refine wpList_plain hg fun K' hK'=> ?_;obtain⟨w',hrun,r1,r2⟩:=hown.put ht hn hk val;unfold Oper.wp;simp[execOp,hop,hm,hx,hv,hrun,Result.andThen];exact hK' _ _ (hK w' r1 r2.grown)
theorem wpList_update_V {w:World} {ops:Array Oper} {rest:List Oper} {o:Oper} {a:Act} {Q:Exit→Act→World→Prop}
 (hg:o.guard=none) (m x v:Operand) (t e:TypeId) (hop:o.op=Op.mapUpdate t m x v) (ht:Tryz.prog.underlying t=some (.map 9 e)) (b n:Nat) (f:ByteArray→Option Value)
 (hm:a.eval m=.map (some b)) (hown:OwnsV w b n f) (hn:n < maxLen) (key:ByteArray) (val:Value) (hx:a.eval x=.string key) (hv:a.eval v=val) (hk:key.size≤maxLen)
 (hK:∀ w',OwnsV w' b (n+1) (putV f key val)→w.grownBy w' (some b)→wpList Tryz.prog ops Q rest (a.put o.dst undef) w'):
 wpList Tryz.prog ops Q (o::rest) a w:=by
 refine wpList_plain hg fun K' hK'=> ?_;obtain⟨w',hrun,r1,r2⟩:=hown.put ht hn hk val;unfold Oper.wp;simp[execOp,hop,hm,hx,hv,hrun,Result.andThen];exact hK' _ _ (hK w' r1 r2.grown)
theorem OwnsV.same {w:World} {b n:Nat} {f g:ByteArray→Option Value} (h:OwnsV w b n f) (e:∀ s,g s=f s):OwnsV w b n g:=by
 have:g=f:=funext e;rwa[this]
theorem putV_bool (f:KMap) (k:ByteArray) (b:Bool) (s:ByteArray):(putB f k b s).map Value.bool=putV (fun s=>(f s).map Value.bool) k (.bool b) s:=by
 unfold putB putV;split <;> rfl
theorem argE_step (a:ArgV) (r:List ArgV) (f:KMap):(nameR a.name=false→argE (a::r) f=3)∧(nameR a.name=true∧a.isNum=true∧¬ a.num.ok→argE (a::r) f=1)∧
 (nameR a.name=true∧(a.isNum=true→a.num.ok)→(f a.name).isSome=true→argE (a::r) f=5)∧(nameR a.name=true∧(a.isNum=true→a.num.ok)→(f a.name).isSome=false→argE (a::r) f=argE r (putB f a.name a.isNum)):=by
 have e:argE (a::r) f=if nameR a.name=false then 3 else if a.isNum=true∧¬ a.num.ok then 1 else if(f a.name).isSome=true then 5 else argE r (putB f a.name a.isNum):=rfl
 refine⟨fun h=> ?_,fun h=> ?_,fun h k=> ?_,fun h k=> ?_⟩
 ·rw[e,if_pos h]
 ·rw[e,if_neg (by rw[h.1];decide),if_pos h.2]
 ·rw[e,if_neg (by rw[h.1];decide),if_neg (fun q=>q.2 (h.2 q.1)),if_pos k]
 ·rw[e,if_neg (by rw[h.1];decide),if_neg (fun q=>q.2 (h.2 q.1)),if_neg (by rw[k];decide)]
theorem fits_any (n:Nat) (m:List (Nd n)) (v:Value) (lo:Nat) (args:List ArgV) (vA:Value) (loA:Nat) (w:World) (hm:MsgIn n m) (hc:cntN n m≤10000000) (hv:ListOk (Enc.node n) w lo w.heap.size v m) (hV:MV w)
 (hA:ListOk Enc.argV w loA w.heap.size vA args) (ha:args.length≤1000000) (hs:Hid (∀ a∈args,a.name.size≤1000000000)):
 Calls Tryz.prog 48 #[v,vA] w fun e w'=>e=.returned (errV (fitsR n m args))∧Below w.heap.size w w':=by
 obtain⟨A,c,rfl,_⟩:=hA.form;have HOf:=hid (of_any n m v lo w hm hc hv hV);have HNs:=hid (ofR_names n m hm);have hln:=ofR_len n m hc;have HAr:Hid (∀ W,Below w.heap.size w W→ListOk Enc.argV W loA w.heap.size (.slice A args.length c) args):=hid fun W hW=>hA.below Enc.argV_laws hW;have HF0:Hid ((ofR n m).1≠0→fitsR n m args=(ofR n m).1):=hid fun h=>if_pos h;have HF1:Hid ((ofR n m).1=0→argE args (fun _=>none)≠0→fitsR n m args=argE args (fun _=>none)):=hid fun h k=>(if_neg (by rw[h];decide)).trans (if_pos k)
 have HF2:Hid ((ofR n m).1=0→argE args (fun _=>none)=0→fitsR n m args=needE (ofR n m).2 (argM args fun _=>none)):=hid fun h k=>(if_neg (by rw[h];decide)).trans (if_neg (by rw[k];decide))
 have HVm:=hid hV;generalize fitsR n m args=fr at *;generalize ofR n m=R at *;obtain⟨f,L⟩:=R;dsimp only at HOf HNs hln HF0 HF1 HF2;have hmm:=@run_makeMap Tryz.prog;have HZb:Hid (∀ W,(zeroValue 4).run Tryz.prog W=.ok (.bool false) W):=hid fun _=>by kernel_rfl
 clear hv hA hm hc hV
 go_enter Tryz.func48,Tryz.ntmps48
 go_wp2_with fail
 refine HOf.out.mono ?_;clear HOf;rintro e w2 ⟨hb2,u,rfl,hrow⟩;obtain⟨UA,Uc,rfl,_⟩:=own_slice hrow
 by_cases hf:f=0
 ·subst hf;have HFit:Hid (argE args (fun _=>none)≠0→fr=argE args (fun _=>none)):=hid (HF1.out rfl);have HFt2:Hid (argE args (fun _=>none)=0→fr=needE L (argM args fun _=>none)):=hid (HF2.out rfl);have HB2:=hid hb2;have HRow:=hid hrow;have hs2:=hb2.size;have HO0:Hid (OwnsV (w2.alloc (.map #[] 0)) w2.heap.size 0 (fun s=>((argM ([]:List ArgV) fun _=>none) s).map Value.bool)):=hid (OwnsV.made w2);have HB20:Hid (Below w2.heap.size w2 (w2.alloc (.map #[] 0))):=hid ((Below.refl _ _).alloc (Nat.le_refl _) _);rw[errV_zero];clear HF0 HF1 HF2 hb2 hrow;obtain⟨mb,hmbe⟩:∃ mb,mb=w2.heap.size:=⟨_,rfl⟩;have hmb:w2.heap.size≤mb:=by omega
  rw[←hmbe]at HO0;have HMe:=hid hmbe
  go_wp2_with fail
  rw[←HMe.out];clear hmbe
  go_loopw [28] (fun i wr=>∃(j cnt:Nat),j≤args.length∧cnt≤j∧i=.int .i64 (j:Int)∧Hid (argE args (fun _=>none)=argE (args.drop j) (argM (args.take j) fun _=>none))∧OwnsV wr mb cnt (fun s=>((argM (args.take j) fun _=>none) s).map Value.bool)∧Below w2.heap.size w2 wr) (fun i _=>args.length - (intOf i).toNat)
  case atStart=>exact⟨0,0,Nat.zero_le _,Nat.le_refl _,rfl,hid rfl,HO0.out,HB20.out⟩
  case round=>
   clear HO0 HB20;obtain⟨j,cnt,hj,hcnt,rfl,HAe,hown,hb⟩:=hrel;obtain⟨wo,rfl⟩:∃ wo:World,wo=wr:=⟨_,rfl⟩;have HO:=hid hown;have HB:=hid hb;have HBw:=hid (HB2.out.trans (hb.mono hs2))
   by_cases hlt:j < args.length
   ·have i1:(0:Int)≤(j:Int):=Int.natCast_nonneg j;have i2:(j:Int) < (args.length:Int):=by omega
    obtain⟨b1,o1,rfl,_,_,x0,x1,x2,x3,x4⟩:=(HAr.out _ HBw.out).argVAt j hlt;have HSn:=hid (argM_snoc args (fun _=>none) j hlt);have hsz0:=hs.out _ (List.getElem_mem hlt);have hdr:args.drop j=args[j]::args.drop (j+1):=List.drop_eq_getElem_cons hlt;have hst:=argE_step args[j] (args.drop (j+1)) (argM (args.take j) fun _=>none);rw[←hdr,←HAe.out]at hst;have HStep:=hid hst;obtain⟨x,hx⟩:∃ x,x=((argM (args.take j) fun _=>none) args[j].name).isSome:=⟨_,rfl⟩;have HKe:Hid ((((argM (args.take j) fun _=>none) args[j].name).map Value.bool).isSome=x∧∃ y,(((argM (args.take j) fun _=>none) args[j].name).map Value.bool).getD (.bool false)=.bool y):=hid (by
     rw[hx];cases(argM (args.take j) fun _=>none) args[j].name with
     | none=>exact⟨rfl,false,rfl⟩
     | some b=>exact⟨rfl,b,rfl⟩)
    rw[←hx]at HStep;obtain⟨hk1,y,hk2⟩:=HKe.out;have HKe:Hid ((((argM (args.take j) fun _=>none) args[j].name).map Value.bool).getD (.bool false)=.bool y∧(((argM (args.take j) fun _=>none) args[j].name).map Value.bool).isSome=x):=hid ⟨hk2,hk1⟩;clear hown hb hdr hst hx hk1 hk2 HAe;generalize args[j]=a at *;obtain⟨nm,isn,⟨co,sc⟩,tx⟩:=a;dsimp only at x0 x1 x2 x3 x4 HSn hsz0 HStep HKe;have hsz:nm.size≤maxLen:=by unfold maxLen;omega
    obtain⟨W3,eW3⟩:∃ W3,W3=wo.alloc (.cells #[.string nm,.bool isn,.int .i64 co,.int .i64 sc,.string tx] 67):=⟨_,rfl⟩;have mk3:Blk W3 wo.heap.size 67 #[.string nm,.bool isn,.int .i64 co,.int .i64 sc,.string tx]:=by rw[eW3];exact Blk.new _ _ _
    have hb3:Below wo.heap.size wo W3:=by rw[eW3];exact(Below.refl _ _).alloc (Nat.le_refl _) _
    have HN3:=hid (name_any nm W3);have HB3:=hid hb3;have MK3:=hid mk3;have EW:=hid eW3;have hmlt:=HO.out.lt;clear eW3 mk3 hb3;generalize hnr:nameR nm=nr at *;clear hnr
    go_upto_region 8 with fail
    rw[←EW.out];have k0:=(MK3.out.cell 0).trans (show _=some (.string nm)from rfl);clear EW x0 x1 x2 x3 x4
    go_wp2_with fail
    refine HN3.out.mono ?_;clear HN3 k0;rintro e w4 ⟨rfl,hb4⟩;have hb34:Below wo.heap.size wo w4:=HB3.out.trans (hb4.mono HB3.out.size);have HB4:=hid hb34;have MK4:=hid (MK3.out.below hb4 MK3.out.lt);have HO4:=hid (HO.out.below hb34 hmlt);have HB24:=hid (HB.out.trans (hb34.mono HB.out.size));have HBw4:=hid (HB2.out.trans (HB24.out.mono hs2));clear hb4 hb34 MK3 HB3;cases nr with
    | false=>
      have HR:Hid (argE args (fun _=>none)=3):=hid (HStep.out.1 rfl);clear HStep
      go_wp2_with fail
      go_ret
      exact⟨by rw[HFit.out (by rw[HR.out];decide),HR.out];rfl,HBw4.out⟩
    | true=>
      have d0:=(MK4.out.cell 0).trans (show _=some (.string nm)from rfl);have d1:=(MK4.out.cell 1).trans (show _=some (.bool isn)from rfl);have d2:=(MK4.out.cell 2).trans (show _=some (.int .i64 co)from rfl);have d3:=(MK4.out.cell 3).trans (show _=some (.int .i64 sc)from rfl);cases isn with
      | false=>
        have HOw:=HO4;have HBx:=HBw4;have HB2x:=HB24;have hlk:=HOw.out.look_ok (t:=176) (e:=4) Tryz.underlying176 (HZb.out w4) hsz;rw[HKe.out.1,HKe.out.2]at hlk
        by_cases hin:x=true
        ·subst hin;have HR:Hid (argE args (fun _=>none)=5):=hid (HStep.out.2.2.1 ⟨by first|rfl|trivial,fun h=>by cases h⟩ (by first|rfl|trivial))
         clear HStep
         go_wp2_with fail
         go_ret
         exact⟨by rw[HFit.out (by rw[HR.out];decide),HR.out];rfl,HBx.out⟩
        ·have hxf:x=false:=by simpa using hin
         subst hxf;have HN:Hid (argE args (fun _=>none)=argE (args.drop (j+1)) (putB (argM (args.take j) fun _=>none) nm false)):=hid (HStep.out.2.2.2 ⟨by first|rfl|trivial,fun h=>by cases h⟩ (by first|rfl|trivial))
         clear HStep hin
         go_wp2_with (at_mapUpdate;refine wpList_update_V rfl _ _ _ 176 4 rfl Tryz.underlying176 mb cnt _ rfl HOw.out (by unfold maxLen;omega) nm (.bool false) rfl rfl hsz ?_)
         intro w7 hown7 hg7;have HO7:=hid hown7;have HB7:=hid (HB2x.out.grown hg7 HB2x.out.size (fun k e=>by cases e;exact hmb))
         clear hown7 hg7 hlk
         go_wp2_with fail
         go_roundw
         case rel=>
          refine⟨j+1,cnt+1,by omega,by omega,by go_num,?_,?_,HB7.out⟩
          ·rw[HSn.out];exact HN
          ·rw[HSn.out];exact HO7.out.same (fun s=>putV_bool _ _ _ s)
         case measure=>simp[intOf];omega
      | true=>
        have HCk:Hid (Calls Tryz.prog 88 #[.agg #[.int .i64 co,.int .i64 sc]] w4 fun e w'=>e=.returned (errD (checkD ⟨co,sc⟩))∧Below w4.heap.size w4 w'):=hid (checkD_any ⟨co,sc⟩ w4)
        go_wp2_with fail
        refine HCk.out.mono ?_;clear HCk d0 d1 d2 d3;rintro e w5 ⟨rfl,hb5⟩;have MK5:=hid (MK4.out.below hb5 MK4.out.lt);have HOw:=hid (HO4.out.below hb5 HO4.out.lt);have HB2x:=hid (HB24.out.trans (hb5.mono HB24.out.size));have HBx:=hid (HB2.out.trans (HB2x.out.mono hs2));have d0:=(MK5.out.cell 0).trans (show _=some (.string nm)from rfl);have d1:=(MK5.out.cell 1).trans (show _=some (.bool true)from rfl);clear hb5 MK4 HO4 HB24 HBw4
        by_cases hok:DecV.ok ⟨co,sc⟩
        ·rw[checkD_ok hok,errD_zero];have HOk:=hid hok;clear hok;have hlk:=HOw.out.look_ok (t:=176) (e:=4) Tryz.underlying176 (HZb.out w5) hsz;rw[HKe.out.1,HKe.out.2]at hlk
         by_cases hin:x=true
         ·subst hin;have HR:Hid (argE args (fun _=>none)=5):=hid (HStep.out.2.2.1 ⟨by first|rfl|trivial,fun _=>HOk.out⟩ (by first|rfl|trivial))
          clear HStep
          go_wp2_with fail
          go_ret
          exact⟨by rw[HFit.out (by rw[HR.out];decide),HR.out];rfl,HBx.out⟩
         ·have hxf:x=false:=by simpa using hin
          subst hxf;have HN:Hid (argE args (fun _=>none)=argE (args.drop (j+1)) (putB (argM (args.take j) fun _=>none) nm true)):=hid (HStep.out.2.2.2 ⟨by first|rfl|trivial,fun _=>HOk.out⟩ (by first|rfl|trivial))
          clear HStep hin
          go_wp2_with (at_mapUpdate;refine wpList_update_V rfl _ _ _ 176 4 rfl Tryz.underlying176 mb cnt _ rfl HOw.out (by unfold maxLen;omega) nm (.bool true) rfl rfl hsz ?_)
          intro w7 hown7 hg7;have HO7:=hid hown7;have HB7:=hid (HB2x.out.grown hg7 HB2x.out.size (fun k e=>by cases e;exact hmb))
          clear hown7 hg7 hlk
          go_wp2_with fail
          go_roundw
          case rel=>
           refine⟨j+1,cnt+1,by omega,by omega,by go_num,?_,?_,HB7.out⟩
           ·rw[HSn.out];exact HN
           ·rw[HSn.out];exact HO7.out.same (fun s=>putV_bool _ _ _ s)
          case measure=>simp[intOf];omega
        ·have HR:Hid (argE args (fun _=>none)=1):=hid (HStep.out.2.1 ⟨by first|rfl|trivial,by first|rfl|trivial,hok⟩)
         rw[checkD_no hok,errD_ne (by decide)]
         clear HStep hok
         go_wp2_with fail
         go_ret
         exact⟨by rw[HFit.out (by rw[HR.out];decide),HR.out];rfl,HBx.out⟩
   ·obtain rfl:j=args.length:=by omega
    have et:args.take args.length=args:=List.take_length;have HA0:Hid (argE args (fun _=>none)=0):=hid (by rw[HAe.out,List.drop_length];rfl)
    have HFr:Hid (fr=needE L (argM args fun _=>none)):=hid (HFt2.out HA0.out);rw[et]at HO;generalize argM args (fun _=>none)=F at *;have hmlt:=HO.out.lt;clear et hown hb HAe HA0 HFit HFt2 hs HAr
    go_wp2_with fail
    go_loopw [62] (fun i wq=>∃ k:Nat,k≤L.length∧i=.int .i64 (k:Int)∧Hid (fr=needE (L.drop k) F)∧Below wo.heap.size wo wq) (fun i _=>L.length - (intOf i).toNat)
    case atStart=>exact⟨0,Nat.zero_le _,rfl,HFr,Below.refl _ _⟩
    case round=>
     clear HFr;obtain⟨k,hk,rfl,HNe,hbq⟩:=hrel;have HBq:=hid hbq;have HB2q:=hid (HB.out.trans (hbq.mono HB.out.size));have HBwq:=hid (HB2.out.trans (HB2q.out.mono hs2))
     by_cases hlk:k < L.length
     ·have i1:(0:Int)≤(k:Int):=Int.natCast_nonneg k;have i2:(k:Int) < (L.length:Int):=by omega
      obtain⟨b1,o1,rfl,_,_,x0,x1,x2⟩:=(neds_of_own (lo:=0) (hi:=wr.heap.size) (own_below HRow.out HB2q.out (Nat.le_refl _)) (Nat.zero_le _) (Nat.le_refl _)).nedAt k hlk;have hszn:=HNs.out _ (List.getElem_mem hlk);have hdr:L.drop k=L[k]::L.drop (k+1):=List.drop_eq_getElem_cons hlk;rw[hdr]at HNe;have HOq:=hid (HO.out.below hbq hmlt);clear hdr hbq;generalize L[k]=e at *;obtain⟨e0,e1,e2⟩:=e;dsimp only at x0 x1 x2 hszn;have hlk2:=HOq.out.look_ok (t:=176) (e:=4) (k:=e0) Tryz.underlying176 (HZb.out wr) (by unfold maxLen;omega)
      have hlk3:(Instr.lookup 176 (.map (some mb)) (.string e0) true).run Tryz.prog (wr.alloc (.cells #[.string e0,.bool e1,.bool e2] 180))=.ok (.tuple #[((F e0).map Value.bool).getD (.bool false),.bool ((F e0).map Value.bool).isSome]) (wr.alloc (.cells #[.string e0,.bool e1,.bool e2] 180)):=
       (HOq.out.below ((Below.refl wr.heap.size wr).alloc (Nat.le_refl _) _) HOq.out.lt).look_ok (t:=176) (e:=4) (k:=e0) Tryz.underlying176 (HZb.out _) (by unfold maxLen;omega)
      have HBa:Hid (Below wo.heap.size wo (wr.alloc (.cells #[.string e0,.bool e1,.bool e2] 180))):=hid (HBq.out.alloc HBq.out.size _);have HBwa:Hid (Below w.heap.size w (wr.alloc (.cells #[.string e0,.bool e1,.bool e2] 180))):=hid (HBwq.out.alloc HBwq.out.size _);have HNe2:Hid (fr=if(F e0).isSome=false then 2 else if((e1 && !((F e0).getD false)) || (e2 && (F e0).getD false))=true then 7 else needE (L.drop (k+1)) F):=hid HNe.out
      clear hlk2 HNe HO HOq;cases hF:F e0 with
      | none=>
        rw[hF]at hlk3 HNe2;have HE:Hid (fr=2):=hid (by rw[HNe2.out];rfl)
        have hlk4:(Instr.lookup 176 (.map (some mb)) (.string e0) true).run Tryz.prog (wr.alloc (.cells #[.string e0,.bool e1,.bool e2] 180))=.ok (.tuple #[.bool false,.bool false]) (wr.alloc (.cells #[.string e0,.bool e1,.bool e2] 180)):=hlk3;clear hlk3 HNe2 hF
        go_wp2_with fail
        go_ret
        exact⟨by rw[HE.out];rfl,HBwa.out⟩
      | some y=>
        rw[hF]at hlk3 HNe2;have HE:Hid (fr=if((e1 && !y) || (e2 && y))=true then 7 else needE (L.drop (k+1)) F):=hid HNe2.out
        have hlk4:(Instr.lookup 176 (.map (some mb)) (.string e0) true).run Tryz.prog (wr.alloc (.cells #[.string e0,.bool e1,.bool e2] 180))=.ok (.tuple #[.bool y,.bool true]) (wr.alloc (.cells #[.string e0,.bool e1,.bool e2] 180)):=hlk3;clear hlk3 HNe2 hF;cases e1 <;> cases e2 <;> cases y
        all_goals first
         | (have HEn:Hid (fr=needE (L.drop (k+1)) F):=hid HE.out
            clear HE
            go_wp2_with fail
            go_roundw
            case rel=>exact⟨k+1,by omega,by go_num,HEn,HBa.out⟩
            case measure=>simp[intOf];omega)
         | (have HEn:Hid (fr=7):=hid HE.out
            clear HE
            go_wp2_with fail
            go_ret
            exact⟨by rw[HEn.out];rfl,HBwa.out⟩)
     ·obtain rfl:k=L.length:=by omega
      have HE:Hid (fr=0):=hid (by rw[HNe.out,List.drop_length];rfl)
      clear HNe hbq
      go_wp2_with fail
      go_ret
      exact⟨by rw[HE.out];rfl,HBwq.out⟩
 ·have HE:=hid (HF0.out hf);have HB2:=hid hb2;rw[errV_ne hf];clear HF0 HF1 HF2 hrow hb2
  go_wp2_with fail
  go_ret
  exact⟨by rw[HE.out,errV_ne hf];rfl,HB2.out⟩
end Go.Proofs.YtpfmmbbggcghiaaGreatDoor
namespace Go.Proofs.YtpfmmbbggcghiaaGreatDoor
open Go.RowKit
open Lib (hid)
def argZ:ArgV:=⟨⟨#[]⟩,false,⟨0,0⟩,⟨#[]⟩⟩
def argOf (f:ByteArray→Option ArgV) (s:ByteArray):ArgV:=(f s).getD argZ
def bodyAt {β:Type} (cs:List (ByteArray×List β)) (i:Nat):List β:=((cs[i]?).map Prod.snd).getD []
def showT (a:ArgV):List UInt8:=if a.isNum then textD a.num else bts a.text
def oneO {β:Type} (rec:List β→DecV→List UInt8×Int) (s:SetV) (f:ByteArray→Option ArgV) (x:NdF β) (mark:DecV):List UInt8×Int:=
 if x.kind=1 then(bts x.text,0)
 else if x.kind=6 then(numT mark,numE mark)
 else if x.kind=3 then(numT (argOf f x.text).num,numE (argOf f x.text).num)
 else if x.kind=4 then(if caseE s x.off (argOf f x.text).num=0 then rec (bodyAt x.cases (caseB s x.off (argOf f x.text).num (x.cases.map Prod.fst))) (caseL s x.off (argOf f x.text).num)else([],caseE s x.off (argOf f x.text).num))
 else if x.kind=5 then rec (bodyAt x.cases (choF (argOf f x.text).text (x.cases.map Prod.fst) 0 0)) mark
 else(showT (argOf f x.text),0)
theorem bodyAt_get {β:Type} (cs:List (ByteArray×List β)) (i:Nat) (h:i < cs.length):bodyAt cs i=cs[i].2:=by
 unfold bodyAt;rw[List.getElem?_eq_getElem h];rfl
theorem argOf_val (f:ByteArray→Option ArgV) (s:ByteArray):((f s).map ArgV.val).getD (.agg #[.string ByteArray.empty,.bool false,.int .i64 0,.int .i64 0,.string ByteArray.empty])=(argOf f s).val:=by
 unfold argOf;cases f s <;> rfl
theorem caseB_lt (s:SetV) (off:Int) (d:DecV) (keys:List ByteArray) (h:keys≠[]):caseB s off d keys < keys.length:=by
 have h0:=List.length_pos_iff.2 h;unfold caseB;split
 ·exact bestF_lt _ _ keys 0 0 0 _ h0 (by simp)
 ·exact h0
def sayL {β:Type} (one:NdF β→List UInt8×Int):List (NdF β)→List UInt8×Int
 | []=>([],0)
 | x::r=>if(one x).2≠0 then one x else((one x).1++(sayL one r).1,(sayL one r).2)
def sayN (s:SetV) (f:ByteArray→Option ArgV):(n:Nat)→List (Nd n)→DecV→List UInt8×Int
 | 0,_,_=>([],0)
 | n+1,m,mark=>sayL (fun x=>oneO (sayN s f n) s f x mark) (m:List (NdF (Nd n)))
def costF {β:Type} (cb:List β→Nat) (C:Nat) (x:NdF β):Nat:=C+(x.cases.map fun c=>cb c.2).sum
def costN (C:Nat):(n:Nat)→List (Nd n)→Nat
 | 0,_=>0
 | n+1,m=>((m:List (NdF (Nd n))).map (costF (costN C n) C)).sum
theorem sum_mul (C:Nat) {α:Type} (f:α→Nat):∀ l:List α,(l.map fun x=>C*f x).sum=C*(l.map f).sum
 | []=>by simp
 | a::l=>by simp only[List.map_cons,List.sum_cons,sum_mul C f l,Nat.mul_add]
theorem costN_le (C:Nat):(n:Nat)→(m:List (Nd n))→costN C n m≤C*(m.map (Enc.node n).bulk).sum
 | 0,_=>Nat.zero_le _
 | n+1,m=>by
   rw[←sum_mul];refine sum_map_le (costF (costN C n) C) (fun x:NdF (Nd n)=>C*(Enc.node (n+1)).bulk x) m fun x _=> ?_;show C+(x.cases.map fun c=>costN C n c.2).sum≤C*(Enc.node (n+1)).bulk x;rw[node_bulk n x];have h1:(x.cases.map fun c=>costN C n c.2).sum≤C*(x.cases.map (Enc.cas (Enc.node n)).bulk).sum:=by
    rw[←sum_mul];refine sum_map_le (fun c:ByteArray×List (Nd n)=>costN C n c.2) _ x.cases fun c _=> ?_;rw[cas_bulk];exact Nat.le_trans (costN_le C n c.2) (Nat.mul_le_mul_left _ (by omega))
   refine Nat.le_trans (Nat.add_le_add_left h1 C) ?_;rw[show C+C*(x.cases.map (Enc.cas (Enc.node n)).bulk).sum=C*(1+(x.cases.map (Enc.cas (Enc.node n)).bulk).sum)from by rw[Nat.mul_add,Nat.mul_one]]
   exact Nat.mul_le_mul_left _ (by omega)
def goodF {β:Type} (G:List β→Prop) (x:NdF β):Prop:=(x.kind=4→0≤x.off∧x.off≤1000)∧(x.kind=4∨x.kind=5→x.cases≠[]∧∀ c∈x.cases,G c.2)
def GoodN:(n:Nat)→List (Nd n)→Prop
 | 0,_=>True
 | n+1,m=>∀ x∈(m:List (NdF (Nd n))),goodF (GoodN n) x
theorem casesM_good {β:Type} {chk:List β→Bool→Int} {kind:Int} {mark:Bool}:∀(cs:List (ByteArray×List β)) (seen:List ByteArray),casesM chk kind mark cs seen=0→∀ c∈cs,chk c.2 (mark || kind == 4)=0
 | [],_,_,c,hc=>by cases hc
 | d::r,seen,h,c,hc=>by
   have e:casesM chk kind mark (d::r) seen=if keyM kind d.1=false then 3 else if seen.any (eqs · d.1)=true then 5 else if chk d.2 (mark || kind == 4)≠0 then chk d.2 (mark || kind == 4)else casesM chk kind mark r (seen++[d.1]):=rfl
   rw[e]at h;split at h
   ·exact absurd h (by decide)
   split at h
   ·exact absurd h (by decide)
   split at h
   ·rename_i h1;exact absurd h h1
   ·rename_i h1
    rcases List.mem_cons.1 hc with rfl|hc
    ·exact Classical.not_not.1 h1
    ·exact casesM_good r _ h c hc
theorem checkM_good {β:Type} {chk:List β→Bool→Int} {mark:Bool} {G:List β→Prop} (hG:∀ b mk,chk b mk=0→G b):∀(m:List (NdF β)) (last:Option Int),checkM chk mark last m=0→∀ x∈m,goodF G x
 | [],_,_,x,hx=>by cases hx
 | y::r,last,h,x,hx=>by
   have e:checkM chk mark last (y::r)=if fineM y.kind y.text last mark=false then 3 else if y.kind=4∧(y.off < 0∨9 < y.off)then 1 else if hasCases y.kind=true∧casesM chk y.kind mark y.cases []≠0 then casesM chk y.kind mark y.cases []else checkM chk mark (some y.kind) r:=by
    cases last <;> rfl
   rw[e]at h;split at h
   ·exact absurd h (by decide)
   split at h
   ·exact absurd h (by decide)
   rename_i h4
   split at h
   ·rename_i h1;exact absurd h h1.2
   rename_i h5
   rcases List.mem_cons.1 hx with rfl|hx
   ·refine⟨fun hk=> ?_,fun hk=> ?_⟩
    ·have h6:¬(x.off < 0∨9 < x.off):=fun hh=>h4 ⟨hk,hh⟩;omega
    ·have hc:hasCases x.kind=true:=by
      unfold hasCases;rcases hk with hk|hk <;> rw[hk] <;> decide
     have h7:casesM chk x.kind mark x.cases []=0:=Classical.not_not.1 fun hh=>h5 ⟨hc,hh⟩;refine⟨fun hn=> ?_,fun c hcm=>hG _ _ (casesM_good _ _ h7 c hcm)⟩;rw[hn]at h7;have h8:casesM chk x.kind mark ([]:List (ByteArray×List β)) []=2:=rfl;rw[h8]at h7;exact absurd h7 (by decide)
   ·exact checkM_good hG r _ h x hx
theorem good_of_check:(n:Nat)→(m:List (Nd n))→(mark:Bool)→checkN n m mark=0→GoodN n m
 | 0,_,_,_=>trivial
 | n+1,m,_,h=>checkM_good (fun b mk hb=>good_of_check n b mk hb) (m:List (NdF (Nd n))) none h
theorem good_of_fits {n:Nat} {m:List (Nd n)} {args:List ArgV} (h:fitsR n m args=0):GoodN n m:=by
 refine good_of_check n m false ?_;unfold fitsR at h;split at h
 ·rename_i h1;exact absurd h h1
 rename_i h1
 have h2:(ofR n m).1=0:=Classical.not_not.1 h1;unfold ofR at h2;split at h2
 ·rename_i h3;exact absurd h2 h3
 rename_i h3
 have h4:checkAll n m=0:=Classical.not_not.1 h3;unfold checkAll at h4;split at h4
 ·exact absurd h4 (by decide)
 ·exact h4
def putA (f:ByteArray→Option ArgV) (a:ArgV):ByteArray→Option ArgV:=fun s=>if s=a.name then some a else f s
def argF (l:List ArgV):ByteArray→Option ArgV:=l.foldl putA fun _=>none
theorem argF_snoc (l:List ArgV) (j:Nat) (h:j < l.length):argF (l.take (j+1))=putA (argF (l.take j)) l[j]:=by
 unfold argF;rw[List.take_succ_eq_append_getElem h,List.foldl_append];rfl
theorem putA_val (f:ByteArray→Option ArgV) (a:ArgV) (s:ByteArray):(putA f a s).map ArgV.val=putV (fun s=>(f s).map ArgV.val) a.name a.val s:=by
 unfold putA putV;split <;> rfl
theorem foldA_mem:∀(l:List ArgV) (f:ByteArray→Option ArgV) (s:ByteArray) (a:ArgV),l.foldl putA f s=some a→a∈l∨f s=some a
 | [],_,_,_,h=>.inr h
 | b::l,f,s,a,h=>by
   rcases foldA_mem l (putA f b) s a h with h|h
   ·exact .inl (List.mem_cons_of_mem _ h)
   ·unfold putA at h;split at h
    ·injection h with h;exact .inl (by rw[h];exact List.mem_cons_self ..)
    ·exact .inr h
theorem argF_mem {l:List ArgV} {s:ByteArray} {a:ArgV} (h:argF l s=some a):a∈l:=by
 rcases foldA_mem l _ s a h with h|h
 ·exact h
 ·cases h
theorem argE_ok:∀(l:List ArgV) (f:KMap),argE l f=0→∀ a∈l,a.isNum=true→a.num.ok
 | [],_,_,a,ha=>by cases ha
 | b::r,f,h,a,ha=>by
   have e:argE (b::r) f=if nameR b.name=false then 3 else if b.isNum=true∧¬ b.num.ok then 1 else if(f b.name).isSome=true then 5 else argE r (putB f b.name b.isNum):=rfl
   rw[e]at h;split at h
   ·exact absurd h (by decide)
   split at h
   ·exact absurd h (by decide)
   rename_i h1
   split at h
   ·exact absurd h (by decide)
   rcases List.mem_cons.1 ha with rfl|ha
   ·intro hn;exact Classical.not_not.1 fun hh=>h1 ⟨hn,hh⟩
   ·exact argE_ok r _ h a ha
theorem fits_args {n:Nat} {m:List (Nd n)} {args:List ArgV} (h:fitsR n m args=0):∀ a∈args,a.isNum=true→a.num.ok:=by
 unfold fitsR at h;split at h
 ·rename_i h1;exact absurd h h1
 split at h
 ·rename_i h1;exact absurd h h1
 rename_i h1
 exact argE_ok args _ (Classical.not_not.1 h1)
structure ArgIn (C:Nat) (f:ByteArray→Option ArgV):Prop where
 size:∀ t,(argOf f t).text.size≤C
 ok:∀ t,(argOf f t).isNum=true→(argOf f t).num.ok
theorem argIn_of {C:Nat} {l:List ArgV} (h:∀ a∈l,a.text.size≤C) (ho:∀ a∈l,a.isNum=true→a.num.ok):ArgIn C (argF l):=by
 constructor
 ·intro t;unfold argOf;cases e:argF l t with
  | none=>exact Nat.zero_le _
  | some a=>exact h a (argF_mem e)
 ·intro t;unfold argOf;cases e:argF l t with
  | none=>intro h;cases h
  | some a=>exact ho a (argF_mem e)
def TextN (C:Nat):(n:Nat)→List (Nd n)→Prop
 | 0,_=>True
 | n+1,m=>∀ x∈(m:List (NdF (Nd n))),x.text.size≤C∧∀ c∈x.cases,TextN C n c.2
theorem textN_of_bulk (C:Nat):(n:Nat)→(m:List (Nd n))→(m.map (Enc.node n).bulk).sum≤C→TextN C n m
 | 0,_,_=>trivial
 | n+1,m,h=>fun x hx=>by
   have h1:=mem_sum (Enc.node (n+1)).bulk m x hx;rw[node_bulk n x]at h1;refine⟨by omega,fun c hc=>textN_of_bulk C n c.2 ?_⟩
   have h2:=mem_sum (Enc.cas (Enc.node n)).bulk x.cases c hc;rw[cas_bulk]at h2;omega
end Go.Proofs.YtpfmmbbggcghiaaGreatDoor
namespace Go.Proofs.YtpfmmbbggcghiaaGreatDoor
open Go.RowKit Go.Maps
open Lib (hid)
def set_en:SetV:=⟨⟨#[]⟩,⟨#[105,32,61,32,49,32,97,110,100,32,118,32,61,32,48]⟩,⟨#[]⟩,⟨#[]⟩,⟨#[]⟩⟩
def set_de:SetV:=⟨⟨#[]⟩,⟨#[105,32,61,32,49,32,97,110,100,32,118,32,61,32,48]⟩,⟨#[]⟩,⟨#[]⟩,⟨#[]⟩⟩
def set_fr:SetV:=⟨⟨#[]⟩,⟨#[105,32,61,32,48,44,49]⟩,⟨#[]⟩,⟨#[]⟩,⟨#[]⟩⟩
def set_ja:SetV:=⟨⟨#[]⟩,⟨#[]⟩,⟨#[]⟩,⟨#[]⟩,⟨#[]⟩⟩
def set_pl:SetV:=⟨⟨#[]⟩,⟨#[105,32,61,32,49,32,97,110,100,32,118,32,61,32,48]⟩,⟨#[]⟩,⟨#[118,32,61,32,48,32,97,110,100,32,105,32,37,32,49,48,32,61,32,50,46,46,52,32,97,110,100,32,105,32,37,32,49,48,48,32,33,61,32,49,50,46,46,49,52]⟩,⟨#[118,32,61,32,48,32,97,110,100,32,105,32,33,61,32,49,32,97,110,100,32,105,32,37,32,49,48,32,61,32,48,46,46,49,32,111,114,32,118,32,61,32,48,32,97,110,100,32,105,32,37,32,49,48,32,61,32,53,46,46,57,32,111,114,32,118,32,61,32,48,32,97,110,100,32,105,32,37,32,49,48,48,32,61,32,49,50,46,46,49,52]⟩⟩
def set_ru:SetV:=⟨⟨#[]⟩,⟨#[118,32,61,32,48,32,97,110,100,32,105,32,37,32,49,48,32,61,32,49,32,97,110,100,32,105,32,37,32,49,48,48,32,33,61,32,49,49]⟩,⟨#[]⟩,⟨#[118,32,61,32,48,32,97,110,100,32,105,32,37,32,49,48,32,61,32,50,46,46,52,32,97,110,100,32,105,32,37,32,49,48,48,32,33,61,32,49,50,46,46,49,52]⟩,⟨#[118,32,61,32,48,32,97,110,100,32,105,32,37,32,49,48,32,61,32,48,32,111,114,32,118,32,61,32,48,32,97,110,100,32,105,32,37,32,49,48,32,61,32,53,46,46,57,32,111,114,32,118,32,61,32,48,32,97,110,100,32,105,32,37,32,49,48,48,32,61,32,49,49,46,46,49,52]⟩⟩
def set_ar:SetV:=⟨⟨#[110,32,61,32,48]⟩,⟨#[110,32,61,32,49]⟩,⟨#[110,32,61,32,50]⟩,⟨#[110,32,37,32,49,48,48,32,61,32,51,46,46,49,48]⟩,⟨#[110,32,37,32,49,48,48,32,61,32,49,49,46,46,57,57]⟩⟩
def set_lv:SetV:=⟨⟨#[110,32,37,32,49,48,32,61,32,48,32,111,114,32,110,32,37,32,49,48,48,32,61,32,49,49,46,46,49,57,32,111,114,32,118,32,61,32,50,32,97,110,100,32,102,32,37,32,49,48,48,32,61,32,49,49,46,46,49,57]⟩,⟨#[110,32,37,32,49,48,32,61,32,49,32,97,110,100,32,110,32,37,32,49,48,48,32,33,61,32,49,49,32,111,114,32,118,32,61,32,50,32,97,110,100,32,102,32,37,32,49,48,32,61,32,49,32,97,110,100,32,102,32,37,32,49,48,48,32,33,61,32,49,49,32,111,114,32,118,32,33,61,32,50,32,97,110,100,32,102,32,37,32,49,48,32,61,32,49]⟩,⟨#[]⟩,⟨#[]⟩,⟨#[]⟩⟩
def set_no:SetV:=⟨⟨#[]⟩,⟨#[]⟩,⟨#[]⟩,⟨#[]⟩,⟨#[]⟩⟩
def langR (s:ByteArray):Option SetV:=
 if s=⟨#[108,118]⟩then some set_lv else if s=⟨#[97,114]⟩then some set_ar else if s=⟨#[114,117]⟩then some set_ru else if s=⟨#[112,108]⟩then some set_pl else if s=⟨#[106,97]⟩then some set_ja else if s=⟨#[102,114]⟩then some set_fr else if s=⟨#[100,101]⟩then some set_de else if s=⟨#[101,110]⟩then some set_en else none
theorem set_small:set_en.small∧set_de.small∧set_fr.small∧set_ja.small∧set_pl.small∧set_ru.small∧set_ar.small∧set_lv.small∧set_no.small:=by
 refine⟨?_,?_,?_,?_,?_,?_,?_,?_,?_⟩ <;> (intro t ht;revert t;decide)
theorem langR_small (s:ByteArray):((langR s).getD set_no).small:=by
 obtain⟨h1,h2,h3,h4,h5,h6,h7,h8,h9⟩:=set_small;unfold langR
 repeat' split
 all_goals assumption
def rulesF:ByteArray→Option Value:=putV (putV (putV (putV (putV (putV (putV (putV (fun _=>none) ⟨#[101,110]⟩ set_en.val) ⟨#[100,101]⟩ set_de.val) ⟨#[102,114]⟩ set_fr.val) ⟨#[106,97]⟩ set_ja.val) ⟨#[112,108]⟩ set_pl.val) ⟨#[114,117]⟩ set_ru.val) ⟨#[97,114]⟩ set_ar.val) ⟨#[108,118]⟩ set_lv.val
theorem rulesF_eq (s:ByteArray):rulesF s=(langR s).map SetV.val:=by
 unfold rulesF langR;simp only[putV]
 repeat' split
 all_goals rfl
theorem setTurn {w w':World} {b:Nat} {B:Nat} (h:w.grownBy w' (some b)) (hB:B≤b) (hs:B≤w.heap.size) {w0:World} (hb:Below B w0 w):Below B w0 w':=hb.grown h hs (fun k e=>by cases e;exact hB)
theorem rules_any (w:World):Calls Tryz.prog 89 #[] w fun e w'=>∃ b,e=.returned (.map (some b))∧w.heap.size≤b∧OwnsV w' b 8 rulesF∧Below w.heap.size w w':=by
 have hmm:=@run_makeMap Tryz.prog;obtain⟨W1,eW1⟩:∃ W1,W1=w.alloc (.cells #[.string ⟨#[]⟩,.string ⟨#[105,32,61,32,49,32,97,110,100,32,118,32,61,32,48]⟩,.string ⟨#[]⟩,.string ⟨#[]⟩,.string ⟨#[]⟩] 108):=⟨_,rfl⟩;have mb:Blk W1 w.heap.size 108 #[.string ⟨#[]⟩,.string ⟨#[105,32,61,32,49,32,97,110,100,32,118,32,61,32,48]⟩,.string ⟨#[]⟩,.string ⟨#[]⟩,.string ⟨#[]⟩]:=by rw[eW1];exact Blk.new _ _ _
 have hs1:W1.heap.size=w.heap.size+1:=by rw[eW1];simp
 have HB1:Hid (Below w.heap.size w (W1.alloc (.map #[] 0))):=hid (by rw[eW1];exact((Below.refl _ _).alloc (Nat.le_refl _) _).alloc (by simp) _)
 have HO0:Hid (OwnsV (W1.alloc (.map #[] 0)) (w.heap.size+1) 0 (fun _=>none)):=hid (by have h:=OwnsV.made W1;rwa[hs1]at h)
 have MB:=hid mb;have EW:=hid eW1;have hz:(W1.alloc (.map #[] 0)).heap.size=w.heap.size+2:=by simp[hs1]
 have HZ:=hid hz;have mb1:=mb.alloc (.map #[] 0);have k0:=(mb1.cell 0).trans (show _=some (.string ⟨#[]⟩)from rfl);have k1:=(mb1.cell 1).trans (show _=some (.string ⟨#[105,32,61,32,49,32,97,110,100,32,118,32,61,32,48]⟩)from rfl);have k2:=(mb1.cell 2).trans (show _=some (.string ⟨#[]⟩)from rfl);have k3:=(mb1.cell 3).trans (show _=some (.string ⟨#[]⟩)from rfl);have k4:=(mb1.cell 4).trans (show _=some (.string ⟨#[]⟩)from rfl);have MB1:=hid mb1;clear eW1 mb mb1 hz
 go_enter Tryz.func89,Tryz.ntmps89
 go_upto_region 2 with fail
 rw[←EW.out];clear EW
 go_wp2_with (refine wpList_insert_V rfl _ _ _ 181 108 rfl Tryz.underlying181 (w.heap.size+1) 0 _ rfl HO0.out (by decide) ⟨#[101,110]⟩ (.agg #[.string ⟨#[]⟩,.string ⟨#[105,32,61,32,49,32,97,110,100,32,118,32,61,32,48]⟩,.string ⟨#[]⟩,.string ⟨#[]⟩,.string ⟨#[]⟩]) rfl rfl (by decide) ?_)
 intro w1 hown1 hg1;have HO1:=hid hown1;have HZ1:Hid (w.heap.size+2≤w1.heap.size):=hid (by have:=hg1.size;have:=HZ.out;omega)
 have HC1:Hid (Below w.heap.size w w1):=hid (setTurn hg1 (by omega) (by have:=HZ.out;omega) HB1.out)
 have mb2:Blk w1 w.heap.size 108 _:=(hg1.block w.heap.size MB1.out.lt (by simp)).trans MB1.out
 have d0:=(mb2.cell 0).trans (show _=some (.string ⟨#[]⟩)from rfl);have d1:=(mb2.cell 1).trans (show _=some (.string ⟨#[105,32,61,32,49,32,97,110,100,32,118,32,61,32,48]⟩)from rfl);have d2:=(mb2.cell 2).trans (show _=some (.string ⟨#[]⟩)from rfl);have d3:=(mb2.cell 3).trans (show _=some (.string ⟨#[]⟩)from rfl);have d4:=(mb2.cell 4).trans (show _=some (.string ⟨#[]⟩)from rfl);clear mb2 k0 k1 k2 k3 k4;clear hown1 hg1
 go_wp2_with (refine wpList_insert_V rfl _ _ _ 181 108 rfl Tryz.underlying181 (w.heap.size+1) 1 _ rfl HO1.out (by decide) ⟨#[100,101]⟩ (.agg #[.string ⟨#[]⟩,.string ⟨#[105,32,61,32,49,32,97,110,100,32,118,32,61,32,48]⟩,.string ⟨#[]⟩,.string ⟨#[]⟩,.string ⟨#[]⟩]) rfl rfl (by decide) ?_)
 intro w2 hown2 hg2;have HO2:=hid hown2;have HZ2:Hid (w.heap.size+2≤w2.heap.size):=hid (by have:=hg2.size;have:=HZ1.out;omega)
 have HC2:Hid (Below w.heap.size w w2):=hid (setTurn hg2 (by omega) (by have:=HZ1.out;omega) HC1.out)
 clear d0 d1 d2 d3 d4;clear hown2 hg2
 go_wp2_with (refine wpList_insert_V rfl _ _ _ 181 108 rfl Tryz.underlying181 (w.heap.size+1) 2 _ rfl HO2.out (by decide) ⟨#[102,114]⟩ (.agg #[.string ⟨#[]⟩,.string ⟨#[105,32,61,32,48,44,49]⟩,.string ⟨#[]⟩,.string ⟨#[]⟩,.string ⟨#[]⟩]) rfl rfl (by decide) ?_)
 intro w3 hown3 hg3;have HO3:=hid hown3;have HZ3:Hid (w.heap.size+2≤w3.heap.size):=hid (by have:=hg3.size;have:=HZ2.out;omega)
 have HC3:Hid (Below w.heap.size w w3):=hid (setTurn hg3 (by omega) (by have:=HZ2.out;omega) HC2.out)
 clear hown3 hg3
 go_wp2_with (refine wpList_insert_V rfl _ _ _ 181 108 rfl Tryz.underlying181 (w.heap.size+1) 3 _ rfl HO3.out (by decide) ⟨#[106,97]⟩ (.agg #[.string ⟨#[]⟩,.string ⟨#[]⟩,.string ⟨#[]⟩,.string ⟨#[]⟩,.string ⟨#[]⟩]) rfl rfl (by decide) ?_)
 intro w4 hown4 hg4;have HO4:=hid hown4;have HZ4:Hid (w.heap.size+2≤w4.heap.size):=hid (by have:=hg4.size;have:=HZ3.out;omega)
 have HC4:Hid (Below w.heap.size w w4):=hid (setTurn hg4 (by omega) (by have:=HZ3.out;omega) HC3.out)
 clear hown4 hg4
 go_wp2_with (refine wpList_insert_V rfl _ _ _ 181 108 rfl Tryz.underlying181 (w.heap.size+1) 4 _ rfl HO4.out (by decide) ⟨#[112,108]⟩ (.agg #[.string ⟨#[]⟩,.string ⟨#[105,32,61,32,49,32,97,110,100,32,118,32,61,32,48]⟩,.string ⟨#[]⟩,.string ⟨#[118,32,61,32,48,32,97,110,100,32,105,32,37,32,49,48,32,61,32,50,46,46,52,32,97,110,100,32,105,32,37,32,49,48,48,32,33,61,32,49,50,46,46,49,52]⟩,.string ⟨#[118,32,61,32,48,32,97,110,100,32,105,32,33,61,32,49,32,97,110,100,32,105,32,37,32,49,48,32,61,32,48,46,46,49,32,111,114,32,118,32,61,32,48,32,97,110,100,32,105,32,37,32,49,48,32,61,32,53,46,46,57,32,111,114,32,118,32,61,32,48,32,97,110,100,32,105,32,37,32,49,48,48,32,61,32,49,50,46,46,49,52]⟩]) rfl rfl (by decide) ?_)
 intro w5 hown5 hg5;have HO5:=hid hown5;have HZ5:Hid (w.heap.size+2≤w5.heap.size):=hid (by have:=hg5.size;have:=HZ4.out;omega)
 have HC5:Hid (Below w.heap.size w w5):=hid (setTurn hg5 (by omega) (by have:=HZ4.out;omega) HC4.out)
 clear hown5 hg5
 go_wp2_with (refine wpList_insert_V rfl _ _ _ 181 108 rfl Tryz.underlying181 (w.heap.size+1) 5 _ rfl HO5.out (by decide) ⟨#[114,117]⟩ (.agg #[.string ⟨#[]⟩,.string ⟨#[118,32,61,32,48,32,97,110,100,32,105,32,37,32,49,48,32,61,32,49,32,97,110,100,32,105,32,37,32,49,48,48,32,33,61,32,49,49]⟩,.string ⟨#[]⟩,.string ⟨#[118,32,61,32,48,32,97,110,100,32,105,32,37,32,49,48,32,61,32,50,46,46,52,32,97,110,100,32,105,32,37,32,49,48,48,32,33,61,32,49,50,46,46,49,52]⟩,.string ⟨#[118,32,61,32,48,32,97,110,100,32,105,32,37,32,49,48,32,61,32,48,32,111,114,32,118,32,61,32,48,32,97,110,100,32,105,32,37,32,49,48,32,61,32,53,46,46,57,32,111,114,32,118,32,61,32,48,32,97,110,100,32,105,32,37,32,49,48,48,32,61,32,49,49,46,46,49,52]⟩]) rfl rfl (by decide) ?_)
 intro w6 hown6 hg6;have HO6:=hid hown6;have HZ6:Hid (w.heap.size+2≤w6.heap.size):=hid (by have:=hg6.size;have:=HZ5.out;omega)
 have HC6:Hid (Below w.heap.size w w6):=hid (setTurn hg6 (by omega) (by have:=HZ5.out;omega) HC5.out)
 clear hown6 hg6
 go_wp2_with (refine wpList_insert_V rfl _ _ _ 181 108 rfl Tryz.underlying181 (w.heap.size+1) 6 _ rfl HO6.out (by decide) ⟨#[97,114]⟩ (.agg #[.string ⟨#[110,32,61,32,48]⟩,.string ⟨#[110,32,61,32,49]⟩,.string ⟨#[110,32,61,32,50]⟩,.string ⟨#[110,32,37,32,49,48,48,32,61,32,51,46,46,49,48]⟩,.string ⟨#[110,32,37,32,49,48,48,32,61,32,49,49,46,46,57,57]⟩]) rfl rfl (by decide) ?_)
 intro w7 hown7 hg7;have HO7:=hid hown7;have HZ7:Hid (w.heap.size+2≤w7.heap.size):=hid (by have:=hg7.size;have:=HZ6.out;omega)
 have HC7:Hid (Below w.heap.size w w7):=hid (setTurn hg7 (by omega) (by have:=HZ6.out;omega) HC6.out)
 clear hown7 hg7
 go_wp2_with (refine wpList_insert_V rfl _ _ _ 181 108 rfl Tryz.underlying181 (w.heap.size+1) 7 _ rfl HO7.out (by decide) ⟨#[108,118]⟩ (.agg #[.string ⟨#[110,32,37,32,49,48,32,61,32,48,32,111,114,32,110,32,37,32,49,48,48,32,61,32,49,49,46,46,49,57,32,111,114,32,118,32,61,32,50,32,97,110,100,32,102,32,37,32,49,48,48,32,61,32,49,49,46,46,49,57]⟩,.string ⟨#[110,32,37,32,49,48,32,61,32,49,32,97,110,100,32,110,32,37,32,49,48,48,32,33,61,32,49,49,32,111,114,32,118,32,61,32,50,32,97,110,100,32,102,32,37,32,49,48,32,61,32,49,32,97,110,100,32,102,32,37,32,49,48,48,32,33,61,32,49,49,32,111,114,32,118,32,33,61,32,50,32,97,110,100,32,102,32,37,32,49,48,32,61,32,49]⟩,.string ⟨#[]⟩,.string ⟨#[]⟩,.string ⟨#[]⟩]) rfl rfl (by decide) ?_)
 intro w8 hown8 hg8;have HO8:=hid hown8;have HZ8:Hid (w.heap.size+2≤w8.heap.size):=hid (by have:=hg8.size;have:=HZ7.out;omega)
 have HC8:Hid (Below w.heap.size w w8):=hid (setTurn hg8 (by omega) (by have:=HZ7.out;omega) HC7.out)
 clear hown8 hg8
 go_wp2_with fail
 go_ret
 exact⟨w.heap.size+1,rfl,Nat.le_succ _,HO8.out,HC8.out⟩
end Go.Proofs.YtpfmmbbggcghiaaGreatDoor
