/- The tag of a text as the document defines it is the one that the code takes. No program. -/
import Derived.Test.YtagfnpdoooachaaGreatDoorTagS
set_option linter.unusedSimpArgs false
set_option linter.unusedVariables false
namespace Go.Proofs.YtagfnpdoooachaaGreatDoor
open Go.RowKit
open Lib (hid)
theorem bts_extract (a:ByteArray) (i j:Nat):bts (a.extract i j)=((bts a).take j).drop i:=by
 show(a.extract i j).data.toList=_;rw[ByteArray.data_extract];simp[bts,List.take_drop]
 by_cases h:i≤j
 ·rw[show i+(j - i)=j by omega]
 ·rw[show i+(j - i)=i by omega,List.drop_eq_nil_of_le (by simp;omega),List.drop_eq_nil_of_le (by simp;omega)]
theorem bts_mapB (p:UInt8→Bool) (x:UInt8) (s:ByteArray):bts (mapB p x s)=(bts s).map fun c=>if p c then c ^^^ x else c:=bts_str _
theorem mapB_size (p:UInt8→Bool) (x:UInt8) (s:ByteArray):(mapB p x s).size=s.size:=by rw[←bts_len,bts_mapB,List.length_map,bts_len]
theorem fault_head {t:Tg} (h:headFault t=true):tagFault t=3:=by unfold tagFault;rw[if_pos h]
def en:ByteArray:=⟨#[101,110]⟩
theorem parse_fault {s:ByteArray} {t:Tg} (h:parseTag s=some t):tagFault t=0:=by
 unfold parseTag at h;split at h
 ·rename_i h1
  injection h with h;subst h;simpa using(Bool.and_eq_true_iff.1 h1).1
 ·cases h
section
variable {w w':World} {base base':Nat} {e:TypeId} {size:Nat} {v:Value} {n:Nat} {xs:List Value}
theorem own_keep (h:w.ownsRow base e size v n xs) (k:∀ g,v.ownBlock=some g→g < w.heap.size→w'.heap[g]? =w.heap[g]?):w'.ownsRow base e size v n xs:=by
 obtain⟨h1,h2|⟨g,cap,cur,hv,hb,hg,r⟩⟩:=h
 ·exact⟨h1,.inl h2⟩
 ·exact⟨h1,.inr ⟨g,cap,cur,hv,hb,(k g (by rw[hv];rfl) (Blk.lt (t:=e) (cs:=cur) hg)).trans hg,r⟩⟩
theorem own_lt (h:w.ownsRow base e size v n xs) {g:Nat} (hg:v.ownBlock=some g):base≤g∧g < w.heap.size:=by
 obtain⟨h1,⟨h2,_⟩|⟨g',cap,cur,hv,hb,hh,r⟩⟩:=h
 ·rw[h2]at hg;cases hg
 ·rw[hv]at hg;injection hg with hg;subst hg;exact⟨hb,Blk.lt (t:=e) (cs:=cur) hh⟩
theorem own_slice (h:w.ownsRow base e size v n xs):∃ A cap,v=.slice A n cap∧n≤cap:=by
 obtain⟨h1,⟨h2,h3⟩|⟨g',cap,cur,hv,hb,hh,hc,r⟩⟩:=h
 ·exact⟨none,0,by rw[h2,h3],by omega⟩
 ·exact⟨_,cap,hv,hc⟩
theorem own_below {B:Nat} (h:w.ownsRow base e size v n xs) (k:Below B w w') (hB:w.heap.size≤B):w'.ownsRow base e size v n xs:=
 own_keep h fun g _ hg=>k.block g (by omega)
theorem own_types {e':TypeId} {size' n':Nat} {v':Value} {xs':List Value} (h:w.ownsRow base e size v n xs) (h':w.ownsRow base' e' size' v' n' xs') (hne:e≠e') {g:Nat} (hg:v.ownBlock=some g):v'.ownBlock≠some g:=by
 intro hg';obtain⟨_,⟨h2,_⟩|⟨g1,cap,cur,hv,hb,hh,r⟩⟩:=h
 ·rw[h2]at hg;cases hg
 ·obtain⟨_,⟨h2',_⟩|⟨g2,cap',cur',hv',hb',hh',r'⟩⟩:=h'
  ·rw[h2']at hg';cases hg'
  ·rw[hv]at hg;injection hg with hg;subst hg;rw[hv']at hg';injection hg' with hg';subst hg';rw[hh]at hh';injection hh' with hh';injection hh' with _ hh';exact hne hh'
end
def tagCells (p:Tg×Value):List Value:=[.string p.1.lang,.string p.1.script,.string p.1.region,p.2]
def flatT (l:List (Tg×Value)):List Value:=l.flatMap tagCells
theorem flatT_at (l:List (Tg×Value)) (i:Nat) (h:i < l.length):((flatT l).drop (i*4)).take 4=tagCells l[i]:=by
 induction l generalizing i with
 | nil=>cases h
 | cons p l ih=>
   show((tagCells p++flatT l).drop (i*4)).take 4=_;cases i with
   | zero=>simp[tagCells]
   | succ i=>
     rw[show(i+1)*4=(tagCells p).length+i*4 from by simp[tagCells];omega,List.drop_append,List.drop_eq_nil_of_le (Nat.le_add_right _ _),Nat.add_sub_cancel_left]
     exact ih i (by simpa using h)
def VarRow (base:Nat) (w:World) (p:Tg×Value):Prop:=w.ownsRow base 9 1 p.2 p.1.vars.length (p.1.vars.map .string)
def Apart (a b:Tg×Value):Prop:=0 < b.1.vars.length→∀ g,a.2.ownBlock=some g→b.2.ownBlock≠some g
structure Rowed (base:Nat) (w:World) (u:Value) (ps:List (Tg×Value)):Prop where
 own:w.ownsRow base 77 4 u ps.length (flatT ps)
 vars:∀ p∈ps,VarRow base w p
 apart:ps.Pairwise Apart
def TagRow (base:Nat) (w:World) (u:Value) (l:List Tg):Prop:=∃ ps,ps.map Prod.fst=l∧Rowed base w u ps
theorem Rowed.keep {base:Nat} {w w':World} {u:Value} {ps:List (Tg×Value)} (h:Rowed base w u ps) (k:∀ g,base≤g→g < w.heap.size→w'.heap[g]? =w.heap[g]?):Rowed base w' u ps:=
 ⟨own_keep h.own fun g hg hlt=>k g (own_lt h.own hg).1 hlt,fun p hp=>own_keep (h.vars p hp) fun g hg hlt=>k g (own_lt (h.vars p hp) hg).1 hlt,h.apart⟩
theorem Rowed.below {base B:Nat} {w w':World} {u:Value} {ps:List (Tg×Value)} (h:Rowed base w u ps) (k:Below B w w') (hB:w.heap.size≤B):Rowed base w' u ps:=
 h.keep fun g _ hlt=>k.block g (by omega)
theorem VarRow.list {base lo hi:Nat} {w:World} {p:Tg×Value} (h:VarRow base w p) (hb:lo≤base) (hs:w.heap.size≤hi):ListOk Enc.str w lo hi p.2 p.1.vars:=ListOk.strs_of_own h hb hs
theorem Rowed.list {base lo hi:Nat} {w:World} {u:Value} {ps:List (Tg×Value)} (h:Rowed base w u ps) (hb:lo≤base) (hs:w.heap.size≤hi):ListOk Enc.tag w lo hi u (ps.map Prod.fst):=by
 have h1:=h.own;have e1:ps.length=(ps.map Prod.fst).length:=by simp
 rw[e1]at h1;refine ListOk.of_own (E:=Enc.tag) h1 hb hs fun i hl=> ?_;have hl':i < ps.length:=by simpa using hl
 refine⟨ps[i].2,?_,?_⟩
 ·rw[show Enc.tag.sz=4 from rfl,flatT_at ps i hl'];simp[tagCells]
 rw[List.getElem_map];exact(h.vars _ (List.getElem_mem hl')).list hb hs
theorem TagRow.list {base lo hi:Nat} {w:World} {u:Value} {l:List Tg} (h:TagRow base w u l) (hb:lo≤base) (hs:w.heap.size≤hi):ListOk Enc.tag w lo hi u l:=by
 obtain⟨ps,rfl,h⟩:=h;exact h.list hb hs
theorem ListOk.drop {α:Type} {E:Enc α} {w:World} {lo hi:Nat} {b o n c:Nat} {l:List α} (h:ListOk E w lo hi (.slice (some ⟨b,o,none⟩) n c) l) (k:Nat) (hk:k≤l.length) (c':Nat) (hc':l.length - k≤c'):
 ListOk E w lo hi (.slice (some ⟨b,o+k*E.sz,none⟩) (l.length - k) c') (l.drop k):=by
 obtain⟨A',c1,hv,hc,hi⟩:=h;injection hv with hv1 hv2 hv3;subst hv1;have hl:(l.drop k).length=l.length - k:=by simp
 refine⟨_,c',by rw[hl],by omega,fun i h=> ?_⟩
 obtain⟨b',o',cs,hA,g1,g2,g3,g4⟩:=hi (k+i) (by omega)
 injection hA with hA;injection hA with e1 e2;subst e1;subst e2;refine⟨b,o+k*E.sz,cs,rfl,g1,g2,?_,by simpa using g4⟩
 rw[Nat.add_mul,←Nat.add_assoc]at g3;exact g3
end Go.Proofs.YtagfnpdoooachaaGreatDoor
namespace Go.Proofs.YtagfnpdoooachaaGreatDoor
open Go.RowKit Go.Maps
open Lib (hid)
def heldR:Value→Option (DataW Value×List MemPlace):=fun v=>some (.held v,[])
def OwnsV (w:World) (b n:Nat) (f:ByteArray→Option Value):Prop:=
 ∃ D:DataW Value,w.ownsMap Tryz.prog 9 heldR b n D∧∀ s:ByteArray,has D (.string s.data.toList)=(f s).isSome∧∀ z,D.atKey (.string s.data.toList) (.held z)=.held ((f s).getD z)
theorem keyedS:Keyed Tryz.prog 9:=string_keyed Tryz.underlying9
theorem keyS {k:ByteArray} (hk:k.size≤maxLen):keyOf Tryz.prog 9 (.string k)=some (.string k.data.toList):=Go.WideMaps.keyOf_string_mk Tryz.underlying9 hk
theorem OwnsV.made (w:World):OwnsV (w.alloc (.map #[] 0)) w.heap.size 0 (fun _=>none):=
 ⟨.map [],World.ownsMap_made w _ _ _,fun s=>⟨rfl,fun z=>rfl⟩⟩
theorem OwnsV.lt {w:World} {b n:Nat} {f:ByteArray→Option Value} (h:OwnsV w b n f):b < w.heap.size:=by
 obtain⟨D,h1,_⟩:=h;exact h1.lt
theorem OwnsV.keep {w w':World} {b n:Nat} {f:ByteArray→Option Value} (h:OwnsV w b n f) (hb:w'.heap[b]? =w.heap[b]?):OwnsV w' b n f:=by
 obtain⟨D,⟨es,clock,h1,F,h2,h3⟩,h4⟩:=h;exact⟨D,⟨es,clock,hb.trans h1,F,h2,h3⟩,h4⟩
theorem OwnsV.below {w w':World} {b n B:Nat} {f:ByteArray→Option Value} (h:OwnsV w b n f) (hb:Below B w w') (hB:b < B):OwnsV w' b n f:=h.keep (hb.block b hB)
theorem held_inj {a b:Value} (h:(DataW.held a:DataW Value)=.held b):a=b:=by injection h
theorem OwnsV.look {w:World} {b n:Nat} {f:ByteArray→Option Value} (h:OwnsV w b n f) {t e:TypeId} (ht:Tryz.prog.underlying t=some (.map 9 e)) {z:Value} (hz:(zeroValue e).run Tryz.prog w=.ok z w) {k:ByteArray} (hk:k.size≤maxLen):
 (Instr.lookup t (.map (some b)) (.string k) false).run Tryz.prog w=.ok ((f k).getD z) w:=by
 obtain⟨D,h1,h2⟩:=h;obtain⟨v,ps,hrun,hv⟩:=h1.lookup keyedS ht hz (zd:=.held z) (zp:=[]) rfl (keyS hk);rw[(h2 k).2 z]at hv;have e1:v=(f k).getD z:=held_inj (congrArg Prod.fst (Option.some.inj hv));rw[hrun,e1]
theorem OwnsV.look_ok {w:World} {b n:Nat} {f:ByteArray→Option Value} (h:OwnsV w b n f) {t e:TypeId} (ht:Tryz.prog.underlying t=some (.map 9 e)) {z:Value} (hz:(zeroValue e).run Tryz.prog w=.ok z w) {k:ByteArray} (hk:k.size≤maxLen):
 (Instr.lookup t (.map (some b)) (.string k) true).run Tryz.prog w=.ok (.tuple #[(f k).getD z,.bool (f k).isSome]) w:=by
 obtain⟨D,h1,h2⟩:=h;obtain⟨v,ps,hrun,hv⟩:=h1.look_ok keyedS ht hz (zd:=.held z) (zp:=[]) rfl (keyS hk);rw[(h2 k).2 z]at hv;have e1:v=(f k).getD z:=held_inj (congrArg Prod.fst (Option.some.inj hv));rw[hrun,e1,(h2 k).1]
def putV (f:ByteArray→Option Value) (k:ByteArray) (v:Value):ByteArray→Option Value:=fun s=>if s=k then some v else f s
theorem bytes_inj {a b:ByteArray} (h:a.data.toList=b.data.toList):a=b:=by
 cases a;cases b;simp only[ByteArray.mk.injEq];exact Array.toList_inj.1 h
theorem OwnsV.put {w:World} {b n:Nat} {f:ByteArray→Option Value} (h:OwnsV w b n f) {t e:TypeId} (ht:Tryz.prog.underlying t=some (.map 9 e)) (hn:n < maxLen) {k:ByteArray} (hk:k.size≤maxLen) (v:Value):
 ∃ w',(Instr.mapUpdate t (.map (some b)) (.string k) v).run Tryz.prog w=.ok () w'∧OwnsV w' b (n+1) (putV f k v)∧w.mapTurned w' b:=by
 obtain⟨D,h1,h2⟩:=h;obtain⟨w',hrun,h3,h4⟩:=h1.store keyedS ht hn (keyS hk) (val:=v) (d:=.held v) (ps:=[]) rfl;refine⟨w',hrun,⟨_,h3,fun s=> ?_⟩,h4⟩;have hm:=h1.isMap
 by_cases hs:s=k
 ·subst hs;unfold putV;rw[if_pos rfl];refine⟨has_put_same hm ?_ _,fun z=> ?_⟩
  ·exact trivial
  ·rw[atKey_put_same hm ?_]
   ·rfl
   ·exact trivial
 ·have hne:(Lit.string s.data.toList)≠.string k.data.toList:=fun e=>hs (bytes_inj (Lit.string.inj e));unfold putV;rw[if_neg hs];exact⟨(has_put_other hne _).trans (h2 s).1,fun z=>(atKey_put_other hne _ _).trans ((h2 s).2 z)⟩
theorem wpList_insert_V {w:World} {ops:Array Oper} {rest:List Oper} {o:Oper} {a:Act} {Q:Exit→Act→World→Prop}
 (hg:o.guard=none) (m x v:Operand) (t e:TypeId) (hop:o.op=Op.insert t m x v) (ht:Tryz.prog.underlying t=some (.map 9 e)) (b n:Nat) (f:ByteArray→Option Value)
 (hm:a.eval m=.map (some b)) (hown:OwnsV w b n f) (hn:n < maxLen) (key:ByteArray) (val:Value) (hx:a.eval x=.string key) (hv:a.eval v=val) (hk:key.size≤maxLen)
 (hK:∀ w',OwnsV w' b (n+1) (putV f key val)→w.grownBy w' (some b)→wpList Tryz.prog ops Q rest (a.put o.dst undef) w'):
 wpList Tryz.prog ops Q (o::rest) a w:=by
 refine wpList_plain hg fun K' hK'=> ?_;obtain⟨w',hrun,r1,r2⟩:=hown.put ht hn hk val;unfold Oper.wp;simp[execOp,hop,hm,hx,hv,hrun,Result.andThen];exact hK' _ _ (hK w' r1 r2.grown)
theorem wpList_update_V {w:World} {ops:Array Oper} {rest:List Oper} {o:Oper} {a:Act} {Q:Exit→Act→World→Prop}
 (hg:o.guard=none) (m x v:Operand) (t e:TypeId) (hop:o.op=Op.mapUpdate t m x v) (ht:Tryz.prog.underlying t=some (.map 9 e)) (b n:Nat) (f:ByteArray→Option Value)
 (hm:a.eval m=.map (some b)) (hown:OwnsV w b n f) (hn:n < maxLen) (key:ByteArray) (val:Value) (hx:a.eval x=.string key) (hv:a.eval v=val) (hk:key.size≤maxLen)
 (hK:∀ w',OwnsV w' b (n+1) (putV f key val)→w.grownBy w' (some b)→wpList Tryz.prog ops Q rest (a.put o.dst undef) w'):
 wpList Tryz.prog ops Q (o::rest) a w:=by
 refine wpList_plain hg fun K' hK'=> ?_;obtain⟨w',hrun,r1,r2⟩:=hown.put ht hn hk val;unfold Oper.wp;simp[execOp,hop,hm,hx,hv,hrun,Result.andThen];exact hK' _ _ (hK w' r1 r2.grown)
def formsF:ByteArray→Option Value:=putV (putV (putV (putV (putV (putV (fun _=>none) ⟨#[107,105,110,100]⟩ (.agg #[.int .i64 3,.func (.func 19) #[] #[]])) ⟨#[110,117,109]⟩ (.agg #[.int .i64 2,.func (.func 26) #[] #[]])) ⟨#[115,104,111,114,116]⟩ (.agg #[.int .i64 2,.func (.func 28) #[] #[]])) ⟨#[119,101,101,107]⟩ (.agg #[.int .i64 2,.func (.func 31) #[] #[]])) ⟨#[99,104,97,105,110]⟩ (.agg #[.int .i64 2,.func (.func 37) #[] #[]])) ⟨#[115,97,121]⟩ (.agg #[.int .i64 (-3),.func (.func 44) #[] #[]])
set_option maxHeartbeats 6400000 in
set_option maxRecDepth 100000 in
theorem forms_any (w:World):Calls Tryz.prog 13 #[] w fun e w'=>∃ b,e=.returned (.map (some b))∧w.heap.size≤b∧OwnsV w' b 6 formsF∧Below w.heap.size w w':=by
 have hmm:=@run_makeMap Tryz.prog;have HO0:Hid (OwnsV (w.alloc (.map #[] 0)) w.heap.size 0 (fun _=>none)):=hid (OwnsV.made w);have HC0:Hid (Below w.heap.size w (w.alloc (.map #[] 0))):=hid ((Below.refl _ _).alloc (Nat.le_refl _) _);have HZ0:Hid (w.heap.size+1≤(w.alloc (.map #[] 0)).heap.size):=hid (by simp)
 go_enter Tryz.func13,Tryz.ntmps13
 go_wp2_with (refine wpList_insert_V rfl _ _ _ 34 38 rfl Tryz.underlying34 w.heap.size 0 _ rfl HO0.out (by decide) ⟨#[107,105,110,100]⟩ (.agg #[.int .i64 3,.func (.func 19) #[] #[]]) rfl rfl (by decide) ?_)
 intro w1 hown hg;have HO1:=hid hown;have HC1:Hid (Below w.heap.size w w1):=hid (HC0.out.grown hg (by have:=HZ0.out;omega) (fun r e=>by cases e;exact Nat.le_refl _))
 have HZ1:Hid (w.heap.size+1≤w1.heap.size):=hid (Nat.le_trans HZ0.out hg.size);clear hown hg
 go_wp2_with (refine wpList_insert_V rfl _ _ _ 34 38 rfl Tryz.underlying34 w.heap.size 1 _ rfl HO1.out (by decide) ⟨#[110,117,109]⟩ (.agg #[.int .i64 2,.func (.func 26) #[] #[]]) rfl rfl (by decide) ?_)
 intro w2 hown hg;have HO2:=hid hown;have HC2:Hid (Below w.heap.size w w2):=hid (HC1.out.grown hg (by have:=HZ1.out;omega) (fun r e=>by cases e;exact Nat.le_refl _))
 have HZ2:Hid (w.heap.size+1≤w2.heap.size):=hid (Nat.le_trans HZ1.out hg.size);clear hown hg
 go_wp2_with (refine wpList_insert_V rfl _ _ _ 34 38 rfl Tryz.underlying34 w.heap.size 2 _ rfl HO2.out (by decide) ⟨#[115,104,111,114,116]⟩ (.agg #[.int .i64 2,.func (.func 28) #[] #[]]) rfl rfl (by decide) ?_)
 intro w3 hown hg;have HO3:=hid hown;have HC3:Hid (Below w.heap.size w w3):=hid (HC2.out.grown hg (by have:=HZ2.out;omega) (fun r e=>by cases e;exact Nat.le_refl _))
 have HZ3:Hid (w.heap.size+1≤w3.heap.size):=hid (Nat.le_trans HZ2.out hg.size);clear hown hg
 go_wp2_with (refine wpList_insert_V rfl _ _ _ 34 38 rfl Tryz.underlying34 w.heap.size 3 _ rfl HO3.out (by decide) ⟨#[119,101,101,107]⟩ (.agg #[.int .i64 2,.func (.func 31) #[] #[]]) rfl rfl (by decide) ?_)
 intro w4 hown hg;have HO4:=hid hown;have HC4:Hid (Below w.heap.size w w4):=hid (HC3.out.grown hg (by have:=HZ3.out;omega) (fun r e=>by cases e;exact Nat.le_refl _))
 have HZ4:Hid (w.heap.size+1≤w4.heap.size):=hid (Nat.le_trans HZ3.out hg.size);clear hown hg
 go_wp2_with (refine wpList_insert_V rfl _ _ _ 34 38 rfl Tryz.underlying34 w.heap.size 4 _ rfl HO4.out (by decide) ⟨#[99,104,97,105,110]⟩ (.agg #[.int .i64 2,.func (.func 37) #[] #[]]) rfl rfl (by decide) ?_)
 intro w5 hown hg;have HO5:=hid hown;have HC5:Hid (Below w.heap.size w w5):=hid (HC4.out.grown hg (by have:=HZ4.out;omega) (fun r e=>by cases e;exact Nat.le_refl _))
 have HZ5:Hid (w.heap.size+1≤w5.heap.size):=hid (Nat.le_trans HZ4.out hg.size);clear hown hg
 go_wp2_with (refine wpList_insert_V rfl _ _ _ 34 38 rfl Tryz.underlying34 w.heap.size 5 _ rfl HO5.out (by decide) ⟨#[115,97,121]⟩ (.agg #[.int .i64 (-3),.func (.func 44) #[] #[]]) rfl rfl (by decide) ?_)
 intro w6 hown hg;have HO6:=hid hown;have HC6:Hid (Below w.heap.size w w6):=hid (HC5.out.grown hg (by have:=HZ5.out;omega) (fun r e=>by cases e;exact Nat.le_refl _))
 have HZ6:Hid (w.heap.size+1≤w6.heap.size):=hid (Nat.le_trans HZ5.out hg.size);clear hown hg
 go_wp2_with fail
 go_ret
 exact⟨w.heap.size,rfl,Nat.le_refl _,HO6.out,HC6.out⟩
end Go.Proofs.YtagfnpdoooachaaGreatDoor
