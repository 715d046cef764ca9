/- The walk of package store: New, clean, Kept, Get, Pin, Free. -/
import Derived.Test.YtpfmmbbggcghiaaGreatDoorDrawn
import Derived.Test.YtpfmmbbggcghiaaGreatDoorCpyB
import Derived.Deep.AppendLies
set_option linter.unusedSimpArgs false
set_option linter.unusedVariables false
namespace Go.Proofs.YtpfmmbbggcghiaaGreatDoor
open Go.RowKit Go.Maps Go.Shelf
open Lib (hid)
theorem new_any (w:World):Calls Tryz.prog 25 #[] w fun e w'=>∃ p M,e=.returned (.pointer (some ⟨p,0,none⟩))∧StoreSt w.heap.size w'.heap.size w' p M []∧Below w.heap.size w w':=by
 have hmm:=@run_makeMap Tryz.prog
 go_enter Tryz.func25,Tryz.ntmps25
 go_wp2_with fail
 go_ret
 have hb:Below w.heap.size w ((w.alloc (.map #[] 0)).alloc (.cells #[.int .i64 0,.map (some w.heap.size)] 142)):=((Below.refl _ _).alloc (Nat.le_refl _) _).alloc (by simp) _
 have h0:=World.ownsMap_made (H:=Nat) w Tryz.prog 3 ptrR;refine⟨w.heap.size+1,w.heap.size,?_,⟨⟨by omega,by simp⟩,⟨Nat.le_refl _,by simp;omega⟩,?_,⟨0,Nat.le_refl _,World.ownsMap.alloc h0 _⟩,fun r hr=>(by cases hr),List.Pairwise.nil⟩,hb⟩
 ·simp
 ·have:=Blk.new (w.alloc (.map #[] 0)) 142 #[.int .i64 0,.map (some w.heap.size)];rw[World.size_alloc]at this;exact this
theorem cleanFn_any (W:World) (k N:Int) (a bx p hd:Nat) (hb:W.cell? ⟨bx,0,none⟩=some (.pointer (some ⟨p,0,none⟩))) (hp:W.cell? ⟨p,0,none⟩=some (.int .i64 N)) (ha:W.cell? ⟨a,1,none⟩=some (.int .i64 hd)):
 Calls Tryz.prog 101 #[.int .i64 k,.pointer (some ⟨a,0,none⟩),.pointer (some ⟨bx,0,none⟩)] W fun e w'=>e=.returned (.bool (k != N && ((hd:Int) == 0)))∧W=w':=by
 obtain⟨P,hP⟩:∃ P,(k != N)=P:=⟨_,rfl⟩;obtain⟨Z,hZ⟩:∃ Z,((hd:Int) == 0)=Z:=⟨_,rfl⟩;rw[hP,hZ];cases P with
 | true=>
   go_enter Tryz.func101,Tryz.ntmps101
   go_wp2_with fail
   go_ret
   exact⟨by simp[hZ],rfl⟩
 | false=>
   go_enter Tryz.func101,Tryz.ntmps101
   go_wp2_with fail
   go_ret
   exact⟨rfl,rfl⟩
theorem enters_cleanFn (args:Array Value) (w:World):(callFunc 101 args).run Tryz.prog w=.ok (.enter 101 args) w:=enters_of Tryz.func101 (by kernel_rfl) rfl args w
def cleanB (N:Int) (vs:List VR) (kl:Lit) (d:DataW Nat):Bool:=match kl,d with
 | .int _ k,.held a=>k != N && ((heldOf vs a:Int) == 0)
 | _,_=>false
theorem cleanB_eq (N:Nat) (vs:List VR) (m:Nat×Nat):cleanB N vs (.int .i64 m.1) (.held m.2)=(m.1 != N && heldOf vs m.2 == 0):=by
 show(((m.1:Int) != (N:Int)) && ((heldOf vs m.2:Int) == 0))=_;rw[Bool.eq_iff_iff];simp;intro _;omega
theorem cleaned_any {B b1 p M g:Nat} {w:World} {vs:List VR} {q:Nat→VR→Bool} (h:StoreIn B b1 w p M vs (pickV q 1 vs)) (hq:∀ i (hi:i < vs.length),live vs.length (1+i) vs[i]=true→q (1+i) vs[i]=true)
 (hc:w.cell? ⟨g,0,none⟩=some (.pointer (some ⟨p,0,none⟩))) (hg:g < w.heap.size) (hgM:g≠M):
 Calls Tryz.prog 100 #[.map (some M),.func (.func 101) #[] #[.pointer (some ⟨g,0,none⟩)]] w fun e w'=>
  e=.returned (.tuple #[])∧StoreSt B b1 w' p M vs∧Fr w w' (· =M):=by
 obtain⟨n,hn,hM⟩:=h.all;have hpM:M≠p:=owns_ne_blk hM h.box;have hM2:w.ownsMap Tryz.prog 3 (ptrIn (vs.map VR.blk)) M n (toV (pickV q 1 vs)):=owns_sub hM fun e he v ps hv=>by
  obtain⟨x,hx,rfl⟩:=List.mem_map.1 he;obtain⟨m,a⟩:=x;obtain⟨i,hi,_,rfl,_⟩:=mem_pickV.1 hx;exact ptrR_in (List.mem_map.2 ⟨vs[i],List.getElem_mem hi,rfl⟩) rfl hv
 have hd:=AnyDf.maps_DeleteFunc Tryz.layDel lawI (ptrIn (vs.map VR.blk)) (cleanB vs.length vs) 101 #[.pointer (some ⟨g,0,none⟩)] M n (toV (pickV q 1 vs)) w enters_cleanFn hM2 (fun W key val kl yd yp hgr hkey hval=>by
  obtain⟨x,rfl,rfl,_⟩:=Maps.keyOf_int_inv Tryz.underlying3 hkey;obtain⟨a,ha,rfl,rfl⟩:=ptrIn_inv hval;obtain⟨r,hr,rfl⟩:=List.mem_map.1 ha;obtain⟨i,hi,rfl⟩:=List.mem_iff_getElem.1 hr;obtain⟨wb,S,m,k1,_⟩:=(h.vers _ hr).rec_;have hcW:W.cell? ⟨g,0,none⟩=some (.pointer (some ⟨p,0,none⟩)):=(World.cell?_of_block (hgr.block g hg (fun e=>hgM (Option.some.inj e)))).trans hc;have hpW:W.cell? ⟨p,0,none⟩=some (.int .i64 vs.length):=(World.cell?_of_block (hgr.block p h.box.lt (fun e=>hpM (Option.some.inj e).symm))).trans ((h.box.cell 0).trans rfl);have haW:W.cell? ⟨vs[i].blk,1,none⟩=some (.int .i64 vs[i].held):=(World.cell?_of_block (hgr.block vs[i].blk k1.lt (fun e=>owns_ne_blk hM k1 (Option.some.inj e).symm))).trans ((k1.cell 1).trans rfl);have hh:=heldOf_at h.apart i hi;refine(cleanFn_any W x vs.length vs[i].blk g p vs[i].held hcW hpW haW).mono fun e w' ⟨he,hw⟩=>⟨?_,hw ▸ ⟨rfl,rfl,rfl,Nat.le_refl _,fun _ _ _=>rfl⟩⟩;rw[he,←hh];rfl)
 refine hd.mono fun e w' ⟨he,ho',hg'⟩=>⟨he,?_,?_⟩
 ·have hf:Fr w w' (· =M):=(Fr.refl w _).grown hg' fun k hk=>.inl (Option.some.inj hk).symm;have e1:Lib.deleteFuncD (cleanB vs.length vs) (toV (pickV q 1 vs))=toV (keptV vs):=by
   rw[toV_delete (fun m=>m.1 != vs.length && heldOf vs m.2 == 0) _ _ fun m _=>cleanB_eq _ _ m,clean_pick h.apart hq]
  rw[e1]at ho';have ho2:OwnsN w' M n (keptV vs):=owns_sub ho' fun _ _ v ps hv=>ptrIn_R hv;exact⟨h.lp,h.lM,h.box.fr hf fun e=>hpM e.symm,⟨n,hn,ho2⟩,fun r hr=>(h.vers r hr).fr hf fun k hk=>by have:k=M:=hk;have:=h.lM;omega,h.apart⟩
 ·exact(Fr.refl w _).grown hg' fun k hk=>.inl (Option.some.inj hk).symm
theorem clean_any {B b1 p M:Nat} {w:World} {vs:List VR} {q:Nat→VR→Bool} (h:StoreIn B b1 w p M vs (pickV q 1 vs)) (hq:∀ i (hi:i < vs.length),live vs.length (1+i) vs[i]=true→q (1+i) vs[i]=true):
 Calls Tryz.prog 60 #[.pointer (some ⟨p,0,none⟩)] w fun e w'=>e=.returned (.tuple #[])∧StoreSt B b1 w' p M vs∧Fr w w' (· =M):=by
 have hmf:∀(fn:Fn) (first cap:Array Value) (w:World),(Instr.makeFunc fn first cap).run Tryz.prog w=.ok (.func fn first cap) w:=fun _ _ _ _=>rfl
 have h1:StoreIn B b1 (w.alloc (.cells #[.pointer (some ⟨p,0,none⟩)] 74)) p M vs (pickV q 1 vs):=h.keep ((Below.refl _ _).alloc (Nat.le_refl _) _);have hlM:M < w.heap.size:=by obtain⟨n,_,hM⟩:=h.all;exact owns_lt hM
 have hlp:=h.box.lt;have HD:=hid (cleaned_any (g:=w.heap.size) h1 hq (by simp) (by simp) (by omega))
 have c1:w.cell? ⟨p,1,none⟩=some (.map (some M)):=(h.box.cell 1).trans rfl;clear h h1 hq
 go_enter Tryz.func60,Tryz.ntmps60
 go_wp2_with fail
 refine HD.out.mono ?_;clear HD;rintro e w' ⟨rfl,hS,hf⟩;have hf2:Fr w w' (· =M):=((Fr.of_below ((Below.refl _ _).alloc (Nat.le_refl _) _) _).trans hf);have HS:=hid hS;have HF:=hid hf2;clear hS hf hf2
 go_wp2_with fail
 go_end0
 exact⟨rfl,HS.out,HF.out⟩
end Go.Proofs.YtpfmmbbggcghiaaGreatDoor
namespace Go.Proofs.YtpfmmbbggcghiaaGreatDoor
open Go.RowKit Go.Maps
open Lib (hid)
theorem neq_map_some (b:Nat) (W:World):Sem.run Tryz.prog (binOp BinOp.neq 147 (.map (some b)) (.map none)) W=.ok (.bool true) W:=by kernel_rfl
theorem neq_map_none (W:World):Sem.run Tryz.prog (binOp BinOp.neq 147 (.map none) (.map none)) W=.ok (.bool false) W:=by kernel_rfl
structure LoadSt (w wr:World) (vb wb:Nat) (S:List Ent) (l:List Bun) (j:Nat):Prop where
 lo:w.heap.size≤wb
 lv:w.heap.size≤vb
 blk:Blk wr vb 146 #[.map (some wb),.int .i64 0]
 map:OwnsA wr wb j S
 words:Words wr (wb+1) S (l.take j)
 below:Below w.heap.size w wr
theorem LoadSt.keep {w wr W:World} {vb wb j:Nat} {S:List Ent} {l:List Bun} (h:LoadSt w wr vb wb S l j) (hb:Below wr.heap.size wr W):LoadSt w W vb wb S l j:=by
 have hf:Fr wr W (fun _=>False):=Fr.of_below hb _;exact⟨h.lo,h.lv,h.blk.fr hf id,owns_fr h.map hf id,h.words.fr hf fun _ _ _ _ _ hx=>hx,h.below.trans (hb.mono h.below.size)⟩
theorem putE_text (S:List Ent) (x:Ent) (k:ByteArray) (h:hasK S x.key=false):textK (putE S x) k=if eqs x.key k then some x.text else textK S k:=by
 have hn:∀ e∈S,e.key≠x.key:=fun e he h2=>by
  have:hasK S x.key=true:=hasK_iff.2 ⟨e,he,h2⟩;rw[h]at this;cases this
 unfold putE;rw[filter_self hn];unfold textK;clear h
 induction S with
 | nil=>
   show([x].find? _).map _=_;rw[List.find?_cons];cases eqs x.key k <;> rfl
 | cons a r ih=>
   have ihr:=ih fun e he=>hn e (List.mem_cons_of_mem _ he);unfold insE;split
   ·rw[List.find?_cons];cases eqs x.key k <;> rfl
   ·rw[List.find?_cons,List.find?_cons];cases hak:eqs a.key k with
    | true=>
      have:eqs x.key k=false:=by
       rw[eqs_false];intro e;have:=(eqs_iff _ _).1 hak;exact hn a List.mem_cons_self (this.trans e.symm)
      rw[this];rfl
    | false=>exact ihr
theorem putE_has (S:List Ent) (x:Ent) (k:ByteArray):hasK (putE S x) k=(eqs x.key k || hasK S k):=by
 rw[Bool.eq_iff_iff,hasK_iff,Bool.or_eq_true,eqs_iff,hasK_iff];unfold putE
 constructor
 ·rintro⟨e,he,rfl⟩;rcases mem_insE.1 he with rfl|he
  ·exact .inl rfl
  ·exact .inr ⟨e,(List.mem_filter.1 he).1,rfl⟩
 ·rintro(rfl|⟨e,he,rfl⟩)
  ·exact⟨x,mem_insE.2 (.inl rfl),rfl⟩
  ·by_cases h:e.key=x.key
   ·exact⟨x,mem_insE.2 (.inl rfl),h.symm⟩
   ·exact⟨e,mem_insE.2 (.inr (List.mem_filter.2 ⟨he,by rw[Bool.not_eq_true',eqs_false];exact h⟩)),rfl⟩
theorem LoadSt.push {w wr W:World} {vb wb mb j:Nat} {S:List Ent} {l:List Bun} (h:LoadSt w wr vb wb S l j) (hj:j < l.length) (hno:∀ q (h:q < j),l[q].tag≠l[j].tag) (hf:Fr wr W (· =wb)) (hm:wr.heap.size≤mb)
 (hA:OwnsA W wb (j+1) (putE S ⟨l[j].tag,adr mb⟩)) {n:Nat} (hO:OwnsW W mb n (srt l[j].ents)):LoadSt w W vb wb (putE S ⟨l[j].tag,adr mb⟩) l (j+1):=by
 have hnoT:∀ b∈l.take j,b.tag≠l[j].tag:=fun b hb=>by
  obtain⟨q,hq,rfl⟩:=List.mem_iff_getElem.1 hb;rw[List.length_take]at hq;rw[List.getElem_take];exact hno q (by omega)
 have hS0:hasK S l[j].tag=false:=h.words.no _ hnoT;have hlw:=owns_lt h.map;refine⟨h.lo,h.lv,h.blk.fr hf fun e=>owns_ne_blk h.map h.blk e.symm,hA,⟨fun b hb=> ?_,fun tag ht=> ?_⟩,Fr.below h.below hf h.below.size fun i e=>by have:i=wb:=e;have:=h.lo;omega⟩
 ·rw[List.take_succ_eq_append_getElem hj]at hb;rcases List.mem_append.1 hb with hb|hb
  ·obtain⟨mb',k,h1,h2,h3⟩:=h.words.yes b hb;refine⟨mb',k,?_,h2,owns_fr h3 hf fun e=>by have:mb'=wb:=e;omega⟩
   rw[putE_text S _ _ hS0];have:eqs l[j].tag b.tag=false:=by rw[eqs_false];exact fun e=>hnoT b hb e.symm
   show(if eqs l[j].tag b.tag then _ else _)=_
   rw[this];exact h1
  ·rw[List.mem_singleton.1 hb];refine⟨mb,n,?_,by omega,hO⟩
   rw[putE_text S _ _ hS0];show(if eqs l[j].tag l[j].tag then _ else _)=_
   rw[eqs_self];rfl
 ·rw[putE_has];have h1:eqs l[j].tag tag=false:=by
   rw[eqs_false];exact ht _ (by rw[List.take_succ_eq_append_getElem hj];exact List.mem_append.2 (.inr (List.mem_singleton.2 rfl)))
  have h2:hasK S tag=false:=h.words.no tag fun b hb=>ht b (by rw[List.take_succ_eq_append_getElem hj];exact List.mem_append.2 (.inl hb))
  show(eqs l[j].tag tag || hasK S tag)=false;rw[h1,h2];rfl
end Go.Proofs.YtpfmmbbggcghiaaGreatDoor
namespace Go.Proofs.YtpfmmbbggcghiaaGreatDoor
open Go.RowKit
open Lib (hid)
theorem step_append_any {P:Program} {w:World} {ops:Array Oper} {o:Oper} {a:Act} {K:Act→World→Prop} {Q:Exit→Act→World→Prop} {E:Prop} (hgd:o.guard=none) (s x:Operand) (t:TypeId)
 (ho:o.op=.call { callee:=.builtin .append,args:=#[s,x],argTypes:=#[t,t] })
 (base:Nat) (e:TypeId) {z:Value} {size bytes:Nat} (ht:P.underlying t=some (.slice e)) (hi:(P.info? e).map (fun i=>(i.zero,i.size,i.bytes))=some (some z,size,bytes))
 (hzs:z.cells.size=size) (hsz:0 < size)
 {v:Value} {n:Nat} (xs:List Value) (hs:a.eval s=v) (hown:w.ownsRow base e size v n xs)
 {A:Option Addr} {m c:Nat} (news:List Value) (hx:a.eval x=.slice A m c) (hl:news.length=m*size)
 (hnews:m=0∨∃ b o,A=some ⟨b,o,none⟩∧∀ j u,news[j]? =some u→w.cell? ⟨b,o+j,none⟩=some u) (h1:∀ u∈news,u.oneCell'=true)
 (h63:n+m≤maxLen) (hbytes:(n+m)*bytes≤140737488355328) (hbase:base≤w.heap.size)
 (h:∀ v' w',w'.ownsRow base e size v' (n+m) (xs++news)→w.grownBy w' v.ownBlock→K (a.put o.dst v') w'):
 if Region.wanted o (yielded ops a.tmps)=true then Oper.wp P o a w K Q else E:=by
 have hw:Region.wanted o (yielded ops a.tmps)=true:=by simp[Region.wanted,hgd]
 rw[if_pos hw];obtain⟨i,hi,hz0,hz1,hz2⟩:=info_parts hi
 by_cases hm:m=0
 ·subst hm;have hnil:news=[]:=List.length_eq_zero_iff.1 (by omega)
  subst hnil;have hh:=h v w (by simpa using hown) (World.grownBy.refl _ _)
  obtain⟨B,cap,rfl,hcap⟩:=own_slice hown;have hS:Src P i.size t (.slice A 0 c) 0 [] w:=by
   cases A with
   | none=>exact Src.ofNil w ht c
   | some ad=>exact Src.ofSlice w ht ad 0 c [] (by simp) (fun j u hj=>by simp at hj) (fun u hu=>by cases hu)
  have hrun:=run_append_nothing (P:=P) w t t o.type e i ht hi B n cap hcap _ hS;unfold Oper.wp execOp;simp only[ho,resolve,invoke,builtin,Sem.run_bind,Sem.run_pure,Result.andThen_ok,List.map_toArray,List.map_cons,List.map_nil,hs,hx,hrun];exact hh
 ·rcases hnews with h0|⟨b,o',rfl,hc⟩
  ·exact absurd h0 hm
  obtain⟨v',w',hr,h2,h3,_,_⟩:=run_append_own_at (P:=P) w base t o.type e i z size bytes ht hi hz0 hz1 hz2 hzs hsz v n xs hown ⟨b,o',none⟩ m c news hl (fun j u hj=>by
   have e1:((⟨b,o',none⟩:Addr).add j)=⟨b,o'+j,none⟩:=by
    unfold Addr.add
    by_cases h0:j=0
    ·rw[if_pos h0,h0];rfl
    ·rw[if_neg h0]
   rw[e1];exact hc j u hj) h1 h63 hbytes hbase
  unfold Oper.wp execOp;simp only[ho,resolve,invoke,builtin,Sem.run_bind,Sem.run_pure,Result.andThen_ok,List.map_toArray,List.map_cons,List.map_nil,hs,hx,hr];exact h v' w' h2 h3
def entCells (e:Ent):List Value:=[.string e.key,.string e.text]
def flatE (l:List Ent):List Value:=l.flatMap entCells
theorem flatE_length (l:List Ent):(flatE l).length=l.length*2:=by
 induction l with
 | nil=>rfl
 | cons p l ih=>show(entCells p++flatE l).length=_;rw[List.length_append,ih];simp[entCells];omega
theorem flatE_at (l:List Ent) (i:Nat) (h:i < l.length):((flatE l).drop (i*2)).take 2=entCells l[i]:=by
 induction l generalizing i with
 | nil=>cases h
 | cons p l ih=>
   show((entCells p++flatE l).drop (i*2)).take 2=_;cases i with
   | zero=>simp[entCells]
   | succ i=>
     rw[show(i+1)*2=(entCells p).length+i*2 from by simp[entCells];omega,List.drop_append,List.drop_eq_nil_of_le (Nat.le_add_right _ _),Nat.add_sub_cancel_left]
     exact ih i (by simpa using h)
theorem flatE_one (l:List Ent):∀ u∈flatE l,u.oneCell'=true:=by
 intro u hu;obtain⟨e,_,he⟩:=List.mem_flatMap.1 hu;simp only[entCells,List.mem_cons,List.not_mem_nil,or_false]at he;rcases he with rfl|rfl <;> rfl
theorem news_ents {w:World} {lo hi:Nat} {A:Option Addr} {c:Nat} {l:List Ent} (h:ListOk Enc.ent w lo hi (.slice A l.length c) l):
 l.length=0∨∃ b o,A=some ⟨b,o,none⟩∧∀ j u,(flatE l)[j]? =some u→w.cell? ⟨b,o+j,none⟩=some u:=by
 by_cases h0:l.length=0
 ·exact .inl h0
 ·obtain⟨b,o,rfl,_,_,_⟩:=h.entAt 0 (by omega)
  refine .inr ⟨b,o,rfl,fun j u hj=> ?_⟩;have hjl:j < l.length*2:=by
   rcases Nat.lt_or_ge j (l.length*2)with h|h
   ·exact h
   ·rw[List.getElem?_eq_none (by rw[flatE_length];exact h)]at hj;cases hj
  have hi:j / 2 < l.length:=by omega
  obtain⟨b',o',he,_,_,x0,x1⟩:=h.entAt (j / 2) hi;injection he with he;injection he with e1 e2;subst e1;subst e2;have hh:=flatE_at l (j / 2) hi;have hr:j=j / 2*2+j % 2:=by omega
  have hk:((flatE l).drop (j / 2*2)).take 2=entCells l[j / 2]:=hh;have hg:(entCells l[j / 2])[j % 2]? =some u:=by
   rw[←hk,List.getElem?_take,if_pos (by omega),List.getElem?_drop,←hr];exact hj
  rcases Nat.mod_two_eq_zero_or_one j with h2|h2
  ·rw[h2]at hg hr;injection hg with hg;rw[hr,←hg];exact x0
  ·rw[h2]at hg hr;injection hg with hg;rw[hr,←hg,←Nat.add_assoc];exact x1
theorem info_ent:(Tryz.prog.info? 70).map (fun i=>(i.zero,i.size,i.bytes))=some (some (.agg #[.string ⟨#[]⟩,.string ⟨#[]⟩]),2,32):=by kernel_rfl
theorem info_bun:(Tryz.prog.info? 49).map (fun i=>(i.zero,i.size,i.bytes))=some (some (.agg #[.string ⟨#[]⟩,.slice none 0 0]),2,40):=by kernel_rfl
theorem ents_of_own {w:World} {base lo hi:Nat} {v:Value} {l:List Ent} (h:w.ownsRow base 70 2 v l.length (flatE l)) (hb:lo≤base) (hs:w.heap.size≤hi):ListOk Enc.ent w lo hi v l:=
 ListOk.of_own (E:=Enc.ent) h hb hs fun i hl=>flatE_at l i hl
theorem blk_grown {w w':World} {g:Nat} {t:TypeId} {cs:Array Value} {row:Option Nat} (h:Blk w g t cs) (hg:w.grownBy w' row) (hne:some g≠row):Blk w' g t cs:=(hg.block g h.lt hne).trans h
def bunCells (p:Bun×Value):List Value:=[.string p.1.tag,p.2]
def flatB (l:List (Bun×Value)):List Value:=l.flatMap bunCells
theorem flatB_at (l:List (Bun×Value)) (i:Nat) (h:i < l.length):((flatB l).drop (i*2)).take 2=bunCells l[i]:=by
 induction l generalizing i with
 | nil=>cases h
 | cons p l ih=>
   show((bunCells p++flatB l).drop (i*2)).take 2=_;cases i with
   | zero=>simp[bunCells]
   | succ i=>
     rw[show(i+1)*2=(bunCells p).length+i*2 from by simp[bunCells];omega,List.drop_append,List.drop_eq_nil_of_le (Nat.le_add_right _ _),Nat.add_sub_cancel_left]
     exact ih i (by simpa using h)
def EntRow (base:Nat) (w:World) (p:Bun×Value):Prop:=w.ownsRow base 70 2 p.2 p.1.ents.length (flatE p.1.ents)
structure RowedB (base:Nat) (w:World) (u:Value) (ps:List (Bun×Value)):Prop where
 own:w.ownsRow base 49 2 u ps.length (flatB ps)
 ents:∀ p∈ps,EntRow base w p
theorem RowedB.below {base B:Nat} {w w':World} {u:Value} {ps:List (Bun×Value)} (h:RowedB base w u ps) (k:Below B w w') (hB:w.heap.size≤B):RowedB base w' u ps:=
 ⟨own_below h.own k hB,fun p hp=>own_below (h.ents p hp) k hB⟩
theorem RowedB.push {base:Nat} {W w':World} {o v':Value} {ps:List (Bun×Value)} {q:Bun×Value} (h:RowedB base W o ps) (hq:EntRow base W q) (hg:W.grownBy w' o.ownBlock)
 (hown:w'.ownsRow base 49 2 v' (ps.length+1) (flatB ps++bunCells q)):RowedB base w' v' (ps++[q]):=by
 have keep:∀ p,EntRow base W p→EntRow base w' p:=fun p hp=>own_keep hp fun g hpg hlt=>hg.block g hlt fun e=>own_types hp h.own (by decide) hpg e.symm
 refine⟨?_,fun p hp=> ?_⟩
 ·have e1:flatB (ps++[q])=flatB ps++bunCells q:=by simp[flatB]
  have e:(ps++[q]).length=ps.length+1:=by simp
  rw[e1,e];exact hown
 ·rcases List.mem_append.1 hp with hp|hp
  ·exact keep p (h.ents p hp)
  ·rw[List.mem_singleton.1 hp];exact keep q hq
theorem RowedB.list {base lo hi:Nat} {w:World} {u:Value} {ps:List (Bun×Value)} (h:RowedB base w u ps) (hb:lo≤base) (hs:w.heap.size≤hi):ListOk Enc.bun w lo hi u (ps.map Prod.fst):=by
 have h1:=h.own;have e1:ps.length=(ps.map Prod.fst).length:=by simp
 rw[e1]at h1;refine ListOk.of_own (E:=Enc.bun) h1 hb hs fun i hl=> ?_;have hl':i < ps.length:=by simpa using hl
 refine⟨ps[i].2,?_,?_⟩
 ·rw[show Enc.bun.sz=2 from rfl,flatB_at ps i hl'];simp[bunCells]
 ·rw[List.getElem_map];exact ents_of_own (h.ents _ (List.getElem_mem hl')) hb hs
theorem RowedB.nil {base:Nat} {w:World}:RowedB base w (.slice none 0 0) []:=⟨own_nil,fun p hp=>(by cases hp)⟩
end Go.Proofs.YtpfmmbbggcghiaaGreatDoor
namespace Go.Proofs.YtpfmmbbggcghiaaGreatDoor
open Go.RowKit Go.Maps
open Lib (hid)
def loadE (l:List Bun):Int:=if 20 < l.length then 4 else loadFault l
def LoadRes (B b1 p M:Nat) (w:World) (vs:List VR) (l:List Bun) (e:Ending) (w':World):Prop:=
 Fr w w' (StX p M vs)∧((loadE l≠0∧e=.returned (.tuple #[.int .i64 0,errV (loadE l)])∧StoreSt B b1 w' p M vs)∨
  (loadE l=0∧∃ r:VR,r.held=0∧r.buns=l∧w.heap.size≤r.blk∧e=.returned (.tuple #[.int .i64 ((vs.length+1:Nat):Int),errV 0])∧StoreSt B b1 w' p M (vs++[r])))
theorem load_err {B b1 p M:Nat} {w W:World} {vs:List VR} {l:List Bun} {x:Int} (hS:StoreSt B b1 w p M vs) (hb:Below w.heap.size w W) (hx:loadE l=x) (h0:x≠0):LoadRes B b1 p M w vs l (.returned (.tuple #[.int .i64 0,errV x])) W:=
 ⟨Fr.of_below hb _,.inl ⟨by rw[hx];exact h0,by rw[hx],hS.keep hb⟩⟩
theorem Words.mono {w:World} {base base':Nat} {S:List Ent} {buns:List Bun} (h:Words w base S buns) (hb:base'≤base):Words w base' S buns:=
 ⟨fun b hb'=>let ⟨mb,k,h1,h2,h3⟩:=h.yes b hb';⟨mb,k,h1,Nat.le_trans hb h2,h3⟩,h.no⟩
theorem load_in {B b1 p M vb wb n:Nat} {w wr w7:World} {vs:List VR} {l:List Bun} {S:List Ent} (h:StoreSt B b1 w p M vs) (hb1:b1≤w.heap.size) (st:LoadSt w wr vb wb S l l.length) (hl:loadFault l=0)
 (hn:n≤vs.length) (hO:OwnsN w7 M (n+1) (keptV vs++[(vs.length+1,vb)])) (hF:Fr wr w7 (fun k=>k=p∨k=M)) (hB:Blk w7 p 142 #[.int .i64 ((vs.length+1:Nat):Int),.map (some M)]):
 StoreIn B b1 w7 p M (vs++[⟨vb,0,l⟩]) (pickV (fun k x=>k == vs.length+1 || live vs.length k x) 1 (vs++[⟨vb,0,l⟩])):=by
 have hp:=h.lp.2;have hM:=h.lM.2;have hlo:=st.lo;have hlv:=st.lv;have hr:=h.keep st.below;refine⟨h.lp,h.lM,?_,⟨n+1,by rw[List.length_append];exact Nat.succ_le_succ hn,?_⟩,fun r hr'=> ?_,?_⟩
 ·rw[List.length_append];exact hB
 ·rw[kept_more vs ⟨vb,0,l⟩]at hO;exact hO
 ·rcases List.mem_append.1 hr' with h1|h1
  ·exact(hr.vers r h1).fr hF fun k hk=>by rcases hk with rfl|rfl <;> omega
  ·rw[List.mem_singleton.1 h1];refine⟨Nat.le_trans hb1 hlv,hl,wb,S,_,st.blk.fr hF (fun e=>by omega),Nat.le_trans hb1 hlo,owns_fr st.map hF (fun e=>by omega),?_⟩
   have hw:=st.words;rw[List.take_length]at hw;exact(hw.fr hF fun mb k T hm _ e=>by omega).mono (by omega)
 ·rw[List.pairwise_append];refine⟨h.apart,List.pairwise_singleton _ _,fun a ha b hb=> ?_⟩;rw[List.mem_singleton.1 hb];have:=(h.vers a ha).lt;show a.blk≠vb;omega
theorem live_more (vs:List VR) (r:VR) (i:Nat) (hi:i < (vs++[r]).length) (h:live (vs++[r]).length (1+i) (vs++[r])[i]=true):((1+i == vs.length+1) || live vs.length (1+i) (vs++[r])[i])=true:=by
 unfold live at h ⊢;rw[List.length_append]at h;rw[Bool.or_eq_true]at h ⊢;rcases h with h|h
 ·exact .inl h
 ·rw[h,Bool.or_true];exact .inr rfl
set_option maxHeartbeats 6400000 in
set_option maxRecDepth 100000 in
theorem load_any {B b1 p M:Nat} {w:World} {vs:List VR} (h:StoreSt B b1 w p M vs) (l:List Bun) (vl:Value) (hl:BunsIn w vl l) (hm:MaxVar w) (hn:vs.length≤1200000) (hb1:b1≤w.heap.size):
 Calls Tryz.prog 26 #[.pointer (some ⟨p,0,none⟩),vl] w fun e w'=>LoadRes B b1 p M w vs l e w':=by
 have hmm:=@run_makeMap Tryz.prog;obtain⟨lo,hlo⟩:=hl.lo;obtain⟨A,c,rfl,_⟩:=hlo.form;have HI:=hid hl;have HM:=hid hm;have HS:=hid h;clear h hl hm hlo
 by_cases h20:20 < l.length
 ·have hd:decide (20 < (l.length:Int))=true:=decide_eq_true (by omega)
  have HE:Hid (loadE l=4):=hid (by unfold loadE;rw[if_pos h20])
  go_enter Tryz.func26,Tryz.ntmps26
  go_wp2_with fail
  go_ret2
  exact load_err HS.out (Below.refl _ _) HE.out (by decide)
 ·have hd:decide (20 < (l.length:Int))=false:=decide_eq_false (by omega)
  have HE:Hid (loadE l=loadFault l):=hid (by unfold loadE;rw[if_neg h20])
  have hl20:l.length≤20:=by omega
  go_enter Tryz.func26,Tryz.ntmps26
  go_wp2_with fail
  obtain⟨W1,eW1⟩:∃ W1,W1=(w.alloc (.map #[] 0)).alloc (.cells #[.map (some w.heap.size),.int .i64 0] 146):=⟨_,rfl⟩;have L1:Hid (LoadSt w W1 (w.heap.size+1) w.heap.size [] l 0):=hid ⟨Nat.le_refl _,Nat.le_succ _,by
   rw[eW1];have:=Blk.new (w.alloc (.map #[] 0)) 146 #[.map (some w.heap.size),.int .i64 0];rw[World.size_alloc]at this;exact this,by rw[eW1];exact World.ownsMap.alloc (World.ownsMap_made (H:=Unit) w Tryz.prog 9 mapR) _,⟨fun b hb=>by simp at hb,fun tag _=>rfl⟩,by rw[eW1];exact((Below.refl _ _).alloc (Nat.le_refl _) _).alloc (by simp) _⟩
  rw[←eW1];clear eW1 hd h20
  go_loopw [21] (fun i wr=>∃(j:Nat) (S:List Ent),j≤l.length∧i=.int .i64 j∧(∀ q,q < j→loadAt l q=0)∧LoadSt w wr (w.heap.size+1) w.heap.size S l j) (fun i _=>l.length - (intOf i).toNat)
  case atStart=>exact⟨0,[],Nat.zero_le _,rfl,fun q hq=>absurd hq (by omega),L1.out⟩
  case round=>
   clear L1;obtain⟨j,S,hj,rfl,hno,hst⟩:=hrel;have ST:=hid hst;have HNo:=hid hno;clear hst hno
   by_cases hlt:j < l.length
   ·obtain⟨b,o,V,rfl,hbl,z0,z1,hinw⟩:=HI.out.bunAt j hlt;have x0:=(ST.out.below.cell (p:=⟨b,o+j*2,none⟩) hbl).trans z0;have x1:=(ST.out.below.cell (p:=⟨b,o+j*2+1,none⟩) hbl).trans z1;have hin:=hinw.below ST.out.below;obtain⟨lo2,hel⟩:=hinw.lo;obtain⟨Ae,ce,rfl,_⟩:=hel.form;have HEnt:Hid (∀ W,Below w.heap.size w W→ListOk Enc.ent W lo2 w.heap.size (.slice Ae l[j].ents.length ce) l[j].ents):=hid fun W hW=>hel.below Enc.ent_laws hW;clear z0 z1 hinw;have ST2:=hid (ST.out.keep (W:=wr.alloc (.cells #[.string l[j].tag,.slice Ae l[j].ents.length ce] 49)) ((Below.refl _ _).alloc (Nat.le_refl _) _));have HCk:=hid (bunCheck_any l[j] _ (wr.alloc (.cells #[.string l[j].tag,.slice Ae l[j].ents.length ce] 49)) (hin.below ((Below.refl _ _).alloc (Nat.le_refl _) _)) (HM.out.below ST2.out.below));obtain⟨bx,hbx⟩:∃ bx,bx=wr.heap.size:=⟨_,rfl⟩;have MB:Hid (Blk (wr.alloc (.cells #[.string l[j].tag,.slice Ae l[j].ents.length ce] 49)) bx 49 #[.string l[j].tag,.slice Ae l[j].ents.length ce]):=hid (by rw[hbx];exact Blk.new _ _ _)
    have hbw:w.heap.size≤bx:=by rw[hbx];exact ST.out.below.size
    have HEl:=hid (HI.out.each l[j] (List.getElem_mem hlt));have HFa:=hid (fun hf=>load_bad j hlt (fun q hq=>HNo.out q hq) hf);have HTw:=hid (fun hf q hq ht=>load_twice j hlt (fun q hq=>HNo.out q hq) hf q hq ht);have HNx:=hid (fun hf hd=>load_next j hlt hf hd);have HPush:=hid (fun(W3 W:World) (mb n:Nat) (h3:LoadSt w W3 (w.heap.size+1) w.heap.size S l j) hno (hf:Fr W3 W (· =w.heap.size)) (hm:W3.heap.size≤mb) (hA:OwnsA W w.heap.size (j+1) (putE S ⟨l[j].tag,adr mb⟩)) (hO:OwnsW W mb n (srt l[j].ents))=>h3.push hlt hno hf hm hA hO);clear hin hel ST;generalize l[j]=lj at *;obtain⟨tg,es⟩:=lj;dsimp only at*
    go_upto_region 7 with fail
    rw[←hbx];generalize wr.alloc (.cells #[.string tg,.slice Ae es.length ce] 49)=w2 at *;have y0:=MB.out.cell 0;have y1:=MB.out.cell 1;simp at y0 y1;clear hbx x0 x1
    go_wp2_with fail
    refine HCk.out.mono ?_;clear HCk;rintro e w3 ⟨rfl,hb3⟩;have ST3:=hid (ST2.out.keep hb3);have MB3:=hid (MB.out.below hb3 MB.out.lt);clear hb3 ST2 MB y0 y1
    by_cases hf:bunFault ⟨tg,es⟩=0
    ·rw[hf,errV_zero];have y0:w3.cell? ⟨bx,0,none⟩=some (.string tg):=(MB3.out.cell 0).trans rfl;have v0:=ST3.out.blk.cell 0;simp at v0
     by_cases hq:∃ q,∃ hq:q < j,l[q].tag=tg
     ·obtain⟨q,hqj,hqt⟩:=hq;have HE5:=hid (HE.out.trans (HTw.out hf q hqj hqt));obtain⟨mb,k,k1,_,_⟩:=ST3.out.words.yes l[q] (List.mem_iff_getElem.2 ⟨q,by rw[List.length_take];omega,by rw[List.getElem_take]⟩)
      rw[hqt]at k1;have hr:∀ n,(Instr.lookup 144 (.map (some w.heap.size)) (.string tg) false).run Tryz.prog (w3.drewN n)=.ok (.map (some mb)) (w3.drewN n):=fun n=>look_yes (w:=w3.drewN n) ST3.out.map tg (by have:=HEl.out.1;unfold maxLen;omega) k1
      have hnq:=neq_map_some mb;clear hqt k1 hf
      go_wp2_with fail
      go_quiet (fail)
      go_wp2_with fail
      go_ret2
      exact load_err HS.out (below_drewN ST3.out.below _) HE5.out (by decide)
     ·have hdis:∀ q (hq':q < j),l[q].tag≠tg:=fun q hq' e=>hq ⟨q,hq',e⟩;have HDis:=hid hdis;have HNo2:=hid (HNx.out hf hdis);have hnoT:∀ b∈l.take j,b.tag≠tg:=fun b hb=>by
       obtain⟨q,hq,rfl⟩:=List.mem_iff_getElem.1 hb;rw[List.length_take]at hq;rw[List.getElem_take];exact hdis q (by omega)
      have htg:tg.size≤maxLen:=by have:=HEl.out.1;unfold maxLen;omega
      have hes:es.length≤100:=(show Right ⟨tg,es⟩from(right_iff _).1 hf).len;have hr:∀ n,(Instr.lookup 144 (.map (some w.heap.size)) (.string tg) false).run Tryz.prog (w3.drewN n)=.ok (.map none) (w3.drewN n):=fun n=>look_no (w:=w3.drewN n) ST3.out.map tg htg (ST3.out.words.no tg hnoT);have HKT:=hid (key_str htg);have hnq:=neq_map_none;clear hq hdis hnoT hf HFa HTw HNx htg
      go_wp2_with fail
      go_quiet (fail)
      go_wp2_with fail
      obtain⟨w4,ew4⟩:∃ w4,w4=w3.drewN nq:=⟨_,rfl⟩;have ST4:Hid (LoadSt w w4 (w.heap.size+1) w.heap.size S l j):=hid (by rw[ew4];exact ST3.out.keep (below_drewN (Below.refl _ _) _))
      have MB4:Hid (Blk w4 bx 49 #[.string tg,.slice Ae es.length ce]):=hid (by rw[ew4];exact MB3.out)
      rw[←ew4];clear ew4 ST3 MB3 y0 v0 hr hnq
      go_cut [] (fun wx=>∃ mb,w4.heap.size≤mb∧Fr w4 wx (· =w.heap.size)∧OwnsA wx w.heap.size (j+1) (putE S ⟨tg,adr mb⟩)∧OwnsW wx mb 0 [])
      case first=>
       have y0:w4.cell? ⟨bx,0,none⟩=some (.string tg):=(MB4.out.cell 0).trans rfl;have v0:w4.cell? ⟨w.heap.size+1,0,none⟩=some (.map (some w.heap.size)):=(ST4.out.blk.cell 0).trans rfl;have hlv:=ST4.out.blk.lt;have hlx:=MB4.out.lt;have HV:Hid (mapR (.map (some w4.heap.size))=some (.lit (.string (bts (adr w4.heap.size))),[])):=hid (mapR_some _);have HMd:Hid (OwnsW (w4.alloc (.map #[] 0)) w4.heap.size 0 []):=hid (World.ownsMap_made (H:=Unit) w4 Tryz.prog 9 (plainElem (H:=Unit) Tryz.prog 9));have hlw:=owns_lt ST4.out.map;obtain⟨w5,hrun,r1,r2⟩:=World.ownsMap.update (H:=Unit) (w:=(w4.alloc (.map #[] 0)).drew) (owns_fr (X:=fun _=>False) ST4.out.map (Fr.of_below (((Below.refl _ w4).alloc (Nat.le_refl _) _).drew) _) id) lawS Tryz.underlying144 (by unfold maxLen;omega) HKT.out HV.out
       have F5:Hid (Fr w4 w5 (· =w.heap.size)):=hid ((Fr.of_below (((Below.refl _ w4).alloc (Nat.le_refl _) _).drew) _).grown r2 (fun k hk=>.inl (Option.some.inj hk).symm));have O5:Hid (OwnsW w5 w4.heap.size 0 []):=hid (owns_fr (w:=(w4.alloc (.map #[] 0)).drew) HMd.out ((Fr.refl _ (· =w.heap.size)).grown r2 (fun k hk=>.inl (Option.some.inj hk).symm)) (by omega))
       have A5:Hid (OwnsA w5 w.heap.size (j+1) (putE S ⟨tg,adr w4.heap.size⟩)):=hid (by
        have h:=toD_put S ⟨tg,adr w4.heap.size⟩;rw[h]at r1;exact r1)
       clear r1 r2
       go_region
       all_goals
        go_wp2_with fail
        go_meet
        case rel=>exact⟨_,Nat.le_refl _,F5.out,A5.out,O5.out⟩
      case rest=>
       obtain⟨mb,hmb,hf5,hA5,hO5⟩:=hcut;have hlw4:=owns_lt ST4.out.map;have hlx4:=MB4.out.lt;have hlv4:=ST4.out.blk.lt;have hbb4:=ST4.out.below;have hbc:Below w.heap.size w wc:=Fr.below ST4.out.below hf5 hbb4.size fun i e=>by have:i=w.heap.size:=e;omega
       have c1:wc.cell? ⟨bx,1,none⟩=some (.slice Ae es.length ce):=((MB4.out.fr hf5 (fun e=>owns_ne_blk ST4.out.map MB4.out e.symm)).cell 1).trans rfl;have MBc:=hid (MB4.out.fr hf5 (fun e=>owns_ne_blk ST4.out.map MB4.out e.symm));have VBc:=hid (ST4.out.blk.fr hf5 (fun e=>owns_ne_blk ST4.out.map ST4.out.blk e.symm));have F5:=hid hf5;have A5:=hid hA5;have O5:=hid hO5;have BC:=hid hbc;have hsz:=hf5.size;have hlm:=owns_lt hO5;clear hf5 hA5 hO5 hbc hbb4
       go_wp2_with fail
       go_loopw [11,49] (fun _ i wr2=>∃ j2:Nat,j2≤es.length∧i=.int .i64 j2∧OwnsW wr2 mb j2 (srtN es j2)∧Fr wc wr2 (· =mb)) (fun _ i _=>es.length - (intOf i).toNat)
       case atStart=>exact⟨0,Nat.zero_le _,rfl,O5.out,Fr.refl _ _⟩
       case round=>
        obtain⟨j2,hj2,rfl,hown,hfr⟩:=hrel;have HO:=hid hown;have HFr:=hid hfr;have hbr:Below w.heap.size w wr:=Fr.below BC.out hfr BC.out.size fun i e=>by have:i=mb:=e;have:=BC.out.size;have:=ST4.out.below.size;omega
        have HBr:=hid hbr;have hszr:=hfr.size;clear hown hfr hbr
        by_cases hlt2:j2 < es.length
        ·obtain⟨eb,eo,rfl,p1,p2,e0,e1⟩:=(HEnt.out wr HBr.out).entAt j2 hlt2;have hes2:=HEl.out.2.2 _ (List.getElem_mem hlt2);have HSu:=hid (srtN_succ es j2 hlt2);generalize es[j2]=e at *;obtain⟨ky,tx⟩:=e;dsimp only at e0 e1 hes2 HSu;have htg:tg.size≤maxLen:=by have:=HEl.out.1;unfold maxLen;omega
         have hbm:Fr wr ((wr.alloc (.cells #[.string ky,.string tx] 70)).drew) (fun _=>False):=Fr.of_below (((Below.refl _ wr).alloc (Nat.le_refl _) _).drew) _;have hAr:=owns_fr A5.out HFr.out (by omega)
         have hkt:textK (putE S ⟨tg,adr mb⟩) tg=some (adr mb):=by
          have hS0:hasK S tg=false:=ST4.out.words.no tg fun b hb=>by
           obtain⟨q,hq,rfl⟩:=List.mem_iff_getElem.1 hb;rw[List.length_take]at hq;rw[List.getElem_take];exact HDis.out q (by omega)
          rw[putE_text S ⟨tg,adr mb⟩ tg hS0];show(if eqs tg tg then _ else _)=_
          rw[eqs_self];rfl
         have hlk:=look_yes (owns_fr hAr hbm id) tg htg hkt;obtain⟨w7,hrun,r1,r2⟩:=World.ownsMap.update (H:=Unit) (w:=(wr.alloc (.cells #[.string ky,.string tx] 70)).drew) (owns_fr HO.out hbm id) lawS Tryz.underlying147 (by unfold maxLen;omega) (key_str hes2.1) (plainElem_string (H:=Unit) (P:=Tryz.prog) Tryz.underlying9 hes2.2)
         have O7:Hid (OwnsW w7 mb (j2+1) (srtN es (j2+1))):=hid (by
          show w7.ownsMap _ _ _ _ _ (toD (srtN es (j2+1)));rw[HSu.out];exact r1)
         have F7:Hid (Fr wc w7 (· =mb)):=hid (HFr.out.and ((hbm.mono (fun k hk=>hk.elim) (S':=(· =mb))).grown r2 (fun k hk=>.inl (Option.some.inj hk).symm)) (fun k hk=>.inl hk));have d0:wr.cell? ⟨w.heap.size+1,0,none⟩=some (.map (some w.heap.size)):=((VBc.out.fr HFr.out (by omega)).cell 0).trans rfl
         have b0:wr.cell? ⟨bx,0,none⟩=some (.string tg):=((MBc.out.fr HFr.out (by omega)).cell 0).trans rfl
         have l1:w.heap.size+1 < wr.heap.size:=by omega
         have l2:bx < wr.heap.size:=by omega
         clear hAr hkt hbm r1 r2 HSu htg
         go_wp2_with fail
         go_region
         all_goals
          go_wp2_with fail
          exact⟨⟨j2+1,by omega,by go_num,O7.out,F7.out⟩,by simp[intOf];omega⟩
        ·obtain rfl:j2=es.length:=by omega
         have HO2:Hid (OwnsW wr mb es.length (srt es)):=hid (by
          have:=HO.out;unfold srtN at this;rwa[List.take_length]at this)
         have FF:Hid (Fr w4 wr (· =w.heap.size)):=hid (F5.out.and HFr.out (fun k hk=>.inr (by have:k=mb:=hk;omega)))
         have LS:=hid (HPush.out w4 wr mb es.length ST4.out HDis.out FF.out hmb (owns_fr A5.out HFr.out (by omega)) HO2.out)
         have HN3:Hid (∀ q,q < j+1→loadAt l q=0):=hid fun q hq=>by
          rcases Nat.lt_or_eq_of_le (Nat.le_of_lt_succ hq)with h|h
          ·exact HNo.out q h
          ·rw[h];exact HNo2.out
         clear HO HO2 FF HPush
         go_wp2_with fail
         exact⟨⟨j+1,_,hlt,by go_num,HN3.out,LS.out⟩,by simp[intOf];omega⟩
    ·have HE5:=hid (HE.out.trans (HFa.out hf));have HF0:=hid hf;rw[errV_ne hf];have HB3:=hid ST3.out.below;generalize bunFault ⟨tg,es⟩=F at *;clear hf HFa HTw HNx
     go_wp2_with fail
     go_ret2
     have:=load_err HS.out HB3.out HE5.out HF0.out;rw[errV_ne HF0.out]at this;exact this
   ·obtain rfl:j=l.length:=by omega
    have HF0:Hid (loadE l=0):=hid (HE.out.trans ((firstN_zero_iff _ _).2 fun q hq=>HNo.out q hq));have hS:=HS.out.keep ST.out.below;have c0:wr.cell? ⟨p,0,none⟩=some (.int .i64 vs.length):=(hS.box.cell 0).trans rfl;have f0:=hS.box.frozen 0;have HSr:=hid hS;have hw:IntKind.i64.wrap ((vs.length:Int)+1)=((vs.length+1:Nat):Int):=by rw[IntKind.wrap_i64];omega
    have hw2:wrap64 ((vs.length:Int)+1)=((vs.length+1:Nat):Int):=by unfold wrap64;omega
    clear hS HNo hlt
    go_upto_region 20 with fail
    obtain⟨wA,eA⟩:∃ wA,wA=wr.setCell ⟨p,0,none⟩ (.int .i64 ((vs.length:Int)+1)):=⟨_,rfl⟩;have hpM:M≠p:=by obtain⟨n,_,hM⟩:=HSr.out.all;exact owns_ne_blk hM HSr.out.box
    have hq:((vs.length+1:Nat):Int)=(vs.length:Int)+1:=by omega
    have FA:Fr wr wA (fun k=>k=p∨k=M):=by rw[eA];exact(Fr.refl wr _).setCell (.inl (.inl rfl)) _
    have BA:Blk wA p 142 #[.int .i64 ((vs.length+1:Nat):Int),.map (some M)]:=by
     rw[eA,hq];exact HSr.out.box.set_ 0 (.int .i64 ((vs.length:Int)+1))
    obtain⟨n,hn2,hM⟩:=HSr.out.all;have hMA:OwnsN wA M n (keptV vs):=by rw[eA];exact owns_fr hM ((Fr.refl wr (· =p)).setCell (.inl rfl) _) hpM
    obtain⟨w7,hrun,r1,r2⟩:=World.ownsMap.update (H:=Nat) (w:=wA.drew) (owns_fr (X:=fun _=>False) hMA (Fr.of_below (Below.refl _ _).drew _) id) lawI Tryz.underlying140 (by unfold maxLen;omega) (key_num (n:=((vs.length+1:Nat):Int)) (by omega) (by omega)) (val:=.pointer (some ⟨w.heap.size+1,0,none⟩)) (d:=.held (w.heap.size+1)) (ps:=[]) rfl
    have F7:Fr wr w7 (fun k=>k=p∨k=M):=(FA.trans (Fr.of_below (Below.refl _ wA).drew _)).grown r2 (fun k hk=>.inl (.inr (Option.some.inj hk).symm));have B7:=blk_grown (show Blk wA.drew p 142 _ from BA) r2 (fun e=>hpM (Option.some.inj e).symm);have O7:OwnsN w7 M (n+1) (keptV vs++[(vs.length+1,w.heap.size+1)]):=by
     have h:=toV_put (keptV vs) (vs.length+1) (w.heap.size+1) fun x hx=>by
      obtain⟨i,hi,h1,_⟩:=mem_pickV.1 (show(x.1,x.2)∈pickV (live vs.length) 1 vs from hx);omega
     rw[h]at r1;exact r1
    have HI7:=hid (load_in HS.out hb1 ST.out (HE.out.symm.trans HF0.out) hn2 O7 F7 B7);have HC:=hid (clean_any HI7.out (live_more vs ⟨w.heap.size+1,0,l⟩));have HF7:Hid (Fr w w7 (StX p M vs)):=hid ((Fr.of_below ST.out.below _).trans (F7.mono fun k hk=>by rcases hk with h|h;exact .inl h;exact .inr (.inl h)))
    have a0:wA.cell? ⟨p,0,none⟩=some (.int .i64 ((vs.length:Int)+1)):=(BA.cell 0).trans (by rw[hq];rfl)
    have a1:wA.cell? ⟨p,1,none⟩=some (.map (some M)):=(BA.cell 1).trans rfl;rw[←eA];rw[hq]at hrun;clear hMA hM FA BA F7 B7 O7 HI7 r1 r2 eA c0 f0 hq hpM hw hw2 HSr
    go_region
    all_goals
     go_wp2_with fail
     refine HC.out.mono ?_;clear HC;rintro e w8 ⟨rfl,hS8,hf8⟩;have HS8:=hid hS8;have HF8:Hid (Fr w w8 (StX p M vs)):=hid (HF7.out.trans (hf8.mono fun k hk=>.inr (.inl hk)));have q0:w8.cell? ⟨p,0,none⟩=some (.int .i64 ((vs.length+1:Nat):Int)):=(hS8.box.cell 0).trans (by rw[List.length_append];rfl)
     clear hS8 hf8
     go_wp2_with fail
     go_ret2
     exact⟨HF8.out,.inr ⟨HF0.out,_,rfl,rfl,Nat.le_succ _,rfl,HS8.out⟩⟩
end Go.Proofs.YtpfmmbbggcghiaaGreatDoor
