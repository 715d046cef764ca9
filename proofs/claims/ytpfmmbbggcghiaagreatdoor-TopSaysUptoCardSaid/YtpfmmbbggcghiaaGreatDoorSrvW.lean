/- A server in memory: its box, its cache, its codes, its bundles; what stays. -/
import Derived.Test.YtpfmmbbggcghiaaGreatDoorCSay
import Derived.Test.YtpfmmbbggcghiaaGreatDoorClockP
import Derived.Test.YtpfmmbbggcghiaaGreatDoorStoreM
set_option linter.unusedSimpArgs false
set_option linter.unusedVariables false
namespace Go.Proofs.YtpfmmbbggcghiaaGreatDoor
open Go.RowKit Go.Maps
open Lib (hid)
structure Snap (lo hi:Nat) (W0 W:World):Prop where
 le:hi≤W.heap.size
 same:∀ k,lo≤k→k < hi→W.heap[k]? =W0.heap[k]?
def Away (X:Nat→Prop) (lo hi:Nat):Prop:=∀ k,X k→k < lo∨hi≤k
theorem Snap.fr {lo hi:Nat} {W0 W W':World} {X:Nat→Prop} (h:Snap lo hi W0 W) (hf:Fr W W' X) (hX:Away X lo hi):Snap lo hi W0 W':=
 ⟨Nat.le_trans h.le hf.size,fun k h1 h2=>(hf.block k (Nat.lt_of_lt_of_le h2 h.le) fun hk=>by have:=hX k hk;omega).trans (h.same k h1 h2)⟩
theorem Snap.list {α:Type} {E:Enc α} (hE:E.Laws) {lo hi:Nat} {W0 W:World} {v:Value} {l:List α} (h:Snap lo hi W0 W) (hl:ListOk E W0 lo hi v l):ListOk E W lo hi v l:=
 hl.keep hE fun p h1 h2=>World.cell?_of_block (h.same p.block h1 h2)
def CodeIs (lo hi:Nat) (W:World) (v:Value) (m:List (Nd 7)):Prop:=
 ∃ W0 out U zs,hi=W0.heap.size∧v=.agg #[out,U]∧zs.map SU.x=stpN 7 0 m∧SRow lo W0 out zs∧ListOk (Enc.node 7) W0 lo hi U (cpyN 7 m)∧Snap lo hi W0 W
theorem CodeIs.fr {lo hi:Nat} {W W':World} {v:Value} {m:List (Nd 7)} {X:Nat→Prop} (h:CodeIs lo hi W v m) (hf:Fr W W' X) (hX:Away X lo hi):CodeIs lo hi W' v m:=by
 obtain⟨W0,out,U,zs,h1,h2,h3,h4,h5,h6⟩:=h;exact⟨W0,out,U,zs,h1,h2,h3,h4,h5,h6.fr hf hX⟩
theorem CodeIs.use {lo hi:Nat} {W:World} {v:Value} {m:List (Nd 7)} (h:CodeIs lo hi W v m):∃ out U zs,v=.agg #[out,U]∧zs.map SU.x=stpN 7 0 m∧SRow lo W out zs∧ListOk (Enc.node 7) W lo W.heap.size U (cpyN 7 m):=by
 obtain⟨W0,out,U,zs,h1,h2,h3,h4,h5,h6⟩:=h;subst h1;refine⟨out,U,zs,h2,h3,⟨own_keep h4.row fun g hg hlt=>h6.same g (own_lt h4.row hg).1 hlt,fun s hs=>(h4.part s hs).keep (fun g hg hlt=>h6.same g (own_lt (h4.part s hs).key hg).1 hlt) (fun g hg hlt=>h6.same g (own_lt (h4.part s hs).beg hg).1 hlt)⟩,?_⟩;exact(h6.list (Enc.node_laws 7) h5).mono (Enc.node_laws 7) (Nat.le_refl _) h6.le
structure SvD where
 p:Nat
 bc:Nat
 bp:Nat
 mb:Nat
 sp:Nat
 M:Nat
 hand:Nat
 cnt:Nat
 v:Nat
 ps:List Plc
 f:ByteArray→Option Value
 l:List Bun
 bv:Value
 vs:List VR
def SX (s:SvD) (k:Nat):Prop:=k=s.p∨k=s.bc∨k=s.bp∨k=s.mb∨StX s.sp s.M s.vs k
def SY (s:SvD) (k:Nat):Prop:=k=s.bc∨k=s.bp∨k=s.mb
theorem SY.x {s:SvD} {k:Nat} (h:SY s k):SX s k:=by
 rcases h with h|h|h
 ·exact .inr (.inl h)
 ·exact .inr (.inr (.inl h))
 ·exact .inr (.inr (.inr (.inl h)))
structure SrvR (T:Nat→Prop) (s:SvD) (W:World):Prop where
 sub:∀ k,SX s k→T k
 low:∀ k,T k→k < W.heap.size
 box:Blk W s.p 78 #[.pointer (some ⟨s.sp,0,none⟩),.pointer (some ⟨s.bc,0,none⟩),.map (some s.mb),s.bv,.int .i64 (s.v:Int)]
 cache:Cach W s.bc s.bp s.ps s.hand
 hand:s.hand < s.ps.length
 len:s.ps.length≤50
 dist:Dist s.ps
 names:∀ x∈keysOf s.ps,x.size≤maxLen
 codes:OwnsV W s.mb s.cnt s.f
 buns:s.v≠0→s.l.length≤20∧(∀ b∈s.l,b.tag.size < 4294967281∧b.ents.length≤4398046511104∧∀ e∈b.ents,e.key.size≤9223372036854775807∧e.text.size≤9223372036854775807)∧∃ lo hi,hi≤W.heap.size∧ListOk Enc.bun W lo hi s.bv s.l∧Away T lo hi
 link:∀ i key,i < 20→str (nmL i key)∈keysOf s.ps→∃ text val lo hi,textAt s.l i key=some text∧parE (bts text)=0∧s.f (str (nmL i key))=some val∧CodeIs lo hi W val (parG (bts text))∧Away T lo hi
theorem CodeIs.hi {lo hi:Nat} {W:World} {v:Value} {m:List (Nd 7)} (h:CodeIs lo hi W v m):hi≤W.heap.size:=by
 obtain⟨_,_,_,_,_,_,_,_,_,h7⟩:=h;exact h7.le
theorem SrvR.step {T T':Nat→Prop} {s:SvD} {W W':World} {X:Nat→Prop} (h:SrvR T s W) (hf:Fr W W' X) (hX:∀ k,X k→T k) (hd:∀ k,k=s.p∨SY s k→¬ X k) (hT:∀ k,T k→T' k) (hn:∀ k,T' k→T k∨W.heap.size≤k) (hl:∀ k,T' k→k < W'.heap.size):SrvR T' s W':=by
 have ha:∀ lo hi,hi≤W.heap.size→Away T lo hi→Away T' lo hi:=fun lo hi h1 h2 k hk=>by
  rcases hn k hk with h3|h3
  ·exact h2 k h3
  ·exact .inr (Nat.le_trans h1 h3)
 refine⟨fun k hk=>hT k (h.sub k hk),hl,h.box.fr hf (hd _ (.inl rfl)),h.cache.fr hf (hd _ (.inr (.inl rfl))) (hd _ (.inr (.inr (.inl rfl)))),h.hand,h.len,h.dist,h.names,h.codes.keep (hf.block _ h.codes.lt (hd _ (.inr (.inr (.inr rfl))))),fun hv=> ?_,fun i key hi hm=> ?_⟩
 ·obtain⟨h1,h2,lo,hi,h3,h4,h5⟩:=h.buns hv;exact⟨h1,h2,lo,hi,Nat.le_trans h3 hf.size,h4.keep Enc.bun_laws fun p g1 g2=>World.cell?_of_block (hf.block p.block (Nat.lt_of_lt_of_le g2 h3) fun hk=>by have:=h5 _ (hX _ hk);omega),ha lo hi h3 h5⟩
 ·obtain⟨text,val,lo,hi',h1,h2,h3,h4,h5⟩:=h.link i key hi hm;exact⟨text,val,lo,hi',h1,h2,h3,h4.fr hf (fun k hk=>h5 k (hX k hk)),ha lo hi' h4.hi h5⟩
theorem SrvR.below {T:Nat→Prop} {s:SvD} {W W':World} (h:SrvR T s W) (hb:Below W.heap.size W W'):SrvR T s W':=
 h.step (Fr.of_below hb fun _=>False) (fun _ hk=>hk.elim) (fun _ _ hk=>hk) (fun _ hk=>hk) (fun _ hk=>.inl hk) fun k hk=>Nat.lt_of_lt_of_le (h.low k hk) hb.size
theorem nm_str (i:Nat) (key:ByteArray):str (Lib.itoa (i:Int))++(⟨#[32]⟩:ByteArray)++key=str (nmL i key):=by
 have h:nmL i key=Lib.itoa (i:Int)++[32]++bts key:=by unfold nmL;simp
 rw[h,str_appD,str_appD,str_bts]
 rfl
theorem nm_size (i:Nat) (key:ByteArray) (hi:i < 20):(str (nmL i key)).size≤key.size+3:=by
 rw[str_size];have:=itoa_short i hi;unfold nmL;rw[List.length_append,List.length_cons,bts_len];omega
theorem nm_ne {i j:Nat} {k k':ByteArray} (hi:i < 20) (hj:j < 20) (h:str (nmL i k)=str (nmL j k')):i=j∧k=k':=by
 have h1:=congrArg bts h;rw[bts_str,bts_str]at h1;exact nm_inj hi hj h1
theorem put_keys {ps:List Plc} (hand:Nat) (k v:ByteArray) {x:ByteArray} (hx:x∈keysOf (putR ps hand k v).ps):x=k∨x∈keysOf ps:=by
 obtain⟨j,hj,hu,he⟩:=(mem_keysOf _ _).1 hx;have hl:(putR ps hand k v).ps.length=ps.length:=putR_len ps hand k v;cases hs:spot ps k with
 | some i=>
   have e:(putR ps hand k v).ps=ps.set i (freshP k v):=by unfold putR;rw[hs]
   have h1:(putR ps hand k v).ps[j]=(ps.set i (freshP k v))[j]'(by rw[List.length_set];omega):=by simp only[e]
   rw[h1,List.getElem_set]at hu he;split at hu
   ·rename_i h2
    rw[if_pos h2]at he;exact .inl he.symm
   ·rename_i h2
    rw[if_neg h2]at he;exact .inr ((mem_keysOf _ _).2 ⟨j,by omega,hu,he⟩)
 | none=>
   have e:(putR ps hand k v).ps=(sweep (marks ps) ps hand).1.set (sweep (marks ps) ps hand).2 (freshP k v):=by unfold putR;rw[hs]
   have hls:=sweep_len (marks ps) ps hand;have h1:(putR ps hand k v).ps[j]=((sweep (marks ps) ps hand).1.set (sweep (marks ps) ps hand).2 (freshP k v))[j]'(by rw[List.length_set];omega):=by simp only[e]
   rw[h1,List.getElem_set]at hu he;split at hu
   ·rename_i h2
    rw[if_pos h2]at he;exact .inl he.symm
   ·rename_i h2
    rw[if_neg h2]at he;have h3:=at_core (core_sweep (marks ps) ps hand) j (by omega)
    simp only[core,Prod.mk.injEq]at h3;exact .inr ((mem_keysOf _ _).2 ⟨j,by omega,by rw[←h3.2.2];exact hu,by rw[←h3.1];exact he⟩)
theorem get_len (ps:List Plc) (k:ByteArray):(getPs ps k).length=ps.length:=len_core (core_get ps k)
theorem get_there {ps:List Plc} {k:ByteArray}:(cgetV ps k).isSome=true↔k∈keysOf ps:=by
 unfold cgetV;cases hf:ps.findIdx? (hit k)with
 | none=>
   have:=(find_none ps k).1 hf;exact⟨fun h=>absurd h (by simp),fun h=>absurd h this⟩
 | some i=>
   have hl:=findIdx_lt hf;refine⟨fun _=> ?_,fun _=>by show((ps[i]?).map (·.val)).isSome=true;rw[List.getElem?_eq_getElem hl];rfl⟩
   obtain⟨h1,h2⟩:=(hit_iff k _).1 (findIdx_yes hf);exact(mem_keysOf _ _).2 ⟨i,hl,h1,h2⟩
theorem get_none {ps:List Plc} {k:ByteArray} (h:k∉keysOf ps):getPs ps k=ps:=by
 unfold getPs;rw[(find_none ps k).2 h]
def delC (f:ByteArray→Option Value) (gone:Option ByteArray):ByteArray→Option Value:=
 match gone with
 | some g=>delV f g
 | none=>f
def putC (f:ByteArray→Option Value) (gone:Option ByteArray) (k:ByteArray) (v:Value):ByteArray→Option Value:=
 match gone with
 | some g=>putV (delV f g) k v
 | none=>putV f k v
theorem putC_del (f:ByteArray→Option Value) (gone:Option ByteArray) (k:ByteArray) (v:Value):putV (delC f gone) k v=putC f gone k v:=by cases gone <;> rfl
theorem putC_same (f:ByteArray→Option Value) (gone:Option ByteArray) (k:ByteArray) (v:Value):putC f gone k v k=some v:=by
 cases gone with
 | none=>show putV f k v k=some v;unfold putV;rw[if_pos rfl]
 | some g=>show putV (delV f g) k v k=some v;unfold putV;rw[if_pos rfl]
theorem putC_other {f:ByteArray→Option Value} {gone:Option ByteArray} {k x:ByteArray} {v:Value} (h1:x≠k) (h2:gone≠some x):putC f gone k v x=f x:=by
 cases gone with
 | none=>show putV f k v x=f x;unfold putV;rw[if_neg h1]
 | some g=>
   have h3:x≠g:=fun e=>h2 (by rw[e])
   show putV (delV f g) k v x=f x;unfold putV delV;rw[if_neg h1,if_neg h3]
theorem keysOf_zeroN (n:Nat):keysOf (List.replicate n Plc.zero)=[]:=by
 induction n with
 | zero=>rfl
 | succ n ih=>rw[List.replicate_succ];exact ih
def SvD.turn (s:SvD) (hand cnt:Nat) (ps:List Plc) (f:ByteArray→Option Value):SvD:= { s with hand:=hand,cnt:=cnt,ps:=ps,f:=f }
def ReadyR (T:Nat→Prop) (s:SvD) (text:ByteArray) (w:World) (e:Ending) (w':World):Prop:=
 ∃ hand cnt ps f,ps.length=s.ps.length∧cnt≤s.cnt+1∧SrvR T (s.turn hand cnt ps f) w'∧Fr w w' (SY s)∧
  ((parE (bts text)≠0∧e=.returned (.tuple #[.agg #[.slice none 0 0,.slice none 0 0],errV (parE (bts text))]))∨
   (parE (bts text)=0∧∃ val lo hi,e=.returned (.tuple #[val,.nilIface])∧CodeIs lo hi w' val (parG (bts text))))
theorem parG_small (l:List UInt8):(stpN 7 0 (parG l)).length≤1000000000:=Nat.le_trans (stpN_len 7 0 _) (Nat.le_trans (parG_bulk l) (by decide))
theorem parG_checked {l:List UInt8} (h:parE l=0):checkAll 7 (parG l)=0:=by
 unfold parG;rw[if_pos h]
 by_cases hl:2000 < l.length
 ·rw[parE_long hl]at h;exact absurd h (by decide)
 ·cases ho:readM 7 false l with
  | none=>rw[parE_none hl ho]at h;exact absurd h (by decide)
  | some p=>
    obtain⟨m,r⟩:=p;cases r with
    | cons x r=>rw[parE_rest hl ho]at h;exact absurd h (by decide)
    | nil=>
      obtain⟨h1,h2⟩:=parE_read hl ho;rw[h2];rw[h1]at h
      by_cases hc:checkAll 7 m=0
      ·exact hc
      ·rw[if_neg hc]at h;exact absurd h (by decide)
theorem SrvR.asked {T:Nat→Prop} {s:SvD} {W W':World} (h:SrvR T s W) (ps:List Plc) (hps:ps.map core=s.ps.map core) (hf:Fr W W' (CS s.bc s.bp)) (hc:Cach W' s.bc s.bp ps s.hand):SrvR T (s.turn s.hand s.cnt ps s.f) W':=by
 have hsub:∀ k,CS s.bc s.bp k→T k:=fun k hk=>by
  rcases hk with hk|hk
  ·exact h.sub k (.inr (.inl hk))
  ·exact h.sub k (.inr (.inr (.inl hk)))
 have hl:=len_core hps;have hne:∀ k t cs,Blk W k t cs→t≠139→t≠206→¬ CS s.bc s.bp k:=fun k t cs hb h1 h2 hk=>by
  rcases hk with rfl|rfl
  ·have:=h.cache.1;unfold Blk at this hb;rw[this]at hb;injection hb with hb;injection hb with _ hb;exact h1 hb.symm
  ·have:=h.cache.2;unfold Blk at this hb;rw[this]at hb;injection hb with hb;injection hb with _ hb;exact h2 hb.symm
 have hnm:¬ CS s.bc s.bp s.mb:=fun hk=>by
  obtain⟨D,⟨es,clock,hb,_⟩,_⟩:=h.codes;rcases hk with hk|hk
  ·have:=h.cache.1;unfold Blk at this;rw[hk,this]at hb;cases hb
  ·have:=h.cache.2;unfold Blk at this;rw[hk,this]at hb;cases hb
 refine⟨h.sub,fun k hk=>Nat.lt_of_lt_of_le (h.low k hk) hf.size,h.box.fr hf (hne _ _ _ h.box (by decide) (by decide)),hc,by show s.hand < ps.length;rw[hl];exact h.hand,by show ps.length≤50;rw[hl];exact h.len,h.dist.core hps,fun x hx=>h.names x (by have hx:x∈keysOf ps:=hx;rw[keysOf_core,hps,←keysOf_core]at hx;exact hx),h.codes.keep (hf.block _ h.codes.lt hnm),fun hv=> ?_,fun i key hi hm=> ?_⟩
 ·obtain⟨h1,h2,lo,hi,h3,h4,h5⟩:=h.buns hv;exact⟨h1,h2,lo,hi,Nat.le_trans h3 hf.size,h4.keep Enc.bun_laws fun p g1 g2=>World.cell?_of_block (hf.block p.block (Nat.lt_of_lt_of_le g2 h3) fun hk=>by have:=h5 _ (hsub _ hk);omega),h5⟩
 ·have hm:str (nmL i key)∈keysOf ps:=hm;have e:keysOf ps=keysOf s.ps:=by rw[keysOf_core,keysOf_core,hps]
  rw[e]at hm;obtain⟨text,val,lo,hi',h1,h2,h3,h4,h5⟩:=h.link i key hi hm;exact⟨text,val,lo,hi',h1,h2,h3,h4.fr hf (fun k hk=>h5 k (hsub k hk)),h5⟩
theorem CS.y {s:SvD} {k:Nat} (h:CS s.bc s.bp k):SY s k:=by
 rcases h with h|h
 ·exact .inl h
 ·exact .inr (.inl h)
theorem SrvR.box_ny {T:Nat→Prop} {s:SvD} {W:World} (h:SrvR T s W):¬ SY s s.p:=fun hk=>by
 have hb:=h.box;unfold Blk at hb;rcases hk with hk|hk|hk
 ·have:=h.cache.1;unfold Blk at this;rw[←hk,hb]at this;injection this with this;injection this with _ this;exact absurd this (by decide)
 ·have:=h.cache.2;unfold Blk at this;rw[←hk,hb]at this;injection this with this;injection this with _ this;exact absurd this (by decide)
 ·obtain⟨D,⟨es,clock,hm,_⟩,_⟩:=h.codes;rw[←hk,hb]at hm;cases hm
theorem SrvR.stored {T:Nat→Prop} {s:SvD} {W W':World} {i:Nat} {key text:ByteArray} {val:Value} {lo hi cnt:Nat} (h:SrvR T s W) (hi20:i < 20) (hsz:(str (nmL i key)).size≤maxLen) (ht:textAt s.l i key=some text) (hp:parE (bts text)=0) (hf:Fr W W' (SY s))
 (hc:Cach W' s.bc s.bp (putR s.ps s.hand (str (nmL i key)) text).ps (putR s.ps s.hand (str (nmL i key)) text).hand) (ho:OwnsV W' s.mb cnt (putC s.f (putR s.ps s.hand (str (nmL i key)) text).gone (str (nmL i key)) val)) (hv:CodeIs lo hi W' val (parG (bts text))) (ha:Away T lo hi):
 SrvR T (s.turn (putR s.ps s.hand (str (nmL i key)) text).hand cnt (putR s.ps s.hand (str (nmL i key)) text).ps (putC s.f (putR s.ps s.hand (str (nmL i key)) text).gone (str (nmL i key)) val)) W':=by
 have hsub:∀ k,SY s k→T k:=fun k hk=>h.sub k hk.x;refine⟨h.sub,fun k hk=>Nat.lt_of_lt_of_le (h.low k hk) hf.size,h.box.fr hf h.box_ny,hc,?_,?_,?_,fun x hx=>(put_keys _ _ _ hx).elim (fun e=>by rw[e];exact hsz) (h.names x),ho,fun hv=> ?_,fun j key' hj hm=> ?_⟩
 ·show(putR s.ps s.hand (str (nmL i key)) text).hand < (putR s.ps s.hand (str (nmL i key)) text).ps.length;rw[putR_len];exact putR_hand _ _ _ _ h.hand
 ·show(putR s.ps s.hand (str (nmL i key)) text).ps.length≤50;rw[putR_len];exact h.len
 ·exact h.dist.put _ _ _ h.hand
 ·obtain⟨h1,h2,lo',hi',h3,h4,h5⟩:=h.buns hv;exact⟨h1,h2,lo',hi',Nat.le_trans h3 hf.size,h4.keep Enc.bun_laws fun p g1 g2=>World.cell?_of_block (hf.block p.block (Nat.lt_of_lt_of_le g2 h3) fun hk=>by have:=h5 _ (hsub _ hk);omega),h5⟩
 ·have hm:str (nmL j key')∈keysOf (putR s.ps s.hand (str (nmL i key)) text).ps:=hm
  by_cases he:str (nmL j key')=str (nmL i key)
  ·obtain⟨rfl,rfl⟩:=nm_ne hj hi20 he;exact⟨text,val,lo,hi,ht,hp,putC_same _ _ _ _,hv,ha⟩
  ·have hm2:str (nmL j key')∈keysOf s.ps:=(put_keys _ _ _ hm).resolve_left he;have hg:(putR s.ps s.hand (str (nmL i key)) text).gone≠some (str (nmL j key')):=fun e=>(put_gone h.dist _ _ _ h.hand e).2 hm;obtain⟨text',val',lo',hi',h1,h2,h3,h4,h5⟩:=h.link j key' hj hm2;refine⟨text',val',lo',hi',h1,h2,?_,h4.fr hf (fun k hk=>h5 k (hsub k hk)),h5⟩;show putC s.f _ _ val (str (nmL j key'))=some val';rw[putC_other he hg];exact h3
set_option maxHeartbeats 6400000 in
set_option maxRecDepth 100000 in
theorem ready_any (T:Nat→Prop) (s:SvD) (i:Nat) (key text:ByteArray) (w:World) (h:SrvR T s w) (hi:i < 20) (ht:textAt s.l i key=some text) (hk:key.size≤1048576) (hc:s.cnt≤1000000000) (B:Nat) (hB:∀ k,T k→B≤k) (hBw:B≤w.heap.size) (hV:∀ W,Below B w W→EvV W):
 Calls Tryz.prog 28 #[.pointer (some ⟨s.p,0,none⟩),.int .i64 (i:Int),.string key,.string text] w fun e w'=>ReadyR T s text w e w':=by
 have hns:=nm_size i key hi;have HNm:=hid (nm_str i key);obtain⟨nm,hnm⟩:∃ nm,nm=str (nmL i key):=⟨_,rfl⟩;rw[←hnm]at hns HNm;have HNe:=hid hnm;obtain⟨W1,eW1⟩:∃ W,W=w.alloc (.cells #[.slice none 0 0,.slice none 0 0] 53):=⟨_,rfl⟩;have hb1:Below w.heap.size w W1:=by rw[eW1];exact(Below.refl _ _).alloc (Nat.le_refl _) _
 have hz1:W1.heap.size=w.heap.size+1:=by rw[eW1,World.size_alloc]
 have hk1:Blk W1 w.heap.size 53 #[.slice none 0 0,.slice none 0 0]:=by rw[eW1];exact Blk.new w _ _
 have HI:=hid (itoaD_any (i:Int) W1 (by omega) (by omega) (hV W1 (hb1.mono hBw)).mv)
 have HS:Hid (∀ W,Below w.heap.size w W→SrvR T s W):=hid fun W hW=>h.below hW;have HG:Hid (∀ W,Below w.heap.size w W→Calls Tryz.prog 62 #[.pointer (some ⟨s.bc,0,none⟩),.string nm] W fun e w'=>e=.returned (.tuple #[.string ((cgetV s.ps nm).getD ByteArray.empty),.bool (cgetV s.ps nm).isSome])∧Cach w' s.bc s.bp (getPs s.ps nm) s.hand∧Fr W w' (CS s.bc s.bp)):=hid fun W hW=>
  kget_any s.bc s.bp s.ps s.hand nm W (h.below hW).cache h.len
 have HPa:Hid (∀ W,EvV W→Calls Tryz.prog 14 #[.string text] W fun e w'=>Below W.heap.size W w'∧∃ v,e=.returned (.tuple #[v,errV (parE (bts text))])∧MkN 7 W.heap.size w'.heap.size w' v (parG (bts text))):=hid fun W hW=>by
  have h1:=mParse_any (bts text) W hW.mv;rw[str_bts]at h1;exact h1
 have hit:(str (Lib.itoa (i:Int))).size≤2:=by rw[str_size];exact itoa_short i hi
 obtain⟨IT,hIT⟩:∃ IT,IT=str (Lib.itoa (i:Int)):=⟨_,rfl⟩;rw[←hIT]at HI HNm hit;clear hIT;have q1:¬(9223372036854775807 < IT.size+1):=by omega
 have q2:¬(9223372036854775807 < IT.size+1+key.size):=by omega
 have HEv:Hid (∀ W,Fr w W (SY s)→EvV W):=hid fun W hW=>hV W (Fr.below (Below.refl B w) hW hBw fun k hk=>hB k (h.sub k hk.x));have HNot:Hid (∀ k,SY s k→k < w.heap.size):=hid fun k hk=>h.low k (h.sub k hk.x);have HAw:Hid (∀ lo hi,w.heap.size≤lo→Away T lo hi):=hid fun lo hi hl k hk=>.inl (Nat.lt_of_lt_of_le (h.low k hk) hl);have HTx:=hid ht;have HH:=hid h;have HB1:=hid hb1;have HK1:=hid hk1;have EW1:=hid eW1;clear h ht hV hb1 hk1 eW1 hnm
 go_enter Tryz.func28,Tryz.ntmps28
 go_upto_region 1 with fail
 rw[←EW1.out];clear EW1
 go_wp2_with fail
 refine HI.out.mono ?_;clear HI;rintro e w2 ⟨rfl,hb2⟩;have HB2:=hid (HB1.out.trans (hb2.mono HB1.out.size));have HK2:=hid (HK1.out.below hb2 HK1.out.lt);have hs2:=HS.out w2 HB2.out;have x1:=(hs2.box.cell 1).trans (show _=some (.pointer (some ⟨s.bc,0,none⟩))from rfl);have HG2:=hid (HG.out w2 HB2.out);have HS2:=hid hs2;have HWn:=hid (show w.heap.size < w2.heap.size from HK2.out.lt);clear hb2 hs2 HG HK1 HB1 HS
 go_upto_region 2 with fail
 rw[HNm.out]
 go_wp2_with fail
 refine HG2.out.mono ?_;clear HG2;rintro e w3 ⟨rfl,hca,hf3⟩;have HCa3:=hid hca;have HF3:Hid (Fr w w3 (CS s.bc s.bp)):=hid ((Fr.of_below HB2.out _).trans hf3);have hbp:s.bc < w.heap.size∧s.bp < w.heap.size∧s.mb < w.heap.size:=⟨HNot.out _ (.inl rfl),HNot.out _ (.inr (.inl rfl)),HNot.out _ (.inr (.inr rfl))⟩;have HNc:Hid (∀ k,w.heap.size≤k→¬ CS s.bc s.bp k):=hid fun k hk hc=>by rcases hc with rfl|rfl <;> omega
 have hw3:w.heap.size < w3.heap.size:=Nat.lt_of_lt_of_le HWn.out hf3.size;have HK3:=hid (HK2.out.fr hf3 (HNc.out _ (Nat.le_refl _)));have hs3:=HH.out.asked _ (core_get s.ps nm) HF3.out hca;have x2:w3.cell? ⟨s.p,2,none⟩=some (.map (some s.mb)):=(hs3.box.cell 2).trans rfl;have c0:=(HK3.out.cell 0).trans (show _=some (.slice none 0 0)from rfl);have c1:=(HK3.out.cell 1).trans (show _=some (.slice none 0 0)from rfl);have f0:=HK3.out.frozen 0;have f1:=HK3.out.frozen 1;have HS3:=hid hs3;clear hca hf3 hs3 HK2
 by_cases hm:nm∈keysOf s.ps
 ·obtain⟨text',val,lo,hi',h1,h2,h3,h4,h5⟩:=HH.out.link i key hi (by rw[←HNe.out];exact hm)
  rw[HTx.out]at h1;obtain rfl:=Option.some.inj h1;rw[←HNe.out]at h3;obtain⟨out,U,zs,rfl,_,hsr,hlu⟩:=(h4.fr HF3.out fun k hk=>h5 k (HH.out.sub k (CS.y hk).x)).use;obtain⟨oA,oc,rfl,_⟩:=own_slice hsr.row;obtain⟨uA,uc,rfl,_⟩:=hlu.form;have hzr:∀ W,(zeroValue 53).run Tryz.prog W=.ok (.agg #[.slice none 0 0,.slice none 0 0]) W:=fun W=>by
   simp[Tryz.zeroValue53]
  have hlk:(Instr.lookup 76 (.map (some s.mb)) (.string nm) false).run Tryz.prog w3=.ok (.agg #[.slice oA zs.length oc,.slice uA (cpyN 7 (parG (bts text))).length uc]) w3:=by
   have h6:=HS3.out.codes.look (t:=76) (e:=53) (k:=nm) Tryz.underlying76 (hzr _) (by unfold maxLen;omega)
   have h7:(s.turn s.hand s.cnt (getPs s.ps nm) s.f).f nm=some (.agg #[.slice oA zs.length oc,.slice uA (cpyN 7 (parG (bts text))).length uc]):=h3;rw[h7]at h6;exact h6
  have hg:(cgetV s.ps nm).isSome=true:=get_there.2 hm;rw[hg];have HP:=hid (And.intro h2 (And.intro h4 h5));clear hzr h2 h3 h4 h5 hsr hlu hg h1
  go_wp2_with fail
  have hkF:=(HK3.out.set_ 0 (.slice oA zs.length oc)).set_ 1 (.slice uA (cpyN 7 (parG (bts text))).length uc);have hfF:Fr w ((w3.setCell ⟨w.heap.size,0,none⟩ (.slice oA zs.length oc)).setCell ⟨w.heap.size,1,none⟩ (.slice uA (cpyN 7 (parG (bts text))).length uc)) (CS s.bc s.bp):=(HF3.out.setCell (p:=⟨w.heap.size,0,none⟩) (.inr (Nat.le_refl _)) _).setCell (p:=⟨w.heap.size,1,none⟩) (.inr (Nat.le_refl _)) _;have hfg:Fr w3 ((w3.setCell ⟨w.heap.size,0,none⟩ (.slice oA zs.length oc)).setCell ⟨w.heap.size,1,none⟩ (.slice uA (cpyN 7 (parG (bts text))).length uc)) (fun k=>k=w.heap.size):=((Fr.refl _ (fun k=>k=w.heap.size)).setCell (p:=⟨w.heap.size,0,none⟩) (.inl rfl) _).setCell (p:=⟨w.heap.size,1,none⟩) (.inl rfl) _;refine bodyPost_ret (results_code rfl _ _ w.heap.size (.slice oA zs.length oc) (.slice uA (cpyN 7 (parG (bts text))).length uc) rfl ((hkF.cell 0).trans rfl) ((hkF.cell 1).trans rfl)) rfl ?_;refine⟨s.hand,s.cnt,getPs s.ps nm,s.f,get_len _ _,Nat.le_succ _,HH.out.asked _ (core_get s.ps nm) hfF (HCa3.out.fr hfg (by show ¬ s.bc=_;omega) (by show ¬ s.bp=_;omega)),hfF.mono fun k hk=>CS.y hk,.inr ⟨HP.out.1,_,lo,hi',rfl,HP.out.2.1.fr hfF fun k hk=>HP.out.2.2 k (HH.out.sub k (CS.y hk).x)⟩⟩
 ·have hg:(cgetV s.ps nm).isSome=false:=by
   cases he:(cgetV s.ps nm).isSome with
   | false=>rfl
   | true=>exact absurd (get_there.1 he) hm
  have hgp:=get_none hm;rw[hg];rw[hgp]at HCa3 HS3;have HP3:=hid (HPa.out w3 (HEv.out w3 (HF3.out.mono fun k hk=>CS.y hk)));clear hg hgp HPa
  go_wp2_with fail
  refine HP3.out.mono ?_;clear HP3;rintro e w4 ⟨hb4,v,rfl,hmk⟩;obtain⟨vA,vc,rfl⟩:=hmk.form;have HF4:Hid (Fr w w4 (CS s.bc s.bp)):=hid (HF3.out.then_below hb4);have HK4:=hid (HK3.out.below hb4 HK3.out.lt);have hz4:=hb4.size;have hz3:=HF3.out.size;have c0:=(HK4.out.cell 0).trans (show _=some (.slice none 0 0)from rfl);have c1:=(HK4.out.cell 1).trans (show _=some (.slice none 0 0)from rfl);have f0:=HK4.out.frozen 0;have f1:=HK4.out.frozen 1;have HC4:=hid (HCa3.out.below hb4 (by omega) (by omega))
  have HMk:=hid hmk;clear hb4 hmk x2
  by_cases hp:parE (bts text)=0
  ·rw[hp,errV_zero];have HCm:=hid (compile_ok 7 (parG (bts text)) (.slice vA (parG (bts text)).length vc) 0 w4 (parG_in _) (mkN_later HMk.out (Below.refl _ _) (Nat.le_refl _)) (HEv.out w4 (HF4.out.mono fun k hk=>CS.y hk)).mv (parG_checked hp) (parG_small _))
   go_wp2_with fail
   refine HCm.out.mono ?_;clear HCm;rintro e w5 ⟨hb5,out,U,zs,rfl,hz,hsr,hu⟩;obtain⟨oA,oc,rfl,_⟩:=own_slice hsr.row;obtain⟨uA,uc,rfl,_⟩:=hu.form;have hz5:=hb5.size;obtain⟨W6,eW6⟩:∃ W,W=w5.alloc (.cells #[.slice oA zs.length oc,.slice uA (cpyN 7 (parG (bts text))).length uc] 53):=⟨_,rfl⟩;have hb6:Below w5.heap.size w5 W6:=by rw[eW6];exact(Below.refl _ _).alloc (Nat.le_refl _) _
   have hz6:W6.heap.size=w5.heap.size+1:=by rw[eW6,World.size_alloc]
   have hk6:Blk W6 w5.heap.size 53 #[.slice oA zs.length oc,.slice uA (cpyN 7 (parG (bts text))).length uc]:=by rw[eW6];exact Blk.new w5 _ _
   have hb46:Below w4.heap.size w4 W6:=hb5.trans (hb6.mono hz5);have HCode:Hid (∀ W,Fr w5 W (fun k=>k=w.heap.size∨SY s k)→CodeIs w4.heap.size w5.heap.size W (.agg #[.slice oA zs.length oc,.slice uA (cpyN 7 (parG (bts text))).length uc]) (parG (bts text))):=hid fun W hW=>
    ⟨w5,_,_,zs,rfl,rfl,hz,hsr,hu,hW.size,fun k h1 h2=>hW.block k h2 fun hk=>by
      rcases hk with hk|hk
      ·have hk:k=w.heap.size:=hk;omega
      ·have:=HNot.out k hk;omega⟩
   have HF6:Hid (Fr w W6 (CS s.bc s.bp)):=hid (HF4.out.then_below hb46);have HK6g:=hid (HK4.out.below hb46 HK4.out.lt);have HK6:=hid hk6;have HC6:=HC4.out.below hb46 (by omega) (by omega)
   have hs6:=HH.out.asked _ rfl HF6.out HC6;have x3:W6.cell? ⟨s.p,1,none⟩=some (.pointer (some ⟨s.bc,0,none⟩)):=(hs6.box.cell 1).trans rfl;have HPu:=hid (kput_any s.bc s.bp s.ps s.hand nm text W6 HC6 HH.out.len HH.out.hand);have EW6:=hid eW6;have HF56:Hid (Fr w5 W6 (fun k=>k=w.heap.size∨SY s k)):=hid (Fr.of_below hb6 _);clear hb5 hz hsr hu eW6 hb6 hk6 hb46 HC6 hs6 c0 c1 f0 f1
   go_upto_region 11 with fail
   rw[←EW6.out];clear EW6
   go_wp2_with fail
   refine HPu.out.mono ?_;clear HPu;rintro e w7 ⟨rfl,hca7,hf7⟩;obtain⟨R,hR⟩:∃ R,R=putR s.ps s.hand nm text:=⟨_,rfl⟩;rw[←hR]at hca7 ⊢;have HR:=hid hR;have HC7:=hid hca7;have HF7:Hid (Fr w w7 (CS s.bc s.bp)):=hid (HF6.out.trans hf7);have HF57:Hid (Fr w5 w7 (fun k=>k=w.heap.size∨SY s k)):=hid (HF56.out.trans (hf7.mono fun k hk=>.inr (CS.y hk)));have HK7g:=hid (HK6g.out.fr hf7 (HNc.out _ (Nat.le_refl _)));have HK7:=hid (HK6.out.fr hf7 (HNc.out _ (by omega)))
   have hz7:=hf7.size;have hbx7:Blk w7 s.p 78 #[.pointer (some ⟨s.sp,0,none⟩),.pointer (some ⟨s.bc,0,none⟩),.map (some s.mb),s.bv,.int .i64 (s.v:Int)]:=HH.out.box.fr HF7.out fun hk=>HH.out.box_ny (CS.y hk);have HBx7:=hid hbx7;have hnm7:¬ CS s.bc s.bp s.mb:=fun hk=>by
    obtain⟨D,⟨es,clock,hb,_⟩,_⟩:=HH.out.codes;rcases hk with hk|hk
    ·have:=HH.out.cache.1;unfold Blk at this;rw[hk,this]at hb;cases hb
    ·have:=HH.out.cache.2;unfold Blk at this;rw[hk,this]at hb;cases hb
   have HO7:=hid (HH.out.codes.keep (HF7.out.block _ hbp.2.2 hnm7));have HNm7:=hid hnm7;have x4:=(hbx7.cell 2).trans (show _=some (.map (some s.mb))from rfl);obtain⟨gone,hgone⟩:∃ gone,gone=R.gone:=⟨_,rfl⟩;have HGo:=hid hgone;have HGs:Hid (∀ g,gone=some g→g.size≤maxLen):=hid fun g hg=>HH.out.names g (put_gone HH.out.dist s.hand nm text HH.out.hand (by rw[←HR.out,←hgone];exact hg)).1
   rw[←hgone];clear hca7 hf7 hR hbx7 hnm7 hgone x3
   go_upto_if 67 with fail
   go_cut []from 68 (fun wx=>OwnsV wx s.mb s.cnt (delC s.f gone)∧Fr w7 wx (fun k=>k=s.mb))
   case first=>
    cases gone with
    | none=>
      go_wp2_with fail
      go_meet
      case rel=>exact⟨HO7.out,Fr.refl _ _⟩
    | some g=>
      have hgs:=HGs.out g rfl
      go_wp2_with (at_delete;refine wpList_delete_V rfl _ _ 76 53 rfl Tryz.underlying76 s.mb s.cnt _ rfl HO7.out g rfl hgs ?_)
      intro w8 hO8 hg8;have HO8:=hid hO8;have HF8:Hid (Fr w7 w8 (fun k=>k=s.mb)):=hid ((Fr.refl _ _).grown hg8 fun k hk=>.inl (by injection hk with hk;exact hk.symm))
      clear hO8 hg8
      go_wp2_with fail
      go_meet
      case rel=>exact⟨HO8.out,HF8.out⟩
   case rest=>
    obtain⟨hO,hF⟩:=hcut;have hz8:=hF.size;have hmp:¬(s.p=s.mb):=fun e=>HH.out.box_ny (.inr (.inr e));have hbx8:=HBx7.out.fr hF hmp;have hk8:=HK7.out.fr hF (by show ¬ w5.heap.size=s.mb;omega)
    have hg8:=HK7g.out.fr hF (by show ¬ w.heap.size=s.mb;omega)
    have HC8:=hid (HC7.out.fr hF (fun e=>HNm7.out (.inl e.symm)) (fun e=>HNm7.out (.inr e.symm)));have x5:wc.cell? ⟨s.p,2,none⟩=some (.map (some s.mb)):=(hbx8.cell 2).trans rfl;have d0:=(hk8.cell 0).trans (show _=some (.slice oA zs.length oc)from rfl);have d1:=(hk8.cell 1).trans (show _=some (.slice uA (cpyN 7 (parG (bts text))).length uc)from rfl);have HO8:Hid (OwnsV wc.drew s.mb s.cnt (delC s.f gone)):=hid (hO.keep rfl);have HF8:=hid hF;have HK8:=hid hk8;have HG8:=hid hg8;clear hO hF hbx8 hk8 hg8 x4
    go_upto_region 14 with fail
    go_still_tail 6,(by kernel_rfl)
    change wpList _ _ _ _ _ wc.drew
    go_wp2_with (at_mapUpdate;refine wpList_update_V rfl _ _ _ 76 53 rfl Tryz.underlying76 s.mb s.cnt _ rfl HO8.out (by unfold maxLen;omega) nm (.agg #[.slice oA zs.length oc,.slice uA (cpyN 7 (parG (bts text))).length uc]) rfl rfl (by unfold maxLen;omega) ?_)
    intro w9 hO9 hg9;have hF9:Fr wc w9 (fun k=>k=s.mb):=((Fr.refl _ _).drew).grown hg9 fun k hk=>.inl (by injection hk with hk;exact hk.symm)
    have hz9:=hF9.size;have hk9:=HK8.out.fr hF9 (by show ¬ w5.heap.size=s.mb;omega)
    have hg9':=HG8.out.fr hF9 (by show ¬ w.heap.size=s.mb;omega)
    have HC9:=hid (HC8.out.fr hF9 (fun e=>HNm7.out (.inl e.symm)) (fun e=>HNm7.out (.inr e.symm)));have e0:=(hk9.cell 0).trans (show _=some (.slice oA zs.length oc)from rfl);have e1:=(hk9.cell 1).trans (show _=some (.slice uA (cpyN 7 (parG (bts text))).length uc)from rfl);have r0:=(hg9'.cell 0).trans (show _=some (.slice none 0 0)from rfl);have r1:=(hg9'.cell 1).trans (show _=some (.slice none 0 0)from rfl);have g0:=hg9'.frozen 0;have g1:=hg9'.frozen 1;have HO9:=hid hO9;have HF9:=hid hF9;have HG9:=hid hg9';clear hO9 hg9 hF9 hk9 hg9' x5 d0 d1
    go_wp2_with fail
    have hkF:=(HG9.out.set_ 0 (.slice oA zs.length oc)).set_ 1 (.slice uA (cpyN 7 (parG (bts text))).length uc);have hmbY:∀ k,k=s.mb→SY s k:=fun k hk=>.inr (.inr hk);have hf9w:Fr w w9 (SY s):=((HF7.out.mono fun k hk=>CS.y hk).trans (HF8.out.mono hmbY)).trans (HF9.out.mono hmbY);have hfF:Fr w ((w9.setCell ⟨w.heap.size,0,none⟩ (.slice oA zs.length oc)).setCell ⟨w.heap.size,1,none⟩ (.slice uA (cpyN 7 (parG (bts text))).length uc)) (SY s):=(hf9w.setCell (p:=⟨w.heap.size,0,none⟩) (.inr (Nat.le_refl _)) _).setCell (p:=⟨w.heap.size,1,none⟩) (.inr (Nat.le_refl _)) _;have hfg:Fr w9 ((w9.setCell ⟨w.heap.size,0,none⟩ (.slice oA zs.length oc)).setCell ⟨w.heap.size,1,none⟩ (.slice uA (cpyN 7 (parG (bts text))).length uc)) (fun k=>k=w.heap.size):=((Fr.refl _ (fun k=>k=w.heap.size)).setCell (p:=⟨w.heap.size,0,none⟩) (.inl rfl) _).setCell (p:=⟨w.heap.size,1,none⟩) (.inl rfl) _;have hf5F:=((HF57.out.trans (HF8.out.mono fun k hk=>.inr (hmbY k hk))).trans (HF9.out.mono fun k hk=>.inr (hmbY k hk))).trans (hfg.mono fun k hk=>.inl hk);have hcode:=HCode.out _ hf5F;have haw:=HAw.out w4.heap.size w5.heap.size (by omega)
    have hoF:OwnsV ((w9.setCell ⟨w.heap.size,0,none⟩ (.slice oA zs.length oc)).setCell ⟨w.heap.size,1,none⟩ (.slice uA (cpyN 7 (parG (bts text))).length uc)) s.mb (s.cnt+1) (putC s.f gone nm (.agg #[.slice oA zs.length oc,.slice uA (cpyN 7 (parG (bts text))).length uc])):=by
     have h1:=HO9.out.keep (hfg.block s.mb HO9.out.lt (by show ¬ s.mb=_;omega))
     rw[putC_del]at h1;exact h1
    have hcaF:=HC9.out.fr hfg (by show ¬ s.bc=_;omega) (by show ¬ s.bp=_;omega)
    rw[HGo.out]at hoF;rw[HR.out]at hoF hcaF;rw[HNe.out]at hoF hcaF;refine bodyPost_ret (results_code rfl _ _ w.heap.size (.slice oA zs.length oc) (.slice uA (cpyN 7 (parG (bts text))).length uc) rfl ((hkF.cell 0).trans rfl) ((hkF.cell 1).trans rfl)) rfl ?_;exact⟨_,_,_,_,putR_len _ _ _ _,Nat.le_refl _,HH.out.stored hi (by rw[←HNe.out];unfold maxLen;omega) HTx.out hp hfF hcaF hoF hcode haw,hfF,.inr ⟨hp,_,_,_,rfl,hcode⟩⟩
  ·rw[errV_ne hp]
   go_wp2_with fail
   have hkF:=(HK4.out.set_ 0 (.slice none 0 0)).set_ 1 (.slice none 0 0);have hfF:Fr w ((w4.setCell ⟨w.heap.size,0,none⟩ (.slice none 0 0)).setCell ⟨w.heap.size,1,none⟩ (.slice none 0 0)) (CS s.bc s.bp):=(HF4.out.setCell (p:=⟨w.heap.size,0,none⟩) (.inr (Nat.le_refl _)) _).setCell (p:=⟨w.heap.size,1,none⟩) (.inr (Nat.le_refl _)) _;have hfg:Fr w4 ((w4.setCell ⟨w.heap.size,0,none⟩ (.slice none 0 0)).setCell ⟨w.heap.size,1,none⟩ (.slice none 0 0)) (fun k=>k=w.heap.size):=((Fr.refl _ (fun k=>k=w.heap.size)).setCell (p:=⟨w.heap.size,0,none⟩) (.inl rfl) _).setCell (p:=⟨w.heap.size,1,none⟩) (.inl rfl) _;refine bodyPost_ret (results_code rfl _ _ w.heap.size (.slice none 0 0) (.slice none 0 0) rfl ((hkF.cell 0).trans rfl) ((hkF.cell 1).trans rfl)) rfl ?_;exact⟨s.hand,s.cnt,s.ps,s.f,rfl,Nat.le_succ _,HH.out.asked _ rfl hfF (HC4.out.fr hfg (by show ¬ s.bc=_;omega) (by show ¬ s.bp=_;omega)),hfF.mono fun k hk=>CS.y hk,.inl ⟨hp,by rw[errV_ne hp];rfl⟩⟩
end Go.Proofs.YtpfmmbbggcghiaaGreatDoor
