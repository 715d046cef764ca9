/- Bundles, plainly: their faults, where a key is; what is nearer counts. No program. -/
import Derived.Test.YtpfmmbbggcghiaaGreatDoorOpen
set_option linter.unusedSimpArgs false
set_option linter.unusedVariables false
set_option maxHeartbeats 3200000
namespace Go.Proofs.YtpfmmbbggcghiaaGreatDoor
open Go.RowKit
open Lib (hid)
def firstS {α:Type} (f:Nat→Option α):Nat→Option (Nat×α)
 | 0=>none
 | n+1=>match firstS f n with|some r=>some r|none=>(f n).map (n,·)
theorem firstS_none {α:Type} (f:Nat→Option α):∀ n,(∀ q,q < n→f q=none)→firstS f n=none
 | 0,_=>rfl
 | n+1,h=>by unfold firstS;rw[firstS_none f n fun q hq=>h q (by omega),h n (by omega)];rfl
theorem firstS_at {α:Type} (f:Nat→Option α) (j:Nat) (x:α) (h0:∀ q,q < j→f q=none) (hj:f j=some x):∀ n,j < n→firstS f n=some (j,x)
 | 0,h=>absurd h (by omega)
 | n+1,h=>by
   unfold firstS
   by_cases hn:j < n
   ·rw[firstS_at f j x h0 hj n hn]
   ·obtain rfl:j=n:=by omega
    rw[firstS_none f j h0,hj];rfl
theorem firstS_some {α:Type} {f:Nat→Option α}:∀ {n j:Nat} {x:α},firstS f n=some (j,x)→j < n∧(∀ q,q < j→f q=none)∧f j=some x
 | 0,_,_,h=>by cases h
 | n+1,j,x,h=>by
   unfold firstS at h;cases hf:firstS f n with
   | some r=>
     rw[hf]at h;injection h with h;subst h;have:=firstS_some hf;exact⟨by omega,this.2⟩
   | none=>
     rw[hf]at h;simp only[Option.map_eq_some_iff]at h;obtain⟨y,hy,he⟩:=h;injection he with e1 e2;subst e1;subst e2;refine⟨by omega,fun q hq=> ?_,hy⟩
     clear hy;have key:∀ m,firstS f m=none→∀ q,q < m→f q=none:=by
      intro m
      induction m with
      | zero=>intro _ q hq;omega
      | succ m ih=>
        intro h q hq;unfold firstS at h;cases hm:firstS f m with
        | some r=>rw[hm]at h;cases h
        | none=>
          rw[hm]at h
          by_cases e:q=m
          ·subst e;simpa using h
          ·exact ih hm q (by omega)
     exact key n hf q hq
structure Ent where
 key:ByteArray
 text:ByteArray
structure Bun where
 tag:ByteArray
 ents:List Ent
def noEnt:Ent:=⟨ByteArray.empty,ByteArray.empty⟩
def noBun:Bun:=⟨ByteArray.empty,[]⟩
def Enc.ent:Enc Ent:=⟨2,32,fun _ _ _ cs e=>cs=[.string e.key,.string e.text],fun B e=>e.key.size≤B∧e.text.size≤B,fun e=>e.key.size+e.text.size⟩
theorem Enc.ent_laws:Enc.ent.Laws:=⟨fun h=>by cases h;rfl,fun h _=>h,fun h _ _=>h⟩
def Enc.bun:Enc Bun:=⟨2,40,fun w lo hi cs b=>∃ v,cs=[.string b.tag,v]∧ListOk Enc.ent w lo hi v b.ents,fun B b=>b.tag.size≤B∧Enc.ent.list.fits B b.ents,fun b=>b.tag.size+Enc.ent.list.bulk b.ents⟩
theorem Enc.bun_laws:Enc.bun.Laws:=
 ⟨fun⟨_,h,_⟩=>by cases h;rfl,fun⟨v,h,k⟩ ha=>⟨v,h,k.keep Enc.ent_laws ha⟩,fun⟨v,h,k⟩ h1 h2=>⟨v,h,k.mono Enc.ent_laws h1 h2⟩⟩
def isTag (s:ByteArray):Bool:=match parseTag s with|some t=>eqs (tagText t) s|none=>false
def isKey (c:UInt8):Bool:=isLow c || (isDig c || (decide (c.toNat=46) || decide (c.toNat=95)))
def keyOk (s:ByteArray):Bool:=decide (s.size≠0) && (decide (s.size≤40) && (bts s).all isKey)
def entAt (l:List Ent) (j:Nat):Int:=
 if keyOk (l.getD j noEnt).key then(if(l.take j).any (fun e=>eqs e.key (l.getD j noEnt).key)then 5 else if 2000 < (l.getD j noEnt).text.size then 4 else 0)else 3
def bunFault (b:Bun):Int:=if isTag b.tag then(if 100 < b.ents.length then 4 else firstN (entAt b.ents) b.ents.length)else 3
def loadAt (l:List Bun) (j:Nat):Int:=
 if bunFault (l.getD j noBun)=0 then(if(l.take j).any (fun b=>eqs b.tag (l.getD j noBun).tag)then 5 else 0)else bunFault (l.getD j noBun)
def loadFault (l:List Bun):Int:=firstN (loadAt l) l.length
def hitOf (b:Bun) (nm key:ByteArray):Option ByteArray:=if eqs b.tag nm then(b.ents.find? (fun e=>eqs e.key key)).map (·.text)else none
def hitAt (l:List Bun) (nm key:ByteArray) (i:Nat):Option ByteArray:=(l[i]?).bind (hitOf · nm key)
def findTag (l:List Bun) (nm key:ByteArray):Option (Nat×ByteArray):=firstS (hitAt l nm key) l.length
def tagAt (l:List Bun) (c:List Tg) (key:ByteArray) (k:Nat):Option (Nat×ByteArray):=(c[k]?).bind fun x=>findTag l (tagText x) key
def en:ByteArray:=⟨#[101,110]⟩
def enTg:Tg:=⟨en,ByteArray.empty,ByteArray.empty,[]⟩
def chainEn (t:Tg):List Tg:=chainOf t++[enTg]
def findChain (l:List Bun) (t:Tg) (key:ByteArray):Option (Nat×(Nat×ByteArray)):=firstS (tagAt l (chainEn t) key) (chainEn t).length
structure Found where
 err:Int
 at_:Nat
 text:ByteArray
def findIn (l:List Bun) (name key:ByteArray):Found:=
 if loadFault l=0 then
  (if isTag name then
    match parseTag name with
    | some t=>(match findChain l t key with|some (_,i,s)=>⟨0,i,s⟩|none=>⟨2,0,ByteArray.empty⟩)
    | none=>⟨3,0,ByteArray.empty⟩
  else⟨3,0,ByteArray.empty⟩)
 else⟨loadFault l,0,ByteArray.empty⟩
theorem isTag_some {s:ByteArray} (h:isTag s=true):∃ t,parseTag s=some t∧tagText t=s:=by
 unfold isTag at h;cases hp:parseTag s with
 | none=>rw[hp]at h;cases h
 | some t=>rw[hp]at h;exact⟨t,rfl,(eqs_iff _ _).1 h⟩
theorem parse_fault {s:ByteArray} {t:Tg} (h:parseTag s=some t):tagFault t=0:=by
 unfold parseTag at h;split at h
 ·rename_i h1
  injection h with h;subst h;simpa using(Bool.and_eq_true_iff.1 h1).1
 ·cases h
end Go.Proofs.YtpfmmbbggcghiaaGreatDoor
namespace Go.Proofs.YtpfmmbbggcghiaaGreatDoor
open Go.RowKit Go.ChangeShapes Go.WideShapes Go.ChangeAt
open Lib (hid)
section
variable {P:Program} {t:TypeId}
theorem weightsEach_mem {H:Type}:∀ {ts:List TypeId} {ds:List (DataW H)} (j:Nat) (u:TypeId) (d:DataW H),ts[j]? =some u→ds[j]? =some d→∀ n∈d.weights P u,n∈DataW.weightsEach P ts ds
 | [],_,j,_,_,h,_,_,_=>by simp at h
 | _::_,[],j,_,_,_,h,_,_=>by simp at h
 | a::ts,b::ds,0,u,d,h1,h2,n,hn=>by
   simp at h1 h2;subst h1;subst h2;simp only[DataW.weightsEach,List.mem_append];exact .inl hn
 | a::ts,b::ds,j+1,u,d,h1,h2,n,hn=>by
   simp only[DataW.weightsEach,List.mem_append];exact .inr (weightsEach_mem j u d (by simpa using h1) (by simpa using h2) n hn)
theorem opens_struct2 {α β γ:Type} {A:Enc α} {B:Enc β} {E:Enc γ} {f0 f1:Field} (hA:Opens P A f0.type) (hB:Opens P B f1.type) (ht:P.underlying t=some (.struct #[f0,f1]))
 (o0:f0.offset=0) (o1:f1.offset=A.sz) (c0:P.cellsOf f0.type=A.sz) (c1:P.cellsOf f1.type=B.sz) (ct:P.cellsOf t=A.sz+B.sz) (mk:α→β→γ)
 (hok:∀ w lo hi c d a b,A.ok w lo hi c a→B.ok w lo hi d b→E.ok w lo hi (c++d) (mk a b)) (hf:∀ n a b,A.fits n a→B.fits n b→E.fits n (mk a b))
 (hb:∀ a b,E.bulk (mk a b)≤A.bulk a+B.bulk b):Opens P E t:=by
 intro H enc w sp held fuel cs x hi h hx;obtain⟨xs,n,rfl,rfl,hcl,hxl,hel⟩:=DataW.trod_struct ht h;have e0:=hel 0 f0 rfl;have e1:=hel 1 f1 rfl;have hl2:xs.length=2:=hxl;obtain⟨y,z,rfl⟩:∃ y z,xs=[y,z]:=by
  match xs,hl2 with
  | [y,z],_=>exact⟨y,z,rfl⟩
 rw[o0,c0,List.drop_zero]at e0;rw[o1,c1]at e1;obtain⟨a,ka,fa,ba⟩:=hA enc w sp held n _ y hi e0 fun p hp=>hx p (by simp[hp])
 obtain⟨b,kb,fb,bb⟩:=hB enc w sp held n _ z hi e1 fun p hp=>hx p (by simp[hp])
 have hc:cs=cs.take A.sz++(cs.drop A.sz).take B.sz:=by
  rw[List.take_of_length_le (l:=cs.drop A.sz) (by rw[List.length_drop];omega),List.take_append_drop]
 refine⟨mk a b,by rw[hc];exact hok _ _ _ _ _ _ _ ka kb,fun n hn=>hf _ _ _ (fa n fun m hm=>hn m ?_) (fb n fun m hm=>hn m ?_),?_⟩
 ·simp only[DataW.weights,ht];exact weightsEach_mem 0 f0.type y.1 rfl rfl m hm
 ·simp only[DataW.weights,ht];exact weightsEach_mem 1 f1.type z.1 rfl rfl m hm
 ·have:=hb a b;simp only[Rows.uptoBulk,Rows.uptoBulkAll,List.map_cons,List.map_nil];omega
theorem opens_struct4 {α β γ δ ε:Type} {A:Enc α} {B:Enc β} {C:Enc γ} {D:Enc δ} {E:Enc ε} {f0 f1 f2 f3:Field} (hA:Opens P A f0.type) (hB:Opens P B f1.type) (hC:Opens P C f2.type) (hD:Opens P D f3.type)
 (ht:P.underlying t=some (.struct #[f0,f1,f2,f3]))
 (o0:f0.offset=0) (o1:f1.offset=A.sz) (o2:f2.offset=A.sz+B.sz) (o3:f3.offset=A.sz+B.sz+C.sz) (c0:P.cellsOf f0.type=A.sz) (c1:P.cellsOf f1.type=B.sz) (c2:P.cellsOf f2.type=C.sz) (c3:P.cellsOf f3.type=D.sz)
 (ct:P.cellsOf t=A.sz+B.sz+C.sz+D.sz) (mk:α→β→γ→δ→ε)
 (hok:∀ w lo hi c d e f a b g k,A.ok w lo hi c a→B.ok w lo hi d b→C.ok w lo hi e g→D.ok w lo hi f k→E.ok w lo hi (c++d++e++f) (mk a b g k))
 (hf:∀ n a b g k,A.fits n a→B.fits n b→C.fits n g→D.fits n k→E.fits n (mk a b g k))
 (hb:∀ a b g k,E.bulk (mk a b g k)≤A.bulk a+B.bulk b+C.bulk g+D.bulk k):Opens P E t:=by
 intro H enc w sp held fuel cs x hi h hx;obtain⟨xs,n,rfl,rfl,hcl,hxl,hel⟩:=DataW.trod_struct ht h;have e0:=hel 0 f0 rfl;have e1:=hel 1 f1 rfl;have e2:=hel 2 f2 rfl;have e3:=hel 3 f3 rfl;have hl2:xs.length=4:=hxl;obtain⟨y,z,u,v,rfl⟩:∃ y z u v,xs=[y,z,u,v]:=by
  match xs,hl2 with
  | [y,z,u,v],_=>exact⟨y,z,u,v,rfl⟩
 rw[o0,c0,List.drop_zero]at e0;rw[o1,c1]at e1;rw[o2,c2]at e2;rw[o3,c3]at e3;obtain⟨a,ka,fa,ba⟩:=hA enc w sp held n _ y hi e0 fun p hp=>hx p (by simp[hp])
 obtain⟨b,kb,fb,bb⟩:=hB enc w sp held n _ z hi e1 fun p hp=>hx p (by simp[hp])
 obtain⟨g,kg,fg,bg⟩:=hC enc w sp held n _ u hi e2 fun p hp=>hx p (by simp[hp])
 obtain⟨k,kk,fk,bk⟩:=hD enc w sp held n _ v hi e3 fun p hp=>hx p (by simp[hp])
 have hc:cs=cs.take A.sz++(cs.drop A.sz).take B.sz++(cs.drop (A.sz+B.sz)).take C.sz++(cs.drop (A.sz+B.sz+C.sz)).take D.sz:=by
  rw[List.take_of_length_le (l:=cs.drop (A.sz+B.sz+C.sz)) (by rw[List.length_drop];omega)]
  rw[List.append_assoc,←List.drop_drop (i:=C.sz) (j:=A.sz+B.sz),List.take_append_drop,List.append_assoc,←List.drop_drop (i:=B.sz) (j:=A.sz),List.take_append_drop,List.take_append_drop]
 refine⟨mk a b g k,by rw[hc];exact hok _ _ _ _ _ _ _ _ _ _ _ ka kb kg kk,fun n hn=>hf _ _ _ _ _ (fa n fun m hm=>hn m ?_) (fb n fun m hm=>hn m ?_) (fg n fun m hm=>hn m ?_) (fk n fun m hm=>hn m ?_),?_⟩
 ·simp only[DataW.weights,ht];exact weightsEach_mem 0 f0.type y.1 rfl rfl m hm
 ·simp only[DataW.weights,ht];exact weightsEach_mem 1 f1.type z.1 rfl rfl m hm
 ·simp only[DataW.weights,ht];exact weightsEach_mem 2 f2.type u.1 rfl rfl m hm
 ·simp only[DataW.weights,ht];exact weightsEach_mem 3 f3.type v.1 rfl rfl m hm
 ·have:=hb a b g k;simp only[Rows.uptoBulk,Rows.uptoBulkAll,List.map_cons,List.map_nil];omega
end
theorem opens_ent:Opens Tryz.prog Enc.ent 70:=
 opens_struct2 (A:=Enc.str) (B:=Enc.str) (E:=Enc.ent) (opens_str Tryz.underlying9) (opens_str Tryz.underlying9) Tryz.underlying70 rfl rfl (by kernel_rfl) (by kernel_rfl) (by kernel_rfl)
  Ent.mk
  (fun w lo hi c d a b h1 h2=>by
    obtain rfl:c=[.string a]:=h1;obtain rfl:d=[.string b]:=h2;exact rfl)
  (fun n a b h1 h2=>⟨h1,h2⟩) (fun a b=>by simp only[Enc.ent,Enc.str];omega)
theorem opens_bun:Opens Tryz.prog Enc.bun 49:=
 opens_struct2 (A:=Enc.str) (B:=Enc.ent.list) (E:=Enc.bun) (opens_str Tryz.underlying9) (opens_list (E:=Enc.ent) opens_ent Tryz.underlying47 (by kernel_rfl) (by kernel_rfl) (by decide)) Tryz.underlying49 rfl rfl (by kernel_rfl) (by kernel_rfl) (by kernel_rfl)
  Bun.mk
  (fun w lo hi c d a b h1 h2=>by
    obtain⟨v,rfl,hl⟩:=h2;obtain rfl:c=[.string a]:=h1;exact⟨v,rfl,hl⟩)
  (fun n a b h1 h2=>⟨h1,h2⟩) (fun a b=>by simp only[Enc.bun,Enc.str];omega)
theorem len_sum {α:Type} (f:α→Nat):∀ l:List α,(∀ a∈l,1≤f a)→l.length≤(l.map f).sum
 | [],_=>Nat.le_refl _
 | a::r,h=>by
   have h1:=len_sum f r fun x hx=>h x (List.mem_cons_of_mem _ hx);have h2:=h a List.mem_cons_self;rw[List.map_cons,List.sum_cons,List.length_cons];omega
theorem bulk_mem {α:Type} (f:α→Nat) {l:List α} {a:α} (h:a∈l):f a≤(l.map f).sum:=by
 induction l with
 | nil=>cases h
 | cons x r ih=>
   rw[List.map_cons,List.sum_cons];rcases List.mem_cons.1 h with rfl|h
   ·omega
   ·have:=ih h;omega
section
variable {H:Type} {enc:TypeId×Value→H} {P:Program} {W:World} {base:Nat} {t:TypeId} {v:Value} {d:DataW H} {p:List MemPlace} {hi:Nat}
end
section
variable {P:Program} {t e:TypeId}
end
structure NdF (α:Type) where
 kind:Int
 text:ByteArray
 off:Int
 cases:List (ByteArray×List α)
def Nd:Nat→Type
 | 0=>Empty
 | n+1=>NdF (Nd n)
def Enc.cas {α:Type} (E:Enc α):Enc (ByteArray×List α):=
 ⟨2,40,fun w lo hi cs c=>∃ v,cs=[.string c.1,v]∧ListOk E w lo hi v c.2,fun B c=>c.1.size≤B∧E.list.fits B c.2,fun c=>c.1.size+1+E.list.bulk c.2⟩
def Enc.nodeF {α:Type} (E:Enc α):Enc (NdF α):=
 ⟨4,56,fun w lo hi cs x=>∃ v,cs=[.int .i64 x.kind,.string x.text,.int .i64 x.off,v]∧ListOk (Enc.cas E) w lo hi v x.cases,fun B x=>(Lit.int .i64 x.kind).wf=true∧x.text.size≤B∧(Lit.int .i64 x.off).wf=true∧(Enc.cas E).list.fits B x.cases,
   fun x=>x.text.size+1+(Enc.cas E).list.bulk x.cases⟩
def Enc.none_:Enc Empty:=⟨4,56,fun _ _ _ _ _=>False,fun _ _=>True,fun _=>1⟩
def Enc.node:(n:Nat)→Enc (Nd n)
 | 0=>Enc.none_
 | n+1=>Enc.nodeF (Enc.node n)
theorem Enc.none_laws:Enc.none_.Laws:=⟨fun h=>h.elim,fun h _=>h.elim,fun h _ _=>h.elim⟩
theorem Enc.cas_laws {α:Type} {E:Enc α} (hE:E.Laws):(Enc.cas E).Laws:=
 ⟨fun⟨_,h,_⟩=>by cases h;rfl,fun⟨v,h,k⟩ ha=>⟨v,h,k.keep hE ha⟩,fun⟨v,h,k⟩ h1 h2=>⟨v,h,k.mono hE h1 h2⟩⟩
theorem Enc.nodeF_laws {α:Type} {E:Enc α} (hE:E.Laws):(Enc.nodeF E).Laws:=
 ⟨fun⟨_,h,_⟩=>by cases h;rfl,fun⟨v,h,k⟩ ha=>⟨v,h,k.keep (Enc.cas_laws hE) ha⟩,fun⟨v,h,k⟩ h1 h2=>⟨v,h,k.mono (Enc.cas_laws hE) h1 h2⟩⟩
theorem Enc.node_laws:(n:Nat)→(Enc.node n).Laws
 | 0=>Enc.none_laws
 | n+1=>Enc.nodeF_laws (Enc.node_laws n)
end Go.Proofs.YtpfmmbbggcghiaaGreatDoor
namespace Go.Proofs.YtpfmmbbggcghiaaGreatDoor
open Go.RowKit
open Lib (hid)
def restE (s:ByteArray):ByteArray:=⟨(Lib.trimPrefix s.data.toList [61]).toArray⟩
def isE (s:ByteArray):Bool:=Lib.hasPrefix s.data.toList [61]
def exactR (s:ByteArray):Int:=if isE s=false then -1 else match atoiO (bts (restE s))with
 | none=> -1
 | some n=>if n < 0 then -1 else if 999 < n then -1 else if((str (Lib.itoa n)).toList == (restE s).toList)=true then n else -1
theorem restE_size (s:ByteArray):(restE s).size≤s.size:=by
 have h:(Lib.trimPrefix s.data.toList [61]).length≤s.data.toList.length:=by
  unfold Lib.trimPrefix;split
  ·rw[List.length_drop];omega
  ·exact Nat.le_refl _
 have e1:(restE s).size=(Lib.trimPrefix s.data.toList [61]).length:=by
  show(Lib.trimPrefix s.data.toList [61]).toArray.size=_;simp
 have e2:s.data.toList.length=s.size:=by rw[Array.length_toList];rfl
 omega
theorem exact_any (s:ByteArray) (w:World) (hs:s.size≤1000000000) (hv:MV w):Calls Tryz.prog 147 #[.string s] w fun e w'=>e=.returned (.int .i64 (exactR s))∧Below w.heap.size w w':=by
 have HC:Hid (Calls Tryz.prog 120 #[.string s,.string ⟨#[61]⟩] w fun e w'=>e=.returned (.tuple #[.string (restE s),.bool (isE s)])∧w'=w):=hid (Tryz.strings_CutPrefix s ⟨#[61]⟩ w);have HA:=hid (atoi_any (restE s) w (Nat.le_trans (restE_size s) hs) hv);have HI:Hid (∀ W n,Below w.heap.size w W→0≤n→n≤999→Calls Tryz.prog 61 #[.int .i64 n] W fun e w'=>e=.returned (.string (str (Lib.itoa n)))∧Below W.heap.size W w'):=hid fun W n hW h0 h1=>itoaM_any n W h0 (by omega) (hv.below hW)
 have HR:Hid (exactR s=if isE s=false then -1 else match atoiO (bts (restE s))with
  | none=> -1
  | some n=>if n < 0 then -1 else if 999 < n then -1 else if((str (Lib.itoa n)).toList == (restE s).toList)=true then n else -1):=hid rfl
 clear hv;generalize restE s=r at *;generalize isE s=b at*
 go_enter Tryz.func147,Tryz.ntmps147
 go_wp2_with fail
 refine HC.out.mono ?_;clear HC;rintro e w1 ⟨rfl,rfl⟩
 go_wp2_with fail
 refine HA.out.mono ?_;clear HA;rintro e w2 ⟨⟨v,rfl,hn⟩|⟨v,t,p,rfl,hn⟩,hb2⟩
 ·have HB2:=hid hb2;rw[hn]at HR;have HR':Hid (exactR s=if b=false then -1 else if v < 0 then -1 else if 999 < v then -1 else if((str (Lib.itoa v)).toList == r.toList)=true then v else -1):=hid HR.out
  clear HR hn hb2;cases b with
  | false=>
    have HE:Hid (exactR s= -1):=hid (by rw[HR'.out,if_pos rfl])
    clear HR' HI
    go_wp2_with fail
    go_ret
    exact⟨by rw[HE.out];rfl,HB2.out⟩
  | true=>
    rw[if_neg (by decide)]at HR'
    by_cases h1:v < 0
    ·have HE:Hid (exactR s= -1):=hid (by rw[HR'.out,if_pos h1])
     clear HR' HI
     go_wp2_with fail
     go_ret
     exact⟨by rw[HE.out];rfl,HB2.out⟩
    ·rw[if_neg h1]at HR'
     by_cases h2:999 < v
     ·have HE:Hid (exactR s= -1):=hid (by rw[HR'.out,if_pos h2])
      clear HR' HI
      go_wp2_with fail
      go_ret
      exact⟨by rw[HE.out];rfl,HB2.out⟩
     ·rw[if_neg h2]at HR';have HI1:=hid (HI.out w2 v HB2.out (by omega) (by omega))
      obtain⟨X,hX⟩:∃ X,X=((str (Lib.itoa v)).toList == r.toList):=⟨_,rfl⟩;have hX':((str (Lib.itoa v)).toList == r.toList)=X:=hX.symm;rw[←hX]at HR';generalize str (Lib.itoa v)=T at *;clear HI hX
      go_wp2_with fail
      refine HI1.out.mono ?_;clear HI1;rintro e w3 ⟨rfl,hb3⟩;have HB3:=hid (HB2.out.trans (hb3.mono HB2.out.size));clear hb3;cases X with
      | true=>
        have HE:Hid (exactR s=v):=hid (by rw[HR'.out,if_pos rfl])
        clear HR'
        go_wp2_with fail
        go_ret
        exact⟨by rw[HE.out];rfl,HB3.out⟩
      | false=>
        have HE:Hid (exactR s= -1):=hid (by rw[HR'.out,if_neg (by decide)])
        clear HR'
        go_wp2_with fail
        go_ret
        exact⟨by rw[HE.out];rfl,HB3.out⟩
 ·have HB2:=hid hb2;rw[hn]at HR;have HE:Hid (exactR s= -1):=hid (by rw[HR.out];cases b <;> rfl)
  clear HR hn hb2 HI;cases b with
  | false=>
    go_wp2_with fail
    go_ret
    exact⟨by rw[HE.out];rfl,HB2.out⟩
  | true=>
    go_wp2_with fail
    go_ret
    exact⟨by rw[HE.out];rfl,HB2.out⟩
def hasCases (k:Int):Bool:=k == 4 || k == 5
def casesR {α:Type} (x:NdF α):List (ByteArray×List α):=if hasCases x.kind then x.cases else []
theorem Cases_any {α:Type} {E:Enc α} (x:NdF α) (V:Value) (lo hi:Nat) (w:World) (hV:ListOk (Enc.cas E) w lo hi V x.cases):
 Calls Tryz.prog 91 #[.agg #[.int .i64 x.kind,.string x.text,.int .i64 x.off,V]] w fun e w'=>(∃ V',e=.returned V'∧(V'=V∨V'=.slice none 0 0)∧ListOk (Enc.cas E) w lo hi V' (casesR x))∧Below w.heap.size w w':=by
 obtain⟨VA,Vc,rfl,_⟩:=hV.form;obtain⟨W1,eW1⟩:∃ W1,W1=w.alloc (.cells #[.int .i64 x.kind,.string x.text,.int .i64 x.off,.slice VA x.cases.length Vc] 126):=⟨_,rfl⟩;have hb1:Below w.heap.size w W1:=by rw[eW1];exact(Below.refl _ _).alloc (Nat.le_refl _) _
 have m1:Blk W1 w.heap.size 126 #[.int .i64 x.kind,.string x.text,.int .i64 x.off,.slice VA x.cases.length Vc]:=by rw[eW1];exact Blk.new _ _ _
 have k0:W1.cell? ⟨w.heap.size,0,none⟩=some (.int .i64 x.kind):=(m1.cell 0).trans rfl;have k3:W1.cell? ⟨w.heap.size,3,none⟩=some (.slice VA x.cases.length Vc):=(m1.cell 3).trans rfl;have HB1:=hid hb1;have HW1:=hid eW1;have HR:Hid (casesR x=if hasCases x.kind then x.cases else []):=hid rfl
 have HV:=hid hV;clear hV eW1 hb1 m1
 go_enter Tryz.func91,Tryz.ntmps91
 go_upto_region 1 with fail
 rw[←HW1.out];clear HW1
 by_cases h4:x.kind=4
 ·have q4:(x.kind == 4)=true:=by rw[h4];rfl
  have HE:Hid (casesR x=x.cases):=hid (by rw[HR.out];unfold hasCases;rw[h4];rfl)
  clear HR h4
  go_wp2_with fail
  go_ret
  exact⟨⟨_,rfl,.inl rfl,by rw[HE.out];exact HV.out⟩,HB1.out⟩
 ·have q4:(x.kind == 4)=false:=by rw[beq_eq_false_iff_ne];exact h4
  by_cases h5:x.kind=5
  ·have q5:(x.kind == 5)=true:=by rw[h5];rfl
   have HE:Hid (casesR x=x.cases):=hid (by rw[HR.out];unfold hasCases;rw[h5];rfl)
   clear HR h5 h4
   go_wp2_with fail
   go_ret
   exact⟨⟨_,rfl,.inl rfl,by rw[HE.out];exact HV.out⟩,HB1.out⟩
  ·have q5:(x.kind == 5)=false:=by rw[beq_eq_false_iff_ne];exact h5
   have HE:Hid (casesR x=[]):=hid (by rw[HR.out];unfold hasCases;rw[q4,q5];rfl)
   clear HR h5 h4
   go_wp2_with fail
   go_ret
   exact⟨⟨_,rfl,.inr rfl,by rw[HE.out];exact ListOk.nil 0 none⟩,HB1.out⟩
def keyM (kind:Int) (k:ByteArray):Bool:=if kind=5 then nameR k else kindsB.any (eqs · k) || decide (0≤exactR k)
theorem key_any (kind off:Int) (text k:ByteArray) (A:Option Addr) (n c:Nat) (w:World) (hs:k.size≤1000000000) (hv:MV w):
 Calls Tryz.prog 170 #[.agg #[.int .i64 kind,.string text,.int .i64 off,.slice A n c],.string k] w fun e w'=>e=.returned (.bool (keyM kind k))∧Below w.heap.size w w':=by
 obtain⟨W1,eW1⟩:∃ W1,W1=w.alloc (.cells #[.int .i64 kind,.string text,.int .i64 off,.slice A n c] 126):=⟨_,rfl⟩;have hb1:Below w.heap.size w W1:=by rw[eW1];exact(Below.refl _ _).alloc (Nat.le_refl _) _
 have m1:Blk W1 w.heap.size 126 #[.int .i64 kind,.string text,.int .i64 off,.slice A n c]:=by rw[eW1];exact Blk.new _ _ _
 have k0:W1.cell? ⟨w.heap.size,0,none⟩=some (.int .i64 kind):=(m1.cell 0).trans rfl;have HB1:=hid hb1;have HW1:=hid eW1
 by_cases h5:kind=5
 ·have q5:(kind == 5)=true:=by rw[h5];rfl
  have HE:Hid (keyM kind k=nameR k):=hid (by unfold keyM;rw[if_pos h5])
  have HN:=hid (name_any k W1);generalize nameR k=X at *;clear h5 eW1 hb1 m1 hv
  go_enter Tryz.func170,Tryz.ntmps170
  go_upto_region 1 with fail
  rw[←HW1.out];clear HW1
  go_wp2_with fail
  refine HN.out.mono ?_;clear HN;rintro e w2 ⟨rfl,hb2⟩;have HB2:=hid (HB1.out.trans (hb2.mono HB1.out.size));clear hb2
  go_wp2_with fail
  go_ret
  exact⟨by rw[HE.out];rfl,HB2.out⟩
 ·have q5:(kind == 5)=false:=by rw[beq_eq_false_iff_ne];exact h5
  have HE:Hid (keyM kind k=(kindsB.any (eqs · k) || decide (0≤exactR k))):=hid (by unfold keyM;rw[if_neg h5])
  obtain⟨b,o,c',k1,k2,k3,k4⟩:=(hv.below hb1).kin;have hl:ListOk Enc.str W1 0 W1.heap.size (.slice (some ⟨b,o,none⟩) 6 c') kindsB:=⟨some ⟨b,o,none⟩,c',rfl,k1,fun i hi=>⟨b,o,[.string kindsB[i]],rfl,Nat.zero_le _,k2,fun j u hj=>by
   match j,hj with
   | 0,hj=>
     simp only[List.getElem?_cons_zero,Option.some.injEq]at hj;subst hj;have e:o+i*Enc.str.sz+0=o+i:=by show o+i*1+0=o+i;omega
     rw[e];exact k4 i hi
   | j+1,hj=>simp at hj,rfl⟩⟩
  have HS:=hid (containsS_any kindsB _ k 0 _ W1 hl (by decide))
  have HX:=hid (exact_any k W1 hs (hv.below hb1));generalize kindsB.any (eqs · k)=X at *;generalize exactR k=Y at *;clear h5 eW1 hb1 m1 hv k4 hl
  go_enter Tryz.func170,Tryz.ntmps170
  go_upto_region 1 with fail
  rw[←HW1.out];clear HW1
  go_wp2_with fail
  refine HS.out.mono ?_;clear HS;rintro e w2 ⟨rfl,rfl⟩;cases X with
  | true=>
    have HE2:Hid (keyM kind k=true):=hid (by rw[HE.out];rfl)
    clear HE HX
    go_wp2_with fail
    go_ret
    exact⟨by rw[HE2.out];rfl,HB1.out⟩
  | false=>
    have HE2:Hid (keyM kind k=decide (0≤Y)):=hid (by rw[HE.out];simp)
    clear HE
    go_wp2_with fail
    refine HX.out.mono ?_;clear HX;rintro e w3 ⟨rfl,hb3⟩;have HB3:=hid (HB1.out.trans (hb3.mono HB1.out.size));clear hb3
    go_wp2_with fail
    go_ret
    exact⟨by rw[HE2.out];rfl,HB3.out⟩
theorem ListOk.nodeAt {α:Type} {E:Enc α} {w:World} {lo hi:Nat} {A:Option Addr} {n c:Nat} {l:List (NdF α)} (h:ListOk (Enc.nodeF E) w lo hi (.slice A n c) l) (i:Nat) (hl:i < l.length):
 ∃ b o v,A=some ⟨b,o,none⟩∧lo≤b∧b < hi∧w.cell? ⟨b,o+i*4,none⟩=some (.int .i64 l[i].kind)∧w.cell? ⟨b,o+i*4+1,none⟩=some (.string l[i].text)∧w.cell? ⟨b,o+i*4+2,none⟩=some (.int .i64 l[i].off)∧w.cell? ⟨b,o+i*4+3,none⟩=some v∧ListOk (Enc.cas E) w lo hi v l[i].cases:=by
 obtain⟨A',c',hv,_,hi'⟩:=h;injection hv with hv1 _ _;subst hv1;obtain⟨b,o,cs,hA,h1,h2,h3,v,h4,h5⟩:=hi' i hl;subst h4;exact⟨b,o,v,hA,h1,h2,h3 0 _ rfl,h3 1 _ rfl,h3 2 _ rfl,h3 3 _ rfl,h5⟩
theorem ListOk.casAt {α:Type} {E:Enc α} {w:World} {lo hi:Nat} {A:Option Addr} {n c:Nat} {l:List (ByteArray×List α)} (h:ListOk (Enc.cas E) w lo hi (.slice A n c) l) (i:Nat) (hl:i < l.length):
 ∃ b o v,A=some ⟨b,o,none⟩∧lo≤b∧b < hi∧w.cell? ⟨b,o+i*2,none⟩=some (.string l[i].1)∧w.cell? ⟨b,o+i*2+1,none⟩=some v∧ListOk E w lo hi v l[i].2:=by
 obtain⟨A',c',hv,_,hi'⟩:=h;injection hv with hv1 _ _;subst hv1;obtain⟨b,o,cs,hA,h1,h2,h3,v,h4,h5⟩:=hi' i hl;subst h4;exact⟨b,o,v,hA,h1,h2,h3 0 _ rfl,h3 1 _ rfl,h5⟩
def fineM (k:Int) (t:ByteArray) (last:Option Int) (mark:Bool):Bool:=
 if k=1 then !t.toList.isEmpty && (match last with|none=>true|some l=>l != 1)else if k=2∨k=3∨k=4∨k=5 then nameR t else k == 6 && mark
theorem fineM_any {α:Type} {E:Enc α} (kind off:Int) (text:ByteArray) (C:Option Addr) (n c:Nat) (al:List (NdF α)) (vA:Value) (mark:Bool) (lo:Nat) (w:World) (hA:ListOk (Enc.nodeF E) w lo w.heap.size vA al) (hE:E.Laws) (ha:al.length≤1000000000):
 Calls Tryz.prog 124 #[.agg #[.int .i64 kind,.string text,.int .i64 off,.slice C n c],vA,.bool mark] w fun e w'=>e=.returned (.bool (fineM kind text (al.getLast?.map (·.kind)) mark))∧Below w.heap.size w w':=by
 obtain⟨AA,Ac,rfl,_⟩:=hA.form;obtain⟨W1,eW1⟩:∃ W1,W1=w.alloc (.cells #[.int .i64 kind,.string text,.int .i64 off,.slice C n c] 126):=⟨_,rfl⟩;have hb1:Below w.heap.size w W1:=by rw[eW1];exact(Below.refl _ _).alloc (Nat.le_refl _) _
 have m1:Blk W1 w.heap.size 126 #[.int .i64 kind,.string text,.int .i64 off,.slice C n c]:=by rw[eW1];exact Blk.new _ _ _
 have k0:W1.cell? ⟨w.heap.size,0,none⟩=some (.int .i64 kind):=(m1.cell 0).trans rfl;have k1:W1.cell? ⟨w.heap.size,1,none⟩=some (.string text):=(m1.cell 1).trans rfl;have HB1:=hid hb1;have HW1:=hid eW1;have HN:=hid (name_any text W1);have hA1:=hA.below (Enc.nodeF_laws hE) hb1;have HR:Hid (fineM kind text (al.getLast?.map (·.kind)) mark=if kind=1 then !text.toList.isEmpty && (match al.getLast?.map (·.kind)with|none=>true|some l=>l != 1)else if kind=2∨kind=3∨kind=4∨kind=5 then nameR text else kind == 6 && mark):=hid rfl
 clear hA eW1 hb1 m1
 by_cases h1:kind=1
 ·subst h1;rw[if_pos rfl]at HR;obtain⟨T,hT⟩:∃ T,T=text.toList.isEmpty:=⟨_,rfl⟩;have hT':text.toList.isEmpty=T:=hT.symm;rw[←hT]at HR;clear hT;cases T with
  | true=>
    have HE:Hid (fineM 1 text (al.getLast?.map (·.kind)) mark=false):=hid (by rw[HR.out];rfl)
    clear HR HN
    go_enter Tryz.func124,Tryz.ntmps124
    go_upto_region 1 with fail
    rw[←HW1.out];clear HW1
    go_wp2_with fail
    go_ret
    exact⟨by rw[HE.out];rfl,HB1.out⟩
  | false=>
    by_cases h0:al.length=0
    ·obtain rfl:=List.length_eq_zero_iff.1 h0;have HE:Hid (fineM 1 text (([]:List (NdF α)).getLast?.map (·.kind)) mark=true):=hid (by rw[HR.out];rfl)
     clear HR HN
     go_enter Tryz.func124,Tryz.ntmps124
     go_upto_region 1 with fail
     rw[←HW1.out];clear HW1
     go_wp2_with fail
     go_ret
     exact⟨by rw[HE.out];rfl,HB1.out⟩
    ·obtain⟨j,hj⟩:∃ j,al.length=j+1:=⟨al.length - 1,by omega⟩
     have hjl:j < al.length:=by omega
     obtain⟨b,o,v,rfl,_,_,x0,_,_,_,_⟩:=hA1.nodeAt j hjl;have hl:al.getLast?.map (·.kind)=some al[j].kind:=by
      rw[List.getLast?_eq_getElem?,show al.length - 1=j from by omega,List.getElem?_eq_getElem hjl]
      rfl
     rw[hl]at HR ⊢;generalize al[j].kind=lk at *;have HE:Hid (fineM 1 text (some lk) mark=(lk != 1)):=hid (by rw[HR.out];simp)
     have hz:((al.length:Int) == 0)=false:=by rw[beq_eq_false_iff_ne];omega
     have hsub:(al.length:Int) - 1=(j:Int):=by omega
     have i1:(0:Int)≤(j:Int):=Int.natCast_nonneg j;have i2:(j:Int) < (al.length:Int):=by omega
     have hw:wrap64 ((al.length:Int) - 1)=(j:Int):=by unfold wrap64;omega
     clear HR HN hA1 hl hj h0
     go_enter Tryz.func124,Tryz.ntmps124
     go_upto_region 1 with fail
     rw[←HW1.out];clear HW1
     go_wp2_with fail
     go_ret
     exact⟨by rw[HE.out];rfl,HB1.out⟩
 ·rw[if_neg h1]at HR;have q1:(kind == 1)=false:=by rw[beq_eq_false_iff_ne];exact h1
  by_cases hm:kind=2∨kind=3∨kind=4∨kind=5
  ·rw[if_pos hm]at HR;have HE:=hid HR.out;generalize nameR text=X at *;clear HR hA1 q1 h1;rcases hm with rfl|rfl|rfl|rfl
   all_goals
    go_enter Tryz.func124,Tryz.ntmps124
    go_upto_region 1 with fail
    rw[←HW1.out];clear HW1
    go_wp2_with fail
    refine HN.out.mono ?_;clear HN;rintro e w2 ⟨rfl,hb2⟩;have HB2:=hid (HB1.out.trans (hb2.mono HB1.out.size));clear hb2
    go_wp2_with fail
    go_ret
    exact⟨by rw[HE.out];rfl,HB2.out⟩
  ·rw[if_neg hm]at HR;have q2:(kind == 2)=false:=by rw[beq_eq_false_iff_ne];omega
   have q3:(kind == 3)=false:=by rw[beq_eq_false_iff_ne];omega
   have q4:(kind == 4)=false:=by rw[beq_eq_false_iff_ne];omega
   have q5:(kind == 5)=false:=by rw[beq_eq_false_iff_ne];omega
   obtain⟨Y,hY⟩:∃ Y,Y=(kind == 6):=⟨_,rfl⟩;have q6:(kind == 6)=Y:=hY.symm;rw[←hY]at HR;clear hY hm h1 HN hA1;cases Y with
   | true=>
     have HE:Hid (fineM kind text (al.getLast?.map (·.kind)) mark=mark):=hid (by rw[HR.out];simp)
     clear HR
     go_enter Tryz.func124,Tryz.ntmps124
     go_upto_region 1 with fail
     rw[←HW1.out];clear HW1
     go_wp2_with fail
     go_ret
     exact⟨by rw[HE.out];rfl,HB1.out⟩
   | false=>
     have HE:Hid (fineM kind text (al.getLast?.map (·.kind)) mark=false):=hid (by rw[HR.out];rfl)
     clear HR
     go_enter Tryz.func124,Tryz.ntmps124
     go_upto_region 1 with fail
     rw[←HW1.out];clear HW1
     go_wp2_with fail
     go_ret
     exact⟨by rw[HE.out];rfl,HB1.out⟩
abbrev LexR:=Option (List UInt8×List UInt8)
def appL (a:List UInt8) (p:List UInt8×List UInt8):List UInt8×List UInt8:=(a++p.1,p.2)
theorem appL_nil (o:LexR):o.map (appL [])=o:=by cases o <;> rfl
theorem appL_two (a b:List UInt8) (o:LexR):(o.map (appL b)).map (appL a)=o.map (appL (a++b)):=by
 cases o with
 | none=>rfl
 | some p=>show some _=some _;simp[appL,List.append_assoc]
def quotedL:List UInt8→LexR
 | []=>none
 | [c]=>if c=39 then some ([],[])else none
 | c::d::r=>if c=39 then(if d=39 then(quotedL r).map (appL [39])else some ([],d::r))else(quotedL (d::r)).map (appL [c])
theorem quotedL_plain {c:UInt8} {r:List UInt8} (h:c≠39):quotedL (c::r)=(quotedL r).map (appL [c]):=by
 cases r with
 | nil=>unfold quotedL;rw[if_neg h];rfl
 | cons d r=>exact if_neg h
theorem quotedL_two {r:List UInt8}:quotedL (39::39::r)=(quotedL r).map (appL [39]):=(if_pos rfl).trans (if_pos rfl)
theorem quotedL_end {r:List UInt8} (h:r.head? ≠some 39):quotedL (39::r)=some ([],r):=by
 cases r with
 | nil=>exact if_pos rfl
 | cons d r=>exact(if_pos rfl).trans (if_neg fun e=>h (by rw[e];rfl))
theorem quotedL_len:∀(n:Nat) (l t r:List UInt8),l.length≤n→quotedL l=some (t,r)→t.length+r.length+1≤l.length
 | 0,l,t,r,hn,h=>by
   obtain rfl:=List.length_eq_zero_iff.1 (Nat.le_zero.1 hn);cases h
 | n+1,[],t,r,hn,h=>by cases h
 | n+1,c::l,t,r,hn,h=>by
   have hl:l.length≤n:=by rw[List.length_cons]at hn;omega
   have sub:∀(l':List UInt8) (a:List UInt8),a.length=1→l'.length≤n→(quotedL l').map (appL a)=some (t,r)→t.length+r.length+1≤l'.length+1:=fun l' a ha hl' h'=>by
    cases hq:quotedL l' with
    | none=>rw[hq]at h';cases h'
    | some p=>
      obtain⟨t',r'⟩:=p;rw[hq]at h';injection h' with h';injection h' with h1 h2;have:=quotedL_len n l' t' r' hl' hq;rw[←h1,←h2,List.length_append];show a.length+t'.length+r'.length+1≤_;omega
   by_cases hc:c=39
   ·subst hc
    by_cases hh:l.head? =some 39
    ·cases l with
     | nil=>cases hh
     | cons d q=>
       injection hh with hh;subst hh;rw[quotedL_two]at h;rw[List.length_cons]at hl;have:=sub q [39] rfl (by omega) h
       rw[List.length_cons,List.length_cons];omega
    ·rw[quotedL_end hh]at h;injection h with h;injection h with h1 h2;rw[←h1,←h2,List.length_cons];show 0+l.length+1≤_;omega
   ·rw[quotedL_plain hc]at h;have:=sub l [c] rfl hl h;rw[List.length_cons];omega
def sgB (mark:Bool):ByteArray:=if mark then⟨#[123,125,35]⟩else⟨#[123,125]⟩
def sigL (mark:Bool) (c:UInt8):Bool:=(bts (sgB mark)).contains c
def sigH (mark:Bool) (r:List UInt8):Bool:=(r.head?.map (sigL mark)).getD false
def lexL (mark:Bool):Nat→List UInt8→LexR
 | 0,_=>none
 | _+1,[]=>some ([],[])
 | n+1,c::r=>if sigL mark c=true then some ([],c::r)else if c=39∧r.head? =some 39 then(lexL mark n r.tail).map (appL [39])
    else if c=39∧sigH mark r=true then(match quotedL r with|none=>none|some p=>(lexL mark n p.2).map (appL p.1))else(lexL mark n r).map (appL [c])
def bareM (mark:Bool) (l:List UInt8):LexR:=lexL mark (l.length+1) l
section
variable {mark:Bool} {n:Nat} {c:UInt8} {r:List UInt8}
theorem lexL_nil:lexL mark (n+1) []=some ([],[]):=rfl
theorem lexL_sign (h:sigL mark c=true):lexL mark (n+1) (c::r)=some ([],c::r):=if_pos h
theorem lexL_two (h:sigL mark 39=false):lexL mark (n+1) (39::39::r)=(lexL mark n r).map (appL [39]):=(if_neg (by rw[h];decide)).trans (if_pos ⟨rfl,rfl⟩)
theorem lexL_quote (h:sigL mark 39=false) (h1:r.head? ≠some 39) (h2:sigH mark r=true):lexL mark (n+1) (39::r)=match quotedL r with|none=>none|some p=>(lexL mark n p.2).map (appL p.1):=
 (if_neg (by rw[h];decide)).trans ((if_neg fun e=>h1 e.2).trans (if_pos ⟨rfl,h2⟩))
theorem lexL_bad (h:sigL mark 39=false) (h1:r.head? ≠some 39) (h2:sigH mark r=true) (hq:quotedL r=none):lexL mark (n+1) (39::r)=none:=by rw[lexL_quote h h1 h2,hq]
theorem lexL_good {p:List UInt8×List UInt8} (h:sigL mark 39=false) (h1:r.head? ≠some 39) (h2:sigH mark r=true) (hq:quotedL r=some p):lexL mark (n+1) (39::r)=(lexL mark n p.2).map (appL p.1):=by rw[lexL_quote h h1 h2,hq]
theorem quotedL_drop:∀(k:Nat) (l:List UInt8) (p:List UInt8×List UInt8),l.length≤k→quotedL l=some p→p.2=l.drop (l.length - p.2.length)
 | 0,l,p,hk,h=>by
   obtain rfl:=List.length_eq_zero_iff.1 (Nat.le_zero.1 hk);cases h
 | k+1,[],p,hk,h=>by cases h
 | k+1,c::l,p,hk,h=>by
   have hl:l.length≤k:=by rw[List.length_cons]at hk;omega
   have sub:∀(l':List UInt8) (a:List UInt8),l'.length≤k→(quotedL l').map (appL a)=some p→p.2=l'.drop (l'.length - p.2.length)∧p.2.length≤l'.length:=fun l' a hl' h'=>by
    cases hq:quotedL l' with
    | none=>rw[hq]at h';cases h'
    | some p'=>
      rw[hq]at h';injection h' with h';subst h';have h5:=quotedL_len _ _ p'.1 p'.2 (Nat.le_refl _) hq;exact⟨quotedL_drop k l' p' hl' hq,by show p'.2.length≤_;omega⟩
   by_cases hc:c=39
   ·subst hc
    by_cases hh:l.head? =some 39
    ·cases l with
     | nil=>cases hh
     | cons d q=>
       injection hh with hh;subst hh;rw[quotedL_two]at h;obtain⟨h1,h2⟩:=sub q [39] (by rw[List.length_cons]at hl;omega) h
       rw[List.length_cons,List.length_cons,show q.length+1+1 - p.2.length=(q.length - p.2.length)+1+1 from by omega,List.drop_succ_cons,List.drop_succ_cons]
       exact h1
    ·rw[quotedL_end hh]at h;injection h with h;subst h;show l=_;rw[List.length_cons];show l=(39::l).drop (l.length+1 - l.length);rw[show l.length+1 - l.length=1 from by omega];rfl
   ·rw[quotedL_plain hc]at h;obtain⟨h1,h2⟩:=sub l [c] hl h;rw[List.length_cons,show l.length+1 - p.2.length=(l.length - p.2.length)+1 from by omega,List.drop_succ_cons]
    exact h1
theorem lexL_plain (h:sigL mark c=false) (h1:c=39→r.head? ≠some 39∧sigH mark r=false):lexL mark (n+1) (c::r)=(lexL mark n r).map (appL [c]):=
 (if_neg (by rw[h];decide)).trans ((if_neg fun e=>(h1 e.1).1 e.2).trans (if_neg fun e=>by have:=(h1 e.1).2;rw[e.2]at this;cases this))
end
theorem lexL_len (mark:Bool):∀(n:Nat) (l t r:List UInt8),lexL mark n l=some (t,r)→t.length+r.length≤l.length
 | 0,l,t,r,h=>by cases h
 | n+1,[],t,r,h=>by
   injection h with h;injection h with h1 h2;rw[←h1,←h2];exact Nat.le_refl _
 | n+1,c::l,t,r,h=>by
   have sub:∀(l' a:List UInt8),(lexL mark n l').map (appL a)=some (t,r)→t.length+r.length≤a.length+l'.length:=fun l' a h'=>by
    cases hq:lexL mark n l' with
    | none=>rw[hq]at h';cases h'
    | some p=>
      obtain⟨t',r'⟩:=p;rw[hq]at h';injection h' with h';injection h' with h1 h2;have:=lexL_len mark n l' t' r' hq;rw[←h1,←h2,List.length_append];show a.length+t'.length+r'.length≤_;omega
   unfold lexL at h;rw[List.length_cons];split at h
   ·injection h with h;injection h with h1 h2;rw[←h1,←h2,List.length_cons];show 0+(l.length+1)≤_;omega
   split at h
   ·have:=sub _ _ h;rw[List.length_tail]at this;show _≤_;rw[show [(39:UInt8)].length=1 from rfl]at this;omega
   split at h
   ·split at h
    ·cases h
    ·rename_i p hp
     have:=sub _ _ h;have h5:=quotedL_len _ _ p.1 p.2 (Nat.le_refl _) hp;omega
   ·have:=sub _ _ h;rw[show [c].length=1 from rfl]at this;omega
theorem quotedL_suf {l:List UInt8} {p:List UInt8×List UInt8} (h:quotedL l=some p):p.2 <:+ l:=by
 rw[List.suffix_iff_eq_drop];exact quotedL_drop _ l p (Nat.le_refl _) h
theorem lexL_suf (mark:Bool):∀(n:Nat) (l:List UInt8) (p:List UInt8×List UInt8),lexL mark n l=some p→p.2 <:+ l
 | 0,l,p,h=>by cases h
 | n+1,[],p,h=>by
   injection h with h;subst h;exact List.suffix_refl _
 | n+1,c::l,p,h=>by
   have sub:∀(l' a:List UInt8),l' <:+ c::l→(lexL mark n l').map (appL a)=some p→p.2 <:+ c::l:=fun l' a hs h'=>by
    obtain⟨p',hq,h'⟩:=Option.map_eq_some_iff.1 h';subst h';exact(lexL_suf mark n l' p' hq).trans hs
   have hc:l <:+ c::l:=List.suffix_cons c l;unfold lexL at h;split at h
   ·injection h with h;subst h;exact List.suffix_refl _
   split at h
   ·exact sub _ _ ((List.tail_suffix l).trans hc) h
   split at h
   ·split at h
    ·cases h
    ·rename_i q hq
     exact sub _ _ ((quotedL_suf hq).trans hc) h
   ·exact sub _ _ hc h
theorem bareM_drop {mark:Bool} {l:List UInt8} {p:List UInt8×List UInt8} (h:bareM mark l=some p):l.drop (l.length - p.2.length)=p.2:=by
 have:=lexL_suf mark _ l p h;rw[List.suffix_iff_eq_drop]at this;exact this.symm
theorem bareM_len {mark:Bool} {l t r:List UInt8} (h:bareM mark l=some (t,r)):t.length+r.length≤l.length:=lexL_len mark _ _ _ _ h
end Go.Proofs.YtpfmmbbggcghiaaGreatDoor
