/- What the card's list of DeskLines gives; a world that meets it. -/
import Derived.Test.YtagfnpdoooachaaGreatDoorDskW
import Derived.Deep.DeepHandedRow
import Derived.LaidHandle
import Derived.Stop.LaidErr
import Derived.Lay
set_option linter.unusedSimpArgs false
set_option linter.unusedVariables false
namespace Go.Proofs.YtagfnpdoooachaaGreatDoor
open Go.RowKit Go.ChangeShapes Go.WideShapes Go.ChangeAt
theorem iface_of_trod {P:Program} {w:World} {sp:Nat→Bool} {fuel:Nat} {t:TypeId} {ms:Array (String×TypeId)} {cs:List Value} {nm:String} {d:DataW Unit} {p:List MemPlace} (ht:P.underlying t=some (.interface ms))
 (h:DataW.trod (fun _=>()) P w 0 sp false fuel t cs=some (.iface nm d,p)):∃ u v,cs=[.iface u v]:=by
 cases fuel with
 | zero=>simp[DataW.trod]at h
 | succ fuel=>
   unfold DataW.trod at h;rw[ht]at h
   match cs,h with
   | [.iface u v],_=>exact⟨u,v,rfl⟩
   | [.nilIface],h=>simp at h
theorem iface_of_head {P:Program} {W:World} {name nm:String} {d:DataW Unit} {rest:List (String×DataW Unit)} {g:Nat} {t:TypeId} {ms:Array (String×TypeId)}
 (hg:P.globalNamed name=some g) (hty:(P.globals[g]?).map (·.type)=some t) (ht:P.underlying t=some (.interface ms)) (h:laidMet P ((name,.iface nm d)::rest) W):∃ u v,W.var? P name=some #[.iface u v]:=by
 obtain⟨ps,⟨g',t',cs,fuel,p,q,hg',ht',hvar,hd,_,_⟩,_⟩:=h;obtain rfl:=Option.some.inj (hg.symm.trans hg');obtain rfl:=Option.some.inj (hty.symm.trans ht');obtain⟨u,v,e⟩:=iface_of_trod ht hd;exact⟨u,v,by rw[hvar];exact congrArg some (Array.toList_inj.1 e)⟩
theorem strs_of_head {P:Program} {W:World} {name:String} {ss:List (List UInt8)} {rest:List (String×DataW Unit)} {g:Nat} {t e:TypeId}
 (hg:P.globalNamed name=some g) (hty:(P.globals[g]?).map (·.type)=some t) (ht:P.underlying t=some (.slice e)) (he:P.underlying e=some .string) (hce:P.cellsOf e=1) (hne:0 < ss.length)
 (h:laidMet P ((name,.slice (ss.map fun s=>.lit (.string s)) [])::rest) W):
 ∃ b o c,ss.length≤c∧W.var? P name=some #[.slice (some ⟨b,o,none⟩) ss.length c]∧∀ j (h:j < ss.length),W.cell? ⟨b,o+j,none⟩=some (.string ⟨ss[j].toArray⟩):=by
 obtain⟨ps,⟨g',t',cs,fuel,p,q,hg',ht',hvar,hd,_,_⟩,_⟩:=h;obtain rfl:=Option.some.inj (hg.symm.trans hg');obtain rfl:=Option.some.inj (hty.symm.trans ht');rcases DataW.trod_slice ht hd with⟨_,h2⟩|⟨a,len,cap,elems,rs,n,_,hcs,hx,hb,hl,hm,hlen,hel,_,_⟩
 ·simp at h2
 ·have e1:(ss.map fun s=>(DataW.lit (.string s):DataW Unit))=elems.map (·.1):=by
   have:=congrArg Prod.fst hx;simp at this;exact this.1
  have hn:len=ss.length:=by
   have:=congrArg List.length e1;simp at this;omega
  subst hn;have key:∀ j (h:j < ss.length),W.cell? (a.add j)=some (.string ⟨ss[j].toArray⟩):=by
   intro j hj;have h1:=hel j hj;have hz:elems[j]? =some (elems[j]'(by omega)):=List.getElem?_eq_getElem (by omega)
   rw[hz,Option.bind_eq_some_iff]at h1;obtain⟨cs',hcs',htr⟩:=h1;rw[hce]at hcs';obtain⟨_,hcl,hat⟩:=World.cells?_some hcs';obtain⟨s,rfl,hs,_⟩:=DataW.trod_string he htr;have e2:(elems[j]'(by omega)).1=.lit (.string ss[j]):=by
    have:(elems.map (·.1))[j]'(by simp;omega)=(ss.map fun s=>(DataW.lit (.string s):DataW Unit))[j]'(by simp;omega):=by congr 1;exact e1.symm
    simpa using this
   rw[hs]at e2;simp at e2;have h0:=hat 0 (by omega)
   have ea:(a.add (j*1)).add 0=a.add j:=by
    rw[Nat.mul_one];unfold Addr.add;simp
   rw[ea]at h0;rw[h0];simp;cases s with
   | mk d=>cases d with
     | mk l=>simp at e2;rw[e2]
  have hspot:a.spot=none:=by
   have hsome:W.cell? a=some (.string ⟨ss[0].toArray⟩):=by
    have:=key 0 hne;unfold Addr.add at this;simpa using this
   unfold World.cell? at hsome;split at hsome
   ·split at hsome
    ·cases hsome
    ·cases hs:a.spot with
     | none=>rfl
     | some q=>simp_all
   ·cases hsome
  refine⟨a.block,a.off,cap,hl,?_,fun j hj=> ?_⟩
  ·rw[hvar];have:a=⟨a.block,a.off,none⟩:=by rw[←hspot]
   rw[←this];exact congrArg some (Array.toList_inj.1 hcs)
  ·have:=key j hj;have e3:a.add j=⟨a.block,a.off+j,none⟩:=by
    unfold Addr.add;split
    ·subst_vars;rw[←hspot];rfl
    ·rfl
   rwa[e3]at this
section
variable {P:Program}
theorem leaf_str {w:World} {sp:Nat→Bool} {fuel:Nat} {t:TypeId} {cs:List Value} {l:List UInt8} {q:List MemPlace} (ht:P.underlying t=some .string) (h:DataW.trod (fun _=>()) P w 0 sp false fuel t cs=some (.lit (.string l),q)):cs=[.string ⟨l.toArray⟩]:=by
 obtain⟨s,rfl,hs,_⟩:=DataW.trod_string ht h;simp at hs;obtain⟨hs,_⟩:=hs;cases s with
 | mk d=>simp at hs;rw[hs]
theorem leaf_int {w:World} {sp:Nat→Bool} {fuel:Nat} {t:TypeId} {cs:List Value} {k:IntKind} {n:Int} {q:List MemPlace} (ht:P.underlying t=some (.int k)) (h:DataW.trod (fun _=>()) P w 0 sp false fuel t cs=some (.lit (.int k n),q)):cs=[.int k n]:=by
 obtain⟨m,rfl,hm,_⟩:=DataW.trod_int ht h;simp at hm;rw[hm.1]
theorem agg_of_head {W:World} {name:String} {ds:List (DataW Unit)} {rest:List (String×DataW Unit)} {g:Nat} {t:TypeId} (hg:P.globalNamed name=some g) (hty:(P.globals[g]?).map (·.type)=some t) (h:laidMet P ((name,.agg ds)::rest) W):
 ∃(cs:List Value) (fuel:Nat) (p:List MemPlace) (sp:Nat→Bool),W.var? P name=some cs.toArray∧DataW.trod (fun _=>()) P W 0 sp false fuel t cs=some (.agg ds,p):=by
 obtain⟨ps,⟨g',t',cs,fuel,p,q,hg',ht',hvar,hd,_,_⟩,_⟩:=h;obtain rfl:=Option.some.inj (hg.symm.trans hg');obtain rfl:=Option.some.inj (hty.symm.trans ht');exact⟨cs.toList,fuel,p,_,by rw[hvar],hd⟩
theorem at_of_take {cs:List Value} {i:Nat} {v:Value} (h:(cs.drop i).take 1=[v]):cs[i]? =some v:=by
 have h1:((cs.drop i).take 1)[0]? =some v:=by rw[h];rfl
 rw[List.getElem?_take,if_pos (by decide),List.getElem?_drop,Nat.add_zero]at h1
 exact h1
theorem field_at {W:World} {sp:Nat→Bool} {fuel:Nat} {t:TypeId} {fs:Array Field} {cs:List Value} {ds:List (DataW Unit)} {p:List MemPlace} (ht:P.underlying t=some (.struct fs)) (h:DataW.trod (fun _=>()) P W 0 sp false fuel t cs=some (.agg ds,p)) (i:Nat) (f:Field) (hf:fs[i]? =some f) (ho:f.offset=i) (hc:P.cellsOf f.type=1) (d:DataW Unit) (hd:ds[i]? =some d):
 ∃(n:Nat) (q:List MemPlace),DataW.trod (fun _=>()) P W 0 sp false n f.type ((cs.drop i).take 1)=some (d,q):=by
 obtain⟨xs,n,_,hx,_,_,hel⟩:=DataW.trod_struct ht h;have e:=hel i f hf;rw[ho,hc]at e;injection hx with hx1 hx2;injection hx1 with hx1;rw[hx1,List.getElem?_map]at hd;cases hxi:xs[i]? with
 | none=>rw[hxi]at hd;cases hd
 | some x=>
   rw[hxi]at hd;obtain rfl:x.1=d:=Option.some.inj hd;exact⟨n,x.2,by rw[e,hxi]⟩
theorem elem_at {W:World} {sp:Nat→Bool} {fuel:Nat} {t e:TypeId} {m:Nat} {cs:List Value} {ds:List (DataW Unit)} {p:List MemPlace} (ht:P.underlying t=some (.array m e)) (h:DataW.trod (fun _=>()) P W 0 sp false fuel t cs=some (.agg ds,p)) (i:Nat) (hi:i < m) (hc:P.cellsOf e=1) (d:DataW Unit) (hd:ds[i]? =some d):
 ∃(n:Nat) (q:List MemPlace),DataW.trod (fun _=>()) P W 0 sp false n e ((cs.drop i).take 1)=some (d,q):=by
 obtain⟨xs,n,_,hx,_,_,hel⟩:=DataW.trod_array ht h;have e1:=hel i hi;rw[hc,Nat.mul_one]at e1;injection hx with hx1 hx2;injection hx1 with hx1;rw[hx1,List.getElem?_map]at hd;cases hxi:xs[i]? with
 | none=>rw[hxi]at hd;cases hd
 | some x=>
   rw[hxi]at hd;obtain rfl:x.1=d:=Option.some.inj hd;exact⟨n,x.2,by rw[e1,hxi]⟩
end
def laidNd:List (String×DataW Unit):=Rows.deskLinesUptoRow.laid
theorem laid_plain {W:World} (h:laidMetH Tryz.prog Rows.deskLinesUptoRow.laid W):laidMet Tryz.prog laidNd W:=by
 unfold laidMetH at h;rw[show(Rows.deskLinesUptoRow.laid.filter fun x=>x.2.handleName?.isSome)=[]from by kernel_rfl]at h
 exact h
theorem mv_of_laidNd {W:World} (h0:laidMet Tryz.prog laidNd W):MV W:=by
 have h1:laidMet Tryz.prog (("internal/strconv.uint64pow10",Lib.tabData .u64 Lib.pow10Tab)::_) W:=(h0.tail).tail;have h2:laidMet Tryz.prog (("strconv.ErrRange",_)::_) W:=h1.tail.tail;have h3:laidMet Tryz.prog (("strconv.ErrSyntax",_)::_) W:=h2.tail;have hA:laidMet Tryz.prog (("linguister/date.ahead",_)::_) W:=h3.tail;have h4:laidMet Tryz.prog (("linguister/msg.kinds",.slice ([[122,101,114,111],[111,110,101],[116,119,111],[102,101,119],[109,97,110,121],[111,116,104,101,114]].map fun s=>.lit (.string s)) [])::_) W:=hA.tail;obtain⟨b,o,c,k1,k2,k3⟩:=strs_of_head (g:=10) (t:=23) (by kernel_rfl) (by kernel_rfl) Tryz.underlying23 Tryz.underlying9 (by kernel_rfl) (by decide) h4
 refine⟨?_,?_,?_,b,o,c,k1,?_,?_,fun j hj=> ?_⟩
 ·exact iface_of_head (g:=7) (t:=47) (by kernel_rfl) (by kernel_rfl) Tryz.underlying47 h3
 ·exact iface_of_head (g:=8) (t:=47) (by kernel_rfl) (by kernel_rfl) Tryz.underlying47 h2
 ·exact Lib.tabIs_of_head (g:=9) (t:=300) (n:=20) (by kernel_rfl) (by kernel_rfl) (by kernel_rfl) Tryz.underlying234 (by kernel_rfl) (by kernel_rfl) h1
 ·exact cellLt (k3 0 (by decide))
 ·have:=World.var?_cell (g:=10) (by kernel_rfl) k2 0
  simpa using this
 ·rw[k3 j (by simpa[kindsB]using hj)]
  have:j < 6:=by simpa[kindsB]using hj
  match j,this with
  | 0,_=>rfl
  | 1,_=>rfl
  | 2,_=>rfl
  | 3,_=>rfl
  | 4,_=>rfl
  | 5,_=>rfl
def patD:List (DataW Unit):=[.lit (.string []),.lit (.string []),.lit (.int .i64 1),.lit (.int .i64 0),.lit (.int .i64 3),.lit (.int .i64 3),.lit (.int .i64 0)]
def symD:List (DataW Unit):=[.lit (.int .u8 46),.lit (.int .u8 44)]
def kndD:List (DataW Unit):=[.lit (.string [122,101,114,111]),.lit (.string [111,110,101]),.lit (.string [116,119,111]),.lit (.string [102,101,119]),.lit (.string [109,97,110,121])]
set_option maxRecDepth 100000 in
theorem ev_of_laidNd {W:World} (h0:laidMet Tryz.prog laidNd W) (hS:W.ShapedOpen Tryz.prog):EvV W:=by
 have hmv:=mv_of_laidNd h0;have h5:laidMet Tryz.prog (("linguister/plural.kinds",.agg kndD)::_) W:=h0.tail.tail.tail.tail.tail.tail.tail.tail;have h6:laidMet Tryz.prog (("linguister/eval.pattern",.agg patD)::_) W:=h5.tail;have h7:laidMet Tryz.prog (("linguister/eval.signs",.agg symD)::_) W:=h6.tail;obtain⟨cs6,f6,p6,sp6,v6,d6⟩:=agg_of_head (g:=1) (t:=112) (by kernel_rfl) (by kernel_rfl) h6
 obtain⟨cs7,f7,p7,sp7,v7,d7⟩:=agg_of_head (g:=2) (t:=114) (by kernel_rfl) (by kernel_rfl) h7
 obtain⟨cs5,f5,p5,sp5,v5,d5⟩:=agg_of_head (g:=0) (t:=100) (by kernel_rfl) (by kernel_rfl) h5
 have cell6:∀(j:Nat) v,cs6[j]? =some v→W.cell? ⟨1,j,none⟩=some v:=fun j v hj=>by
  have:=World.var?_cell (g:=1) (by kernel_rfl) v6 j
  rw[this];simpa using hj
 have cell7:∀(j:Nat) v,cs7[j]? =some v→W.cell? ⟨2,j,none⟩=some v:=fun j v hj=>by
  have:=World.var?_cell (g:=2) (by kernel_rfl) v7 j
  rw[this];simpa using hj
 have cell5:∀(j:Nat) v,cs5[j]? =some v→W.cell? ⟨0,j,none⟩=some v:=fun j v hj=>by
  have:=World.var?_cell (g:=0) (by kernel_rfl) v5 j
  rw[this];simpa using hj
 refine⟨hmv,⟨?_,hmv.syn,hmv.rng,hmv.tab⟩,fun j hj=>cell6 j _ ?_,fun j hj=>cell7 j _ ?_,fun j hj=>cell5 j _ ?_⟩
 ·exact cell_of_shapedOpen_int (zero:=#[.int .i64 0]) (t:=3) (k:=.i64) hS (of_decide_eq_true (by kernel_rfl)) (by kernel_rfl) rfl (by kernel_rfl) (by kernel_rfl) Tryz.underlying3
 ·have hj':j < 7:=hj
  match j,hj' with
  | 0,_=>obtain⟨n,q,e⟩:=field_at Tryz.underlying112 d6 0 _ rfl rfl (by kernel_rfl) _ rfl;exact at_of_take (leaf_str Tryz.underlying9 e)
  | 1,_=>obtain⟨n,q,e⟩:=field_at Tryz.underlying112 d6 1 _ rfl rfl (by kernel_rfl) _ rfl;exact at_of_take (leaf_str Tryz.underlying9 e)
  | 2,_=>obtain⟨n,q,e⟩:=field_at Tryz.underlying112 d6 2 _ rfl rfl (by kernel_rfl) _ rfl;exact at_of_take (leaf_int Tryz.underlying3 e)
  | 3,_=>obtain⟨n,q,e⟩:=field_at Tryz.underlying112 d6 3 _ rfl rfl (by kernel_rfl) _ rfl;exact at_of_take (leaf_int Tryz.underlying3 e)
  | 4,_=>obtain⟨n,q,e⟩:=field_at Tryz.underlying112 d6 4 _ rfl rfl (by kernel_rfl) _ rfl;exact at_of_take (leaf_int Tryz.underlying3 e)
  | 5,_=>obtain⟨n,q,e⟩:=field_at Tryz.underlying112 d6 5 _ rfl rfl (by kernel_rfl) _ rfl;exact at_of_take (leaf_int Tryz.underlying3 e)
  | 6,_=>obtain⟨n,q,e⟩:=field_at Tryz.underlying112 d6 6 _ rfl rfl (by kernel_rfl) _ rfl;exact at_of_take (leaf_int Tryz.underlying3 e)
 ·have hj':j < 2:=hj
  match j,hj' with
  | 0,_=>obtain⟨n,q,e⟩:=field_at Tryz.underlying114 d7 0 _ rfl rfl (by kernel_rfl) _ rfl;exact at_of_take (leaf_int Tryz.underlying5 e)
  | 1,_=>obtain⟨n,q,e⟩:=field_at Tryz.underlying114 d7 1 _ rfl rfl (by kernel_rfl) _ rfl;exact at_of_take (leaf_int Tryz.underlying5 e)
 ·have hj':j < 5:=hj
  match j,hj' with
  | 0,_=>obtain⟨n,q,e⟩:=elem_at Tryz.underlying100 d5 0 (by decide) (by kernel_rfl) _ rfl;exact at_of_take (leaf_str Tryz.underlying9 e)
  | 1,_=>obtain⟨n,q,e⟩:=elem_at Tryz.underlying100 d5 1 (by decide) (by kernel_rfl) _ rfl;exact at_of_take (leaf_str Tryz.underlying9 e)
  | 2,_=>obtain⟨n,q,e⟩:=elem_at Tryz.underlying100 d5 2 (by decide) (by kernel_rfl) _ rfl;exact at_of_take (leaf_str Tryz.underlying9 e)
  | 3,_=>obtain⟨n,q,e⟩:=elem_at Tryz.underlying100 d5 3 (by decide) (by kernel_rfl) _ rfl;exact at_of_take (leaf_str Tryz.underlying9 e)
  | 4,_=>obtain⟨n,q,e⟩:=elem_at Tryz.underlying100 d5 4 (by decide) (by kernel_rfl) _ rfl;exact at_of_take (leaf_str Tryz.underlying9 e)
def aheadL:List (DataW Unit):=[.lit (.int .i64 0),.lit (.int .i64 31),.lit (.int .i64 59),.lit (.int .i64 90),.lit (.int .i64 120),.lit (.int .i64 151),.lit (.int .i64 181),.lit (.int .i64 212),.lit (.int .i64 243),.lit (.int .i64 273),.lit (.int .i64 304),.lit (.int .i64 334),.lit (.int .i64 365)]
set_option maxRecDepth 100000 in
theorem ahead_of_laidNd {W:World} (h0:laidMet Tryz.prog laidNd W):AheadV W:=by
 have hA:laidMet Tryz.prog (("linguister/date.ahead",.agg aheadL)::_) W:=h0.tail.tail.tail.tail.tail.tail;obtain⟨cs,f,p,sp,v,d⟩:=agg_of_head (g:=6) (t:=241) (by kernel_rfl) (by kernel_rfl) hA
 have cell:∀(j:Nat) u,cs[j]? =some u→W.cell? ⟨6,j,none⟩=some u:=fun j u hj=>by
  have:=World.var?_cell (g:=6) (by kernel_rfl) v j
  rw[this];simpa using hj
 intro k hk;refine cell k _ ?_
 match k,hk with
 | 0,_=>obtain⟨n,q,e⟩:=elem_at Tryz.underlying241 d 0 (by decide) (by kernel_rfl) _ rfl;exact at_of_take (leaf_int Tryz.underlying3 e)
 | 1,_=>obtain⟨n,q,e⟩:=elem_at Tryz.underlying241 d 1 (by decide) (by kernel_rfl) _ rfl;exact at_of_take (leaf_int Tryz.underlying3 e)
 | 2,_=>obtain⟨n,q,e⟩:=elem_at Tryz.underlying241 d 2 (by decide) (by kernel_rfl) _ rfl;exact at_of_take (leaf_int Tryz.underlying3 e)
 | 3,_=>obtain⟨n,q,e⟩:=elem_at Tryz.underlying241 d 3 (by decide) (by kernel_rfl) _ rfl;exact at_of_take (leaf_int Tryz.underlying3 e)
 | 4,_=>obtain⟨n,q,e⟩:=elem_at Tryz.underlying241 d 4 (by decide) (by kernel_rfl) _ rfl;exact at_of_take (leaf_int Tryz.underlying3 e)
 | 5,_=>obtain⟨n,q,e⟩:=elem_at Tryz.underlying241 d 5 (by decide) (by kernel_rfl) _ rfl;exact at_of_take (leaf_int Tryz.underlying3 e)
 | 6,_=>obtain⟨n,q,e⟩:=elem_at Tryz.underlying241 d 6 (by decide) (by kernel_rfl) _ rfl;exact at_of_take (leaf_int Tryz.underlying3 e)
 | 7,_=>obtain⟨n,q,e⟩:=elem_at Tryz.underlying241 d 7 (by decide) (by kernel_rfl) _ rfl;exact at_of_take (leaf_int Tryz.underlying3 e)
 | 8,_=>obtain⟨n,q,e⟩:=elem_at Tryz.underlying241 d 8 (by decide) (by kernel_rfl) _ rfl;exact at_of_take (leaf_int Tryz.underlying3 e)
 | 9,_=>obtain⟨n,q,e⟩:=elem_at Tryz.underlying241 d 9 (by decide) (by kernel_rfl) _ rfl;exact at_of_take (leaf_int Tryz.underlying3 e)
 | 10,_=>obtain⟨n,q,e⟩:=elem_at Tryz.underlying241 d 10 (by decide) (by kernel_rfl) _ rfl;exact at_of_take (leaf_int Tryz.underlying3 e)
 | 11,_=>obtain⟨n,q,e⟩:=elem_at Tryz.underlying241 d 11 (by decide) (by kernel_rfl) _ rfl;exact at_of_take (leaf_int Tryz.underlying3 e)
 | 12,_=>obtain⟨n,q,e⟩:=elem_at Tryz.underlying241 d 12 (by decide) (by kernel_rfl) _ rfl;exact at_of_take (leaf_int Tryz.underlying3 e)
theorem desk_of_laid {W:World} (h:laidMetH Tryz.prog Rows.deskLinesUptoRow.laid W) (hS:W.ShapedOpen Tryz.prog):EvV W∧AheadV W:=⟨ev_of_laidNd (laid_plain h) hS,ahead_of_laidNd (laid_plain h)⟩
noncomputable def handled (os:Os):World:=World.holding Tryz.prog os ⟨#[],#[],[]⟩
noncomputable def laidWorld (_:Array Value) (os:Os):World:=(handled os).layVars Tryz.prog laidNd
theorem laidWorld_os (os:Os) (args:Array Value):(laidWorld args os).os=os:=(World.layVars_os _ _ _).trans rfl
theorem laidWorld_data (os:Os) (args:Array Value):laidMet Tryz.prog laidNd ((laidWorld args os).forCall (fun _ _=>0) ⟨#[],args,[]⟩).memory:=by
 have e1:(laidNd.filter fun x=>(laidNd.map (·.1)).contains x.1)=laidNd:=List.filter_eq_self.2 fun x hx=>List.contains_iff_mem.2 (List.mem_map.2 ⟨x,hx,rfl⟩);have e2:(laidNd.filter fun x=> !(laidNd.map (·.1)).contains x.1)=[]:=List.filter_eq_nil_iff.2 fun x hx=>by rw[List.contains_iff_mem.2 (List.mem_map.2 ⟨x,hx,rfl⟩)];simp
 have h:laidMet Tryz.prog laidNd (laidWorld args os):=laidMet_layVars (w0:=handled os) (laidNd.map (·.1)) [] (by rw[e1];rfl) (by rw[e1];kernel_rfl) (by rw[e1];kernel_rfl) (by rw[e2];exact LaidIn.none)
 exact h.of_heap (by simp[World.memory,World.forCall,Input.heap])
theorem laidWorld_met (os:Os) (args:Array Value):laidMetH Tryz.prog Rows.deskLinesUptoRow.laid ((laidWorld args os).forCall (fun _ _=>0) ⟨#[],args,[]⟩).memory:=by
 unfold laidMetH;rw[show(Rows.deskLinesUptoRow.laid.filter fun x=>x.2.handleName?.isSome)=[]from by kernel_rfl]
 exact(show laidMet Tryz.prog laidNd _ from laidWorld_data os args)
section
variable {H:Type} {enc:TypeId×Value→H}
theorem witness_row_zip {C:Checked} {os:Os} {f:FuncId} {fn:Func} {s:OpenSpec} {conds:List PathCond} {apart:Bool} {laid:List (String×DataW Unit)} (modest:Bool) (w0:World) (args:Array Value) (hos:w0.os=os)
 (hv:(w0.forCall (fun _ _=>0) ⟨#[],args,[]⟩).variablesZipB C.prog=true)
 (hr:((w0.forCall (fun _ _=>0) ⟨#[],args,[]⟩).heap.toList.drop C.prog.globals.size).take ((begin C.prog (fun _ _=>0) default).world.heap.size - C.prog.globals.size)=
   (begin C.prog (fun _ _=>0) default).world.heap.toList.drop C.prog.globals.size)
 (hok:Input.okWideB C.prog (w0.forCall (fun _ _=>0) ⟨#[],args,[]⟩) f ⟨#[],args,[]⟩=true)
 (hrow:s.preRow enc C.prog fn conds apart laid (w0.forCall (fun _ _=>0) ⟨#[],args,[]⟩).memory args):
 ∃(w:World) (tape:Tape) (i:Input),w.os=os∧(w.forCall tape i).Shaped C.prog∧i.vars=[]∧Input.okWide C.prog (w.forCall tape i) .any w.heap.size f i∧
  s.preRow enc C.prog fn conds apart laid (w.forCall tape i).memory i.args∧({ modest:=modest }:Assume).holds C.prog (lone (Frame.enter C.prog f i.args .normal) [] (w.forCall tape i)):=
 ⟨w0,fun _ _=>0,⟨#[],args,[]⟩,hos,World.shaped_of_ZipB hv hr,(Input.okWide_of_okWideB (base:=0) hok).1,(Input.okWide_of_okWideB hok).2,hrow,by
   simp only[Assume.holds];exact⟨by simp,by simp,fun _=>Modest.zero,by simp,by simp⟩⟩
end
end Go.Proofs.YtagfnpdoooachaaGreatDoor
