/- Rules, plainly; numbers of a text; ranges as texts. -/
import Derived.Lib.SmallJoins
import Derived.Test.YtagfnpdoooachaaGreatDoorSeqS
import Derived.Lib.ItoaLen
import Derived.Test.YtagfnpdoooachaaGreatDoorDskE
import Derived.Deep.Upon
set_option linter.unusedSimpArgs false
set_option linter.unusedVariables false
set_option maxHeartbeats 3200000
set_option maxRecDepth 100000
namespace Go.Proofs.YtagfnpdoooachaaGreatDoor
open Go.RowKit
open Lib (hid)
structure Rl where
 op:UInt8
 mod:Int
 neg:Bool
 rng:List (Int×Int)
def numR (l:List UInt8):Int:=match Lib.atoiAll l with| .ok v=>v|_=> -1
def rngOk (p:Int×Int):Bool:= !(decide (p.1 < 0) || decide (p.2 < p.1) || decide (1000000 < p.2))
def opsR:List UInt8:=[110,105,118,119,102,116]
def fineR (r:Rl):Bool:=opsR.contains r.op && decide (0≤r.mod) && decide (r.mod≤1000000) && !r.rng.isEmpty && r.rng.all rngOk
def Enc.pair:Enc (Int×Int):=⟨2,16,fun _ _ _ cs p=>cs=[.int .i64 p.1,.int .i64 p.2],fun _ _=>True,fun _=>1⟩
theorem Enc.pair_laws:Enc.pair.Laws:=⟨fun h=>by cases h;rfl,fun h _=>h,fun h _ _=>h⟩
def Enc.rl:Enc Rl:=⟨4,48,fun w lo hi cs r=>∃ v,cs=[.int .u8 r.op.toNat,.int .i64 r.mod,.bool r.neg,v]∧ListOk Enc.pair w lo hi v r.rng,fun _ _=>True,fun _=>1⟩
theorem Enc.rl_laws:Enc.rl.Laws:=
 ⟨fun⟨_,h,_⟩=>by cases h;rfl,fun⟨v,h,k⟩ ha=>⟨v,h,k.keep Enc.pair_laws ha⟩,fun⟨v,h,k⟩ h1 h2=>⟨v,h,k.mono Enc.pair_laws h1 h2⟩⟩
structure RV (w:World):Prop where
 max:∃ m:Int,w.cell? ⟨3,0,none⟩=some (.int .i64 m)
 syn:∃ tp p,w.var? Tryz.prog "strconv.ErrSyntax" =some #[.iface tp p]
 rng:∃ tp p,w.var? Tryz.prog "strconv.ErrRange" =some #[.iface tp p]
 tab:Lib.TabIs Tryz.prog w "internal/strconv.uint64pow10" .u64 Lib.pow10Tab
theorem cell_lt {w:World} {g:Nat} {v:Value} (h:w.cell? ⟨g,0,none⟩=some v):g < w.heap.size:=by
 unfold World.cell? at h;cases ho:w.heap[g]? with
 | none=>simp[ho]at h
 | some o=>exact(Array.getElem?_eq_some_iff.1 ho).1
theorem RV.below {w w':World} (h:RV w) (hb:Below w.heap.size w w'):RV w':=by
 obtain⟨m,hm⟩:=h.max;obtain⟨t1,p1,h1⟩:=h.syn;obtain⟨t2,p2,h2⟩:=h.rng;refine⟨⟨m,(hb.cell (p:=⟨3,0,none⟩) (cell_lt hm)).trans hm⟩,⟨t1,p1,Joins.var_stays (g:=7) (by kernel_rfl) h1 hb (Nat.le_refl _)⟩,⟨t2,p2,Joins.var_stays (g:=8) (by kernel_rfl) h2 hb (Nat.le_refl _)⟩,Joins.tab_stays (g:=9) (by kernel_rfl) h.tab hb (Nat.le_refl _)⟩
theorem number_any (s:ByteArray) (w:World) (hs:s.size≤1000000000) (hv:RV w):
 Calls Tryz.prog 149 #[.string s] w fun e w'=>e=.returned (.int .i64 (numR (bts s)))∧Below w.heap.size w w':=by
 have HA:Hid (Calls Tryz.prog 52 #[.string s] w fun e w'=>(∃ v,e=.returned (.tuple #[.int .i64 v,.nilIface])∧numR (bts s)=v∨∃ t p,e=.returned (.tuple #[.int .i64 v,.iface t p])∧numR (bts s)= -1)∧Below w.heap.size w w'):=hid (by
  obtain⟨t1,p1,h1⟩:=hv.syn;obtain⟨t2,p2,h2⟩:=hv.rng;cases h:Lib.atoiAll s.data.toList with
  | ok v=>
    refine(Tryz.strconv_Atoi_ok s (by omega) v h w).mono ?_
    rintro e w' ⟨rfl,hw⟩;refine⟨⟨v,.inl ⟨rfl,by unfold numR bts;rw[h]⟩⟩,?_⟩
    rcases hw with rfl|⟨t,rfl⟩
    ·exact Below.refl _ _
    ·exact Lib.bytesWorld_below _ _ _
  | range=>
    refine(Tryz.strconv_Atoi_range_var s (by omega) h t2 p2 w h2).mono ?_
    rintro e w' ⟨N,rfl,_,_,hb⟩;exact⟨⟨_,.inr ⟨_,_,rfl,by unfold numR bts;rw[h]⟩⟩,hb⟩
  | _ =>
    refine(Tryz.strconv_Atoi_syntax_var s (by omega) h t1 p1 w h1).mono ?_
    rintro e w' ⟨N,rfl,_,_,hb⟩;exact⟨⟨0,.inr ⟨_,_,rfl,by unfold numR bts;rw[h]⟩⟩,hb⟩)
 clear hv hs
 go_enter Tryz.func149,Tryz.ntmps149
 go_wp2_with fail
 refine HA.out.mono ?_;clear HA;rintro e w1 ⟨⟨v,⟨rfl,hn⟩|⟨t,p,rfl,hn⟩⟩,hb⟩
 ·have HB:=hid hb;have HN:=hid hn;clear hb hn
  go_wp2_with fail
  go_ret
  exact⟨by rw[HN.out];rfl,HB.out⟩
 ·have HB:=hid hb;have HN:=hid hn;clear hb hn
  go_wp2_with fail
  go_ret
  exact⟨by rw[HN.out];rfl,HB.out⟩
end Go.Proofs.YtagfnpdoooachaaGreatDoor
namespace Go.Proofs.YtagfnpdoooachaaGreatDoor
open Go.RowKit Go.Sort
open Lib (hid)
theorem strR_app (a b:List UInt8):str (a++b)=str a++str b:=bts_inj (by simp[bts,str,ByteArray.data_append])
def rangedR (p:Int×Int):List UInt8:=if p.1=p.2 then Lib.itoa p.1 else Lib.itoa p.1++[46,46]++Lib.itoa p.2
theorem itoa_any (n:Int) (w:World) (h0:0≤n) (h1:n≤1000000) (hv:RV w):Calls Tryz.prog 62 #[.int .i64 n] w fun e w'=>e=.returned (.string (str (Lib.itoa n)))∧Below w.heap.size w w':=
 (Tryz.strconv_Itoa n (by omega) (by omega) w hv.tab).mono fun e w' ⟨he,k,os,hw⟩=>⟨he,by rw[hw];exact⟨rfl,rfl,rfl,by simp[grow,World.drewN],fun i hi=>heap_grow_old (w.drewN k) os hi⟩⟩
theorem itoa_small (n:Int) (h0:0≤n) (h1:n≤1000000):(Lib.itoa n).length≤21:=Lib.itoa_length_le n (by omega) (by omega)
structure RgSt (w:World) (a b:Int) (W:World):Prop where
 below:Below w.heap.size w W
 fst:W.cell? ⟨w.heap.size,0,none⟩=some (.int .i64 a)
 snd:W.cell? ⟨w.heap.size,1,none⟩=some (.int .i64 b)
theorem RgSt.on {w:World} {a b:Int} {W W':World} (h:RgSt w a b W) (hb:Below W.heap.size W W'):RgSt w a b W':=
 ⟨h.below.trans (hb.mono h.below.size),(hb.cell (p:=⟨w.heap.size,0,none⟩) (cell_lt h.fst)).trans h.fst,(hb.cell (p:=⟨w.heap.size,1,none⟩) (cell_lt h.fst)).trans h.snd⟩
theorem RgSt.drew {w:World} {a b:Int} {W:World} (h:RgSt w a b W):RgSt w a b W.drew:=⟨below_drewN h.below 1,h.fst,h.snd⟩
theorem ranged_any (p:Int×Int) (w:World) (hp:rngOk p=true) (hv:RV w):
 Calls Tryz.prog 199 #[.agg #[.int .i64 p.1,.int .i64 p.2]] w fun e w'=>e=.returned (.string (str (rangedR p)))∧Below w.heap.size w w':=by
 obtain⟨a,b⟩:=p;have hp':0≤a∧a≤b∧b≤1000000:=by
  unfold rngOk at hp;simp at hp;omega
 obtain⟨h0,h1,h2⟩:=hp';have HIa:Hid (∀ W,Below w.heap.size w W→Calls Tryz.prog 62 #[.int .i64 a] W fun e w'=>e=.returned (.string (str (Lib.itoa a)))∧Below W.heap.size W w'):=hid fun W hW=>itoa_any a W h0 (by omega) (hv.below hW)
 have HIb:Hid (∀ W,Below w.heap.size w W→Calls Tryz.prog 62 #[.int .i64 b] W fun e w'=>e=.returned (.string (str (Lib.itoa b)))∧Below W.heap.size W w'):=hid fun W hW=>itoa_any b W (by omega) h2 (hv.below hW)
 have la:=itoa_small a h0 (by omega)
 have lb:=itoa_small b (by omega) h2
 have hR:Hid (rangedR (a,b)=if a=b then Lib.itoa a else Lib.itoa a++[46,46]++Lib.itoa b):=hid rfl
 clear hv hp;generalize hIa:Lib.itoa a=ia at *;generalize hIb:Lib.itoa b=ib at *;have sa:(str ia).size=ia.length:=str_size _;have sb:(str ib).size=ib.length:=str_size _;clear hIa hIb;dsimp only;obtain⟨W1,eW1⟩:∃ W1,W1=w.alloc (.cells #[.int .i64 a,.int .i64 b] 222):=⟨_,rfl⟩;have hb1:Below w.heap.size w W1:=by rw[eW1];exact(Below.refl _ _).alloc (Nat.le_refl _) _
 have m1:Blk W1 w.heap.size 222 #[.int .i64 a,.int .i64 b]:=by rw[eW1];exact Blk.new _ _ _
 have HB1:=hid hb1;have M1:=hid m1;have HW1:=hid eW1;have k0:W1.cell? ⟨w.heap.size,0,none⟩=some (.int .i64 a):=(m1.cell 0).trans rfl;have k1:W1.cell? ⟨w.heap.size,1,none⟩=some (.int .i64 b):=(m1.cell 1).trans rfl;clear eW1 hb1 m1
 go_enter Tryz.func199,Tryz.ntmps199
 go_upto_region 1 with fail
 rw[←HW1.out];clear HW1
 by_cases hab:a=b
 ·have hq:(a == b)=true:=by simp[hab]
  have C:=hid (HIa.out _ HB1.out);have HRs:=hid (hR.out.trans (if_pos hab));clear hR hab HIb
  go_wp2_with fail
  refine C.out.mono ?_;rintro e w2 ⟨rfl,hb2⟩;have HB2:=hid (HB1.out.trans (hb2.mono HB1.out.size));clear hb2
  go_wp2_with fail
  go_ret
  exact⟨by rw[HRs.out];rfl,HB2.out⟩
 ·have hq:(a == b)=false:=by simp[hab]
  have HRs:=hid (hR.out.trans (if_neg hab));have z1:¬(9223372036854775807 < ia.length+2):=by omega
  have z2:¬(9223372036854775807 < ia.length+2+ib.length):=by omega
  have hst:str ia++(⟨#[46,46]⟩:ByteArray)++str ib=str (ia++[46,46]++ib):=by rw[strR_app,strR_app];rfl
  clear hR hab;have HCa:Hid (∀ W,RgSt w a b W→Calls Tryz.prog 62 #[.int .i64 a] W fun e w'=>e=.returned (.string (str ia))∧RgSt w a b w'):=hid fun W hW=>(HIa.out W hW.below).mono fun e w' ⟨he,hb⟩=>⟨he,hW.on hb⟩;have HCb:Hid (∀ W,RgSt w a b W→Calls Tryz.prog 62 #[.int .i64 b] W fun e w'=>e=.returned (.string (str ib))∧RgSt w a b w'):=hid fun W hW=>(HIb.out W hW.below).mono fun e w' ⟨he,hb⟩=>⟨he,hW.on hb⟩;have hrs:RgSt w a b W1:=⟨HB1.out,k0,k1⟩;clear HIa HIb HB1 M1;have HST:=hid hst;clear hst
  go_wp2_with fail
  go_region_with ((go_at_call 62;first|with_reducible refine(HCa.out _ hrs).mono ?_|with_reducible refine(HCb.out _ hrs).mono ?_|with_reducible refine(HCa.out _ hrs.drew).mono ?_|with_reducible refine(HCb.out _ hrs.drew).mono ?_);rintro e wx ⟨rfl,hrs⟩;have k0:=hrs.fst;have k1:=hrs.snd)
  all_goals (clear HCa HCb;go_wp2_with fail;go_ret;exact⟨by rw[HRs.out,←HST.out];rfl,hrs.below⟩)
end Go.Proofs.YtagfnpdoooachaaGreatDoor
namespace Go.Proofs.YtagfnpdoooachaaGreatDoor
open Go.RowKit
open Lib (hid)
theorem wpList_append_any {P:Program} {w:World} {ops:Array Oper} {rest:List Oper} {o:Oper} {a:Act} {Q:Exit→Act→World→Prop} (hgd:o.guard=none) (s x:Operand) (t:TypeId)
 (ho:o.op=.call { callee:=.builtin .append,args:=#[s,x],argTypes:=#[t,t] })
 (base:Nat) (e:TypeId) {z:Value} {size bytes:Nat} (ht:P.underlying t=some (.slice e)) (hi:(P.info? e).map (fun i=>(i.zero,i.size,i.bytes))=some (some z,size,bytes))
 (hzs:z.cells.size=size) (hsz:0 < size)
 {v:Value} {n:Nat} (xs:List Value) (hs:a.eval s=v) (hown:w.ownsRow base e size v n xs)
 {A:Option Addr} {m c:Nat} (news:List Value) (hx:a.eval x=.slice A m c) (hl:news.length=m*size)
 (hnews:m=0∨∃ b o,A=some ⟨b,o,none⟩∧∀ j u,news[j]? =some u→w.cell? ⟨b,o+j,none⟩=some u) (h1:∀ u∈news,u.oneCell'=true)
 (h63:n+m≤maxLen) (hbytes:(n+m)*bytes≤140737488355328) (hbase:base≤w.heap.size)
 (h:∀ v' w',w'.ownsRow base e size v' (n+m) (xs++news)→w.grownBy w' v.ownBlock→(v'.ownBlock=v.ownBlock∨v'.ownBlock=some w.heap.size)→wpList P ops Q rest (a.put o.dst v') w'):
 wpList P ops Q (o::rest) a w:=by
 obtain⟨i,hi,hz0,hz1,hz2⟩:=info_parts hi
 by_cases hm:m=0
 ·subst hm;have hnil:news=[]:=List.length_eq_zero_iff.1 (by omega)
  subst hnil;refine wpList_plain hgd fun K hK=> ?_;have hh:=h v w (by simpa using hown) (World.grownBy.refl _ _) (.inl rfl)
  obtain⟨B,cap,rfl,hcap⟩:=own_slice hown;have hS:Src P i.size t (.slice A 0 c) 0 [] w:=by
   cases A with
   | none=>exact Src.ofNil w ht c
   | some ad=>exact Src.ofSlice w ht ad 0 c [] (by simp) (fun j u hj=>by simp at hj) (fun u hu=>by cases hu)
  have hrun:=run_append_nothing (P:=P) w t t o.type e i ht hi B n cap hcap _ hS;unfold Oper.wp execOp;simp only[ho,resolve,invoke,builtin,Sem.run_bind,Sem.run_pure,Result.andThen_ok,List.map_toArray,List.map_cons,List.map_nil,hs,hx,hrun];exact hK _ _ hh
 ·rcases hnews with h0|⟨b,o',rfl,hc⟩
  ·exact absurd h0 hm
  refine wpList_append_own_at (P:=P) w hgd s x t ho base e i z size bytes ht hi hz0 hz1 hz2 hzs hsz v n xs hs hown ⟨b,o',none⟩ m c news hx hl (fun j u hj=> ?_) h1 h63 hbytes hbase fun v' w' p1 p2 _ p4=>h v' w' p1 p2 p4;have e1:((⟨b,o',none⟩:Addr).add j)=⟨b,o'+j,none⟩:=by
   unfold Addr.add
   by_cases h0:j=0
   ·rw[if_pos h0,h0];rfl
   ·rw[if_neg h0]
  rw[e1];exact hc j u hj
theorem own_nil {w:World} {base:Nat} {e:TypeId} {size:Nat}:w.ownsRow base e size (.slice none 0 0) 0 []:=⟨by simp,.inl ⟨rfl,rfl⟩⟩
theorem news_strs {w:World} {lo hi:Nat} {A:Option Addr} {c:Nat} {l:List ByteArray} (h:ListOk Enc.str w lo hi (.slice A l.length c) l):
 l.length=0∨∃ b o,A=some ⟨b,o,none⟩∧∀ j u,(l.map Value.string)[j]? =some u→w.cell? ⟨b,o+j,none⟩=some u:=by
 by_cases h0:l.length=0
 ·exact .inl h0
 ·obtain⟨b,o,rfl,_,_,_⟩:=h.strAt 0 (by omega)
  refine .inr ⟨b,o,rfl,fun j u hj=> ?_⟩;rw[List.getElem?_map]at hj;cases hq:l[j]? with
  | none=>rw[hq]at hj;cases hj
  | some y=>
    rw[hq]at hj;simp only[Option.map_some,Option.some.injEq]at hj;subst hj;obtain⟨hjl,rfl⟩:=List.getElem?_eq_some_iff.1 hq;obtain⟨b',o',he,_,_,hc⟩:=h.strAt j hjl;injection he with he;injection he with e1 e2;subst e1;subst e2;exact hc
theorem strs_oneCell (l:List ByteArray):∀ u∈l.map Value.string,u.oneCell'=true:=by
 intro u hu;obtain⟨y,_,rfl⟩:=List.mem_map.1 hu
 rfl
theorem one_newsJ (w:World) (X:ByteArray) (t:TypeId):∀ q u,([Value.string X]:List Value)[q]? =some u→(w.alloc (.cells #[.string X] t)).cell? ⟨w.heap.size,0+q,none⟩=some u:=fun q u hq=>by
 rw[Nat.zero_add,(Blk.new w t #[.string X]).cell q];simpa using hq
theorem own_ltJ {w:World} {base:Nat} {e:TypeId} {size:Nat} {v:Value} {n:Nat} {xs:List Value} (h:w.ownsRow base e size v n xs):∀ k,v.ownBlock=some k→base≤k:=fun _ hk=>(own_lt h hk).1
theorem info_strJ:(Tryz.prog.info? 9).map (fun i=>(i.zero,i.size,i.bytes))=some (some (.string ByteArray.empty),1,16):=by kernel_rfl
theorem ListOk.pairAt {w:World} {lo hi:Nat} {A:Option Addr} {n c:Nat} {l:List (Int×Int)} (h:ListOk Enc.pair w lo hi (.slice A n c) l) (i:Nat) (hl:i < l.length):
 ∃ b o,A=some ⟨b,o,none⟩∧lo≤b∧b < hi∧w.cell? ⟨b,o+i*2,none⟩=some (.int .i64 l[i].1)∧w.cell? ⟨b,o+i*2+1,none⟩=some (.int .i64 l[i].2):=by
 obtain⟨A',c',hv,_,hi'⟩:=h;injection hv with hv1 _ _;subst hv1;obtain⟨b,o,cs,hA,h1,h2,h3,h4⟩:=hi' i hl;have h4':cs=[.int .i64 l[i].1,.int .i64 l[i].2]:=h4;subst h4';exact⟨b,o,hA,h1,h2,h3 0 _ rfl,h3 1 _ rfl⟩
theorem ListOk.rlAt {w:World} {lo hi:Nat} {A:Option Addr} {n c:Nat} {l:List Rl} (h:ListOk Enc.rl w lo hi (.slice A n c) l) (i:Nat) (hl:i < l.length):
 ∃ b o v,A=some ⟨b,o,none⟩∧lo≤b∧b < hi∧w.cell? ⟨b,o+i*4,none⟩=some (.int .u8 l[i].op.toNat)∧w.cell? ⟨b,o+i*4+1,none⟩=some (.int .i64 l[i].mod)∧w.cell? ⟨b,o+i*4+2,none⟩=some (.bool l[i].neg)∧w.cell? ⟨b,o+i*4+3,none⟩=some v∧ListOk Enc.pair w lo hi v l[i].rng:=by
 obtain⟨A',c',hv,_,hi'⟩:=h;injection hv with hv1 _ _;subst hv1;obtain⟨b,o,cs,hA,h1,h2,h3,v,h4,h5⟩:=hi' i hl;subst h4;exact⟨b,o,v,hA,h1,h2,h3 0 _ rfl,h3 1 _ rfl,h3 2 _ rfl,h3 3 _ rfl,h5⟩
theorem ListOk.listAt {α:Type} {E:Enc α} {w:World} {lo hi:Nat} {A:Option Addr} {n c:Nat} {l:List (List α)} (h:ListOk (Enc.list E) w lo hi (.slice A n c) l) (i:Nat) (hl:i < l.length):
 ∃ b o v,A=some ⟨b,o,none⟩∧lo≤b∧b < hi∧w.cell? ⟨b,o+i,none⟩=some v∧ListOk E w lo hi v l[i]:=by
 obtain⟨A',c',hv,_,hi'⟩:=h;injection hv with hv1 _ _;subst hv1;obtain⟨b,o,cs,hA,h1,h2,h3,v,h4,h5⟩:=hi' i hl;subst h4;have e:Enc.sz (Enc.list E)=1:=rfl;have:=h3 0 _ rfl;rw[e,Nat.mul_one,Nat.add_zero]at this;exact⟨b,o,v,hA,h1,h2,this,h5⟩
def joinT {α:Type} (T:α→List UInt8) (l:List α) (sep:List UInt8):List UInt8:=Lib.join (l.map T) sep
theorem join_anyJ (v:Value) (ls:List (List UInt8)) (sep:List UInt8) (base:Nat) (w:World) (h:w.ownsRow base 9 1 v ls.length (ls.map fun x=>Value.string (str x))) (hn:ls.length≤10000000) (hj:(Lib.join ls sep).length≤1000000000):
 Calls Tryz.prog 43 #[v,.string (str sep)] w fun e w'=>e=.returned (.string (str (Lib.join ls sep)))∧Below w.heap.size w w':=by
 have hs:(ls.map str).map (·.data.toList)=ls:=by
  rw[List.map_map]
  conv=>rhs;rw[←List.map_id ls]
  exact List.map_congr_left fun x _=>bts_str x
 by_cases h0:ls.length=0
 ·obtain rfl:ls=[]:=List.length_eq_zero_iff.1 h0;obtain⟨A,c,rfl,_⟩:=own_slice h;refine(Tryz.strings_Join_none A c (str sep) w).mono ?_;rintro e w' ⟨rfl,rfl⟩;exact⟨rfl,Below.refl _ _⟩
 ·have hl:=ListOk.strs_of_own (l:=ls.map str) (lo:=base) (hi:=w.heap.size) (by rw[List.length_map,List.map_map];exact h) (Nat.le_refl _) (Nat.le_refl _)
  obtain⟨A,c,rfl,hc⟩:=hl.form;obtain⟨b,o,rfl,_,hb,_⟩:=hl.strAt 0 (by rw[List.length_map];omega)
  have h1:=Tryz.strings_Join b o c (ls.map str) (str sep) w (fun j x hx=>by
   have hj:j < (ls.map str).length:=(List.getElem?_eq_some_iff.1 hx).1;obtain⟨b',o',hA,_,_,x0⟩:=hl.strAt j hj;injection hA with hA;injection hA with e1 e2;subst e1;subst e2;rw[x0];rw[List.getElem?_eq_getElem hj]at hx;injection hx with hx;rw[hx]) hb (by rw[List.length_map];omega) hc (by rw[hs];exact Nat.le_trans hj (by decide))
  rw[hs]at h1;exact h1
theorem joinedP_any (l:List (Int×Int)) (v:Value) (sep:List UInt8) (T:(Int×Int)→List UInt8) (lo:Nat) (w:World) (hv:ListOk Enc.pair w lo w.heap.size v l) (hn:l.length≤10000000) (hj:(joinT T l sep).length≤1000000000)
 (HT:Hid (∀ x∈l,∀ W,Below w.heap.size w W→Calls Tryz.prog 199 #[.agg #[.int .i64 x.1,.int .i64 x.2]] W fun e w'=>e=.returned (.string (str (T x)))∧Below W.heap.size W w')):
 Calls Tryz.prog 198 #[v,.string (str sep),.func (.func 199) #[] #[]] w fun e w'=>e=.returned (.string (str (joinT T l sep)))∧Below w.heap.size w w':=by
 obtain⟨A,c,rfl,hc⟩:=hv.form;have HV:Hid (∀ W,Below w.heap.size w W→ListOk Enc.pair W lo w.heap.size (.slice A l.length c) l):=hid fun W hW=>hv.below Enc.pair_laws hW;have HJ:=hid hj;clear hv hj
 go_enter Tryz.func198,Tryz.ntmps198
 go_wp2_with fail
 go_loopw [7,9,12] (fun o _ i wr=>∃ j:Nat,j≤l.length∧i=.int .i64 (j:Int)∧wr.ownsRow w.heap.size 9 1 o ((l.take j).map T).length (((l.take j).map T).map fun x=>Value.string (str x))∧Below w.heap.size w wr) (fun _ _ i _=>l.length - (intOf i).toNat)
 case atStart=>exact⟨0,Nat.zero_le _,rfl,own_nil,Below.refl _ _⟩
 case round=>
  obtain⟨j,hj,rfl,hown,hb⟩:=hrel;have HO:=hid hown;have HB:=hid hb;have hbs:=hb.size;have htl:((l.take j).map T).length=j:=by rw[List.length_map,List.length_take];omega
  obtain⟨B,cc,rfl,_⟩:=own_slice hown
  by_cases hlt:j < l.length
  ·have hx:l[j]∈l:=List.getElem_mem hlt;have htk:(l.take (j+1)).map T=(l.take j).map T++[T l[j]]:=by rw[List.take_succ_eq_append_getElem hlt,List.map_append];rfl
   have HTk:=hid htk;have HTj:=hid (HT.out l[j] hx);rw[htl]at hown ⊢;have HO:=hid hown;obtain⟨b0,o0,rfl,hb1,hb2,x0,x1⟩:=(HV.out _ hb).pairAt j hlt;generalize l[j]=e at *;obtain⟨e0,e1⟩:=e;dsimp only at x0 x1 HTj HTk;have HTw:=hid (HTj.out (wr.alloc (.cells #[.int .i64 e0,.int .i64 e1] 222)) (hb.alloc hbs _));clear hown hb htk hx;have i1:(0:Int)≤(j:Int):=Int.natCast_nonneg j;have i2:(j:Int) < (l.length:Int):=by omega
   clear HTj HT
   go_wp2_with fail
   refine HTw.out.mono ?_;clear HTw;rintro e w1 ⟨rfl,hb1'⟩;have HB1:=hid ((HB.out.alloc hbs _).trans (hb1'.mono (by simp;omega)))
   have HO1:=hid (own_below HO.out ((Below.refl _ _).alloc (Nat.le_refl _) _ |>.trans (hb1'.mono (by simp))) (Nat.le_refl _))
   have hbs1:=HB1.out.size;clear hb1'
   go_wp2_with (at_builtin;refine wpList_append_any rfl _ _ 23 rfl w.heap.size 9 Tryz.underlying23 info_strJ rfl (by decide) (((l.take j).map T).map fun x=>Value.string (str x)) rfl (HO1.out.alloc _) [.string (str (T (e0,e1)))] rfl rfl (.inr ⟨_,_,rfl,one_newsJ _ _ _⟩) (by simp[Value.oneCell']) (by unfold maxLen;omega) (by omega) (by simp;omega) ?_)
   intro v3 w3 hown3 hgrow3 _;have hle:((l.take (j+1)).map T).length=j+1:=by rw[List.length_map,List.length_take];omega
   have HO3:Hid (w3.ownsRow w.heap.size 9 1 v3 ((l.take (j+1)).map T).length (((l.take (j+1)).map T).map fun x=>Value.string (str x))):=hid (by
    rw[hle,HTk.out,List.map_append];simpa[List.map_take,Function.comp_def]using hown3)
   have HB3:=hid ((HB1.out.alloc hbs1 _).grown hgrow3 (by simp;omega) (own_ltJ HO1.out))
   clear hown3 hgrow3 hle
   go_wp2_with fail
   go_roundw
   case rel=>exact⟨j+1,by omega,by go_num,HO3.out,HB3.out⟩
   case measure=>simp[intOf];omega
  ·obtain rfl:j=l.length:=by omega
   rw[List.take_length]at HO htl;have HJo:=hid (join_anyJ _ (l.map T) sep w.heap.size wr HO.out (by rw[List.length_map];exact hn) HJ.out)
   rw[htl]at HJo;rw[List.take_length,htl];clear hown hb HO htl
   go_wp2_with fail
   refine HJo.out.mono ?_;clear HJo;rintro e w2 ⟨rfl,hb2⟩;have HB2:=hid (HB.out.trans (hb2.mono HB.out.size));clear hb2
   go_wp2_with fail
   go_ret
   exact⟨rfl,HB2.out⟩
theorem joinedR_any (l:List Rl) (v:Value) (sep:List UInt8) (T:Rl→List UInt8) (lo:Nat) (w:World) (hv:ListOk Enc.rl w lo w.heap.size v l) (hn:l.length≤10000000) (hj:(joinT T l sep).length≤1000000000)
 (HT:Hid (∀ x∈l,∀ W,Below w.heap.size w W→∀ V,ListOk Enc.pair W lo W.heap.size V x.rng→Calls Tryz.prog 153 #[.agg #[.int .u8 x.op.toNat,.int .i64 x.mod,.bool x.neg,V]] W fun e w'=>e=.returned (.string (str (T x)))∧Below W.heap.size W w')):
 Calls Tryz.prog 152 #[v,.string (str sep),.func (.func 153) #[] #[]] w fun e w'=>e=.returned (.string (str (joinT T l sep)))∧Below w.heap.size w w':=by
 obtain⟨A,c,rfl,hc⟩:=hv.form;have HV:Hid (∀ W,Below w.heap.size w W→ListOk Enc.rl W lo w.heap.size (.slice A l.length c) l):=hid fun W hW=>hv.below Enc.rl_laws hW;have HJ:=hid hj;clear hv hj
 go_enter Tryz.func152,Tryz.ntmps152
 go_wp2_with fail
 go_loopw [7,9,12] (fun o _ i wr=>∃ j:Nat,j≤l.length∧i=.int .i64 (j:Int)∧wr.ownsRow w.heap.size 9 1 o ((l.take j).map T).length (((l.take j).map T).map fun x=>Value.string (str x))∧Below w.heap.size w wr) (fun _ _ i _=>l.length - (intOf i).toNat)
 case atStart=>exact⟨0,Nat.zero_le _,rfl,own_nil,Below.refl _ _⟩
 case round=>
  obtain⟨j,hj,rfl,hown,hb⟩:=hrel;have HO:=hid hown;have HB:=hid hb;have hbs:=hb.size;have htl:((l.take j).map T).length=j:=by rw[List.length_map,List.length_take];omega
  obtain⟨B,cc,rfl,_⟩:=own_slice hown
  by_cases hlt:j < l.length
  ·have hx:l[j]∈l:=List.getElem_mem hlt;have htk:(l.take (j+1)).map T=(l.take j).map T++[T l[j]]:=by rw[List.take_succ_eq_append_getElem hlt,List.map_append];rfl
   have HTk:=hid htk;have HTj:=hid (HT.out l[j] hx);rw[htl]at hown ⊢;have HO:=hid hown;obtain⟨b0,o0,V,rfl,hb1,hb2,x0,x1,x2,x3,hV⟩:=(HV.out _ hb).rlAt j hlt;generalize l[j]=e at *;obtain⟨e0,e1,e2,e3⟩:=e;dsimp only at x0 x1 x2 x3 hV HTj HTk;obtain⟨VA,Vc,rfl,_⟩:=hV.form;have HTw:=hid (HTj.out (wr.alloc (.cells #[.int .u8 e0.toNat,.int .i64 e1,.bool e2,.slice VA e3.length Vc] 162)) (hb.alloc hbs _) _ ((hV.keep Enc.pair_laws (Alk.of_below ((Below.refl _ wr).alloc (Nat.le_refl _) _) |>.mono (Nat.zero_le _) hbs)).mono Enc.pair_laws (Nat.le_refl _) (by simp;omega)))
   clear hV;clear hown hb htk hx;have i1:(0:Int)≤(j:Int):=Int.natCast_nonneg j;have i2:(j:Int) < (l.length:Int):=by omega
   clear HTj HT
   go_wp2_with fail
   refine HTw.out.mono ?_;clear HTw;rintro e w1 ⟨rfl,hb1'⟩;have HB1:=hid ((HB.out.alloc hbs _).trans (hb1'.mono (by simp;omega)))
   have HO1:=hid (own_below HO.out ((Below.refl _ _).alloc (Nat.le_refl _) _ |>.trans (hb1'.mono (by simp))) (Nat.le_refl _))
   have hbs1:=HB1.out.size;clear hb1'
   go_wp2_with (at_builtin;refine wpList_append_any rfl _ _ 23 rfl w.heap.size 9 Tryz.underlying23 info_strJ rfl (by decide) (((l.take j).map T).map fun x=>Value.string (str x)) rfl (HO1.out.alloc _) [.string (str (T ⟨e0,e1,e2,e3⟩))] rfl rfl (.inr ⟨_,_,rfl,one_newsJ _ _ _⟩) (by simp[Value.oneCell']) (by unfold maxLen;omega) (by omega) (by simp;omega) ?_)
   intro v3 w3 hown3 hgrow3 _;have hle:((l.take (j+1)).map T).length=j+1:=by rw[List.length_map,List.length_take];omega
   have HO3:Hid (w3.ownsRow w.heap.size 9 1 v3 ((l.take (j+1)).map T).length (((l.take (j+1)).map T).map fun x=>Value.string (str x))):=hid (by
    rw[hle,HTk.out,List.map_append];simpa[List.map_take,Function.comp_def]using hown3)
   have HB3:=hid ((HB1.out.alloc hbs1 _).grown hgrow3 (by simp;omega) (own_ltJ HO1.out))
   clear hown3 hgrow3 hle
   go_wp2_with fail
   go_roundw
   case rel=>exact⟨j+1,by omega,by go_num,HO3.out,HB3.out⟩
   case measure=>simp[intOf];omega
  ·obtain rfl:j=l.length:=by omega
   rw[List.take_length]at HO htl;have HJo:=hid (join_anyJ _ (l.map T) sep w.heap.size wr HO.out (by rw[List.length_map];exact hn) HJ.out)
   rw[htl]at HJo;rw[List.take_length,htl];clear hown hb HO htl
   go_wp2_with fail
   refine HJo.out.mono ?_;clear HJo;rintro e w2 ⟨rfl,hb2⟩;have HB2:=hid (HB.out.trans (hb2.mono HB.out.size));clear hb2
   go_wp2_with fail
   go_ret
   exact⟨rfl,HB2.out⟩
theorem joinedL_any (l:List (List Rl)) (v:Value) (sep:List UInt8) (T:(List Rl)→List UInt8) (lo:Nat) (w:World) (hv:ListOk (Enc.list Enc.rl) w lo w.heap.size v l) (hn:l.length≤10000000) (hj:(joinT T l sep).length≤1000000000)
 (HT:Hid (∀ x∈l,∀ W,Below w.heap.size w W→∀ V,ListOk Enc.rl W lo W.heap.size V x→Calls Tryz.prog 151 #[V] W fun e w'=>e=.returned (.string (str (T x)))∧Below W.heap.size W w')):
 Calls Tryz.prog 150 #[v,.string (str sep),.func (.func 151) #[] #[]] w fun e w'=>e=.returned (.string (str (joinT T l sep)))∧Below w.heap.size w w':=by
 obtain⟨A,c,rfl,hc⟩:=hv.form;have HV:Hid (∀ W,Below w.heap.size w W→ListOk (Enc.list Enc.rl) W lo w.heap.size (.slice A l.length c) l):=hid fun W hW=>hv.below (Enc.list_laws Enc.rl_laws) hW;have HJ:=hid hj;clear hv hj
 go_enter Tryz.func150,Tryz.ntmps150
 go_wp2_with fail
 go_loopw [7,9,12] (fun o _ i wr=>∃ j:Nat,j≤l.length∧i=.int .i64 (j:Int)∧wr.ownsRow w.heap.size 9 1 o ((l.take j).map T).length (((l.take j).map T).map fun x=>Value.string (str x))∧Below w.heap.size w wr) (fun _ _ i _=>l.length - (intOf i).toNat)
 case atStart=>exact⟨0,Nat.zero_le _,rfl,own_nil,Below.refl _ _⟩
 case round=>
  obtain⟨j,hj,rfl,hown,hb⟩:=hrel;have HO:=hid hown;have HB:=hid hb;have hbs:=hb.size;have htl:((l.take j).map T).length=j:=by rw[List.length_map,List.length_take];omega
  obtain⟨B,cc,rfl,_⟩:=own_slice hown
  by_cases hlt:j < l.length
  ·have hx:l[j]∈l:=List.getElem_mem hlt;have htk:(l.take (j+1)).map T=(l.take j).map T++[T l[j]]:=by rw[List.take_succ_eq_append_getElem hlt,List.map_append];rfl
   have HTk:=hid htk;have HTj:=hid (HT.out l[j] hx);rw[htl]at hown ⊢;have HO:=hid hown;obtain⟨b0,o0,V,rfl,hb1,hb2,x0,hV⟩:=(HV.out _ hb).listAt j hlt;generalize l[j]=e at *;obtain⟨VA,Vc,rfl,_⟩:=hV.form;have HTw:=hid (HTj.out wr hb _ (hV.mono Enc.rl_laws (Nat.le_refl _) hbs));clear hV;clear hown hb htk hx;have i1:(0:Int)≤(j:Int):=Int.natCast_nonneg j;have i2:(j:Int) < (l.length:Int):=by omega
   clear HTj HT
   go_wp2_with fail
   refine HTw.out.mono ?_;clear HTw;rintro e w1 ⟨rfl,hb1'⟩;have HB1:=hid (HB.out.trans (hb1'.mono hbs));have HO1:=hid (own_below HO.out hb1' (Nat.le_refl _));have hbs1:=HB1.out.size;clear hb1'
   go_wp2_with (at_builtin;refine wpList_append_any rfl _ _ 23 rfl w.heap.size 9 Tryz.underlying23 info_strJ rfl (by decide) (((l.take j).map T).map fun x=>Value.string (str x)) rfl (HO1.out.alloc _) [.string (str (T e))] rfl rfl (.inr ⟨_,_,rfl,one_newsJ _ _ _⟩) (by simp[Value.oneCell']) (by unfold maxLen;omega) (by omega) (by simp;omega) ?_)
   intro v3 w3 hown3 hgrow3 _;have hle:((l.take (j+1)).map T).length=j+1:=by rw[List.length_map,List.length_take];omega
   have HO3:Hid (w3.ownsRow w.heap.size 9 1 v3 ((l.take (j+1)).map T).length (((l.take (j+1)).map T).map fun x=>Value.string (str x))):=hid (by
    rw[hle,HTk.out,List.map_append];simpa[List.map_take,Function.comp_def]using hown3)
   have HB3:=hid ((HB1.out.alloc hbs1 _).grown hgrow3 (by simp;omega) (own_ltJ HO1.out))
   clear hown3 hgrow3 hle
   go_wp2_with fail
   go_roundw
   case rel=>exact⟨j+1,by omega,by go_num,HO3.out,HB3.out⟩
   case measure=>simp[intOf];omega
  ·obtain rfl:j=l.length:=by omega
   rw[List.take_length]at HO htl;have HJo:=hid (join_anyJ _ (l.map T) sep w.heap.size wr HO.out (by rw[List.length_map];exact hn) HJ.out)
   rw[htl]at HJo;rw[List.take_length,htl];clear hown hb HO htl
   go_wp2_with fail
   refine HJo.out.mono ?_;clear HJo;rintro e w2 ⟨rfl,hb2⟩;have HB2:=hid (HB.out.trans (hb2.mono HB.out.size));clear hb2
   go_wp2_with fail
   go_ret
   exact⟨rfl,HB2.out⟩
end Go.Proofs.YtagfnpdoooachaaGreatDoor
