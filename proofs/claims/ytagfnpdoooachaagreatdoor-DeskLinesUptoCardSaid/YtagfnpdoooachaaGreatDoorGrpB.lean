/- (*needs).add. -/
import Derived.Test.YtagfnpdoooachaaGreatDoorSepN
set_option linter.unusedSimpArgs false
set_option linter.unusedVariables false
set_option maxHeartbeats 6400000
set_option maxRecDepth 100000
namespace Go.Proofs.YtagfnpdoooachaaGreatDoor
open Go.RowKit
open Lib (hid)
theorem step_append_anyN {P:Program} {w:World} {ops:Array Oper} {o:Oper} {a:Act} {K:Act→World→Prop} {Q:Exit→Act→World→Prop} {E:Prop} (hgd:o.guard=none) (s x:Operand) (t:TypeId)
 (ho:o.op=.call { callee:=.builtin .append,args:=#[s,x],argTypes:=#[t,t] })
 (base:Nat) (e:TypeId) {z:Value} {size bytes:Nat} (ht:P.underlying t=some (.slice e)) (hi:(P.info? e).map (fun i=>(i.zero,i.size,i.bytes))=some (some z,size,bytes))
 (hzs:z.cells.size=size) (hsz:0 < size)
 {v:Value} {n:Nat} (xs:List Value) (hs:a.eval s=v) (hown:w.ownsRow base e size v n xs)
 {A:Option Addr} {m c:Nat} (news:List Value) (hx:a.eval x=.slice A m c) (hl:news.length=m*size)
 (hnews:m=0∨∃ b o,A=some ⟨b,o,none⟩∧∀ j u,news[j]? =some u→w.cell? ⟨b,o+j,none⟩=some u) (h1:∀ u∈news,u.oneCell'=true)
 (h63:n+m≤maxLen) (hbytes:(n+m)*bytes≤140737488355328) (hbase:base≤w.heap.size)
 (h:∀ v' w',w'.ownsRow base e size v' (n+m) (xs++news)→w.grownBy w' v.ownBlock→K (a.put o.dst v') w'):
 if Region.wanted o (yielded ops a.tmps)=true then Oper.wp P o a w K Q else E:=by
 have hw:Region.wanted o (yielded ops a.tmps)=true:=by simp[Region.wanted,hgd]
 rw[if_pos hw];obtain⟨i,hi,hz0,hz1,hz2⟩:=info_parts hi
 by_cases hm:m=0
 ·subst hm;have hnil:news=[]:=List.length_eq_zero_iff.1 (by omega)
  subst hnil;have hh:=h v w (by simpa using hown) (World.grownBy.refl _ _)
  obtain⟨B,cap,rfl,hcap⟩:=own_slice hown;have hS:Src P i.size t (.slice A 0 c) 0 [] w:=by
   cases A with
   | none=>exact Src.ofNil w ht c
   | some ad=>exact Src.ofSlice w ht ad 0 c [] (by simp) (fun j u hj=>by simp at hj) (fun u hu=>by cases hu)
  have hrun:=run_append_nothing (P:=P) w t t o.type e i ht hi B n cap hcap _ hS;unfold Oper.wp execOp;simp only[ho,resolve,invoke,builtin,Sem.run_bind,Sem.run_pure,Result.andThen_ok,List.map_toArray,List.map_cons,List.map_nil,hs,hx,hrun];exact hh
 ·rcases hnews with h0|⟨b,o',rfl,hc⟩
  ·exact absurd h0 hm
  obtain⟨v',w',hr,h2,h3,_,_⟩:=run_append_own_at (P:=P) w base t o.type e i z size bytes ht hi hz0 hz1 hz2 hzs hsz v n xs hown ⟨b,o',none⟩ m c news hl (fun j u hj=>by
   have e1:((⟨b,o',none⟩:Addr).add j)=⟨b,o'+j,none⟩:=by
    unfold Addr.add
    by_cases h0:j=0
    ·rw[if_pos h0,h0];rfl
    ·rw[if_neg h0]
   rw[e1];exact hc j u hj) h1 h63 hbytes hbase
  unfold Oper.wp execOp;simp only[ho,resolve,invoke,builtin,Sem.run_bind,Sem.run_pure,Result.andThen_ok,List.map_toArray,List.map_cons,List.map_nil,hs,hx,hr];exact h v' w' h2 h3
theorem own_setN {w:World} {base:Nat} {e:TypeId} {size n c g:Nat} {xs:List Value} (h:w.ownsRow base e size (.slice (some ⟨g,0,none⟩) n c) n xs) (k:Nat) (u:Value) (hk:k < n*size):
 (w.setCell ⟨g,k,none⟩ u).ownsRow base e size (.slice (some ⟨g,0,none⟩) n c) n (xs.set k u):=by
 obtain⟨hlen,⟨hv,_⟩|⟨g',cap,cur,hv,hb,hh,hc,hm,hcs,ht⟩⟩:=h
 ·cases hv
 ·injection hv with hv1 hv2 hv3;injection hv1 with hv1;injection hv1 with e1;subst e1;subst hv3;refine⟨by rw[List.length_set];exact hlen,.inr ⟨g,c,cur.setIfInBounds k u,rfl,hb,?_,hc,hm,by simpa using hcs,?_⟩⟩
  ·rw[setCell_eq_setRow w g k cur e (0,0) u hh];exact setRow_heap w g _ _ e _ hh
  ·rw[←ht,Array.toList_setIfInBounds,List.take_set]
theorem info_needN:(Tryz.prog.info? 194).map (fun i=>(i.zero,i.size,i.bytes))=some (some (.agg #[.string ByteArray.empty,.bool false,.bool false]),3,24):=by kernel_rfl
theorem blkGrownN {w w':World} {g:Nat} {t:TypeId} {cs:Array Value} {row:Option Nat} (h:Blk w g t cs) (hg:w.grownBy w' row) (hne:some g≠row):Blk w' g t cs:=(hg.block g h.lt hne).trans h
def putN (l:List Ned) (i:Nat) (b1 b2:Bool):List Ned:=if h:i < l.length then l.set i ⟨l[i].name,l[i].num || b1,l[i].text || b2⟩else l
def addN (l:List Ned) (kind:Int) (t:ByteArray):List Ned:=if kind=1∨kind=6 then l else
 if idxOfN l (fun x=>eqs x.name t) < 0 then putN (l++[⟨t,false,false⟩]) l.length (kind == 3 || kind == 4) (kind == 5)else putN l (idxOfN l fun x=>eqs x.name t).toNat (kind == 3 || kind == 4) (kind == 5)
theorem putN_len (l:List Ned) (i:Nat) (b1 b2:Bool):(putN l i b1 b2).length=l.length:=by unfold putN;split <;> simp
theorem addN_len (l:List Ned) (kind:Int) (t:ByteArray):(addN l kind t).length≤l.length+1:=by
 unfold addN;split
 ·omega
 ·split
  ·rw[putN_len,List.length_append];simp
  ·rw[putN_len];omega
structure BK (base:Nat) (w w':World):Prop where
 below:Below base w w'
 keep:∀ g t cs,Blk w g t cs→t≠188→t≠194→Blk w' g t cs
theorem BK.of {base:Nat} {w w':World} (h:Below w.heap.size w w') (hb:base≤w.heap.size):BK base w w':=⟨h.mono hb,fun _ _ _ hg _ _=>hg.below h hg.lt⟩
theorem BK.trans {base:Nat} {a b c:World} (h:BK base a b) (k:BK base b c):BK base a c:=⟨h.below.trans k.below,fun g t cs hg h1 h2=>k.keep g t cs (h.keep g t cs hg h1 h2) h1 h2⟩
theorem BK.grown {base:Nat} {w W w':World} {v:Value} {n:Nat} {xs:List Value} (h:BK base w W) (hg:W.grownBy w' v.ownBlock) (hr:W.ownsRow base 194 3 v n xs) (hs:base≤W.heap.size):BK base w w':=
 ⟨h.below.grown hg hs (fun r e=>(own_lt hr e).1),fun g t cs hb h1 h2=>blkGrownN (h.keep g t cs hb h1 h2) hg (fun e=>own_blkM hr (h.keep g t cs hb h1 h2) (Ne.symm h2) e.symm)⟩
theorem BK.set {base:Nat} {w W:World} {g o:Nat} {t:TypeId} {cs:Array Value} (h:BK base w W) (hb:Blk W g t cs) (ht:t=188∨t=194) (hg:base≤g) (u:Value):BK base w (W.setCell ⟨g,o,none⟩ u):=
 ⟨h.below.setCell hg _,fun g' t' cs' hb' h1 h2=>(h.keep g' t' cs' hb' h1 h2).far (fun(e:g'=g)=>by
   subst e;have hk:=h.keep _ t' cs' hb' h1 h2;unfold Blk at hb hk;rw[hb]at hk;injection hk with hk;injection hk with _ hk;rcases ht with rfl|rfl
   ·exact h1 hk.symm
   ·exact h2 hk.symm) u⟩
structure NeS (base q:Nat) (l:List Ned) (W:World):Prop where
 box:∃ v,Blk W q 188 #[v]∧W.ownsRow base 194 3 v l.length (flatN l)
theorem NeS.below {base q:Nat} {l:List Ned} {W W':World} (h:NeS base q l W) (hb:Below W.heap.size W W'):NeS base q l W':=by
 obtain⟨v,h1,h2⟩:=h.box;exact⟨v,h1.below hb h1.lt,own_below h2 hb (Nat.le_refl _)⟩
theorem three_news (w:World) (x:ByteArray) (t:TypeId):∀ q u,([Value.string x,.bool false,.bool false]:List Value)[q]? =some u→(w.alloc (.cells #[.string x,.bool false,.bool false] t)).cell? ⟨w.heap.size,0+q,none⟩=some u:=fun q u hq=>by
 rw[Nat.zero_add,(Blk.new w t #[.string x,.bool false,.bool false]).cell q];simpa using hq
theorem add_any (l:List Ned) (q base:Nat) (kind off:Int) (text:ByteArray) (C:Option Addr) (n c:Nat) (w:World) (hS:NeS base q l w) (hbq:base≤q) (hl:l.length≤100000000):
 Calls Tryz.prog 208 #[.pointer (some ⟨q,0,none⟩),.agg #[.int .i64 kind,.string text,.int .i64 off,.slice C n c]] w fun e w'=>e=.returned (.tuple #[])∧BK base w w'∧NeS base q (addN l kind text) w':=by
 obtain⟨v,hq,hrow⟩:=hS.box;obtain⟨VA,Vc,rfl,_⟩:=own_slice hrow;have hbw:base≤w.heap.size:=by have:=hq.lt;omega
 obtain⟨W1,eW1⟩:∃ W1,W1=w.alloc (.cells #[.int .i64 kind,.string text,.int .i64 off,.slice C n c] 197):=⟨_,rfl⟩;have hb1:Below w.heap.size w W1:=by rw[eW1];exact(Below.refl _ _).alloc (Nat.le_refl _) _
 have M1:Hid (Blk W1 w.heap.size 197 #[.int .i64 kind,.string text,.int .i64 off,.slice C n c]):=hid (by rw[eW1];exact Blk.new _ _ _)
 have Q1:=hid (hq.below hb1 hq.lt);have R1:=hid (own_below hrow hb1 (Nat.le_refl _));have HB1:=hid hb1;have HW1:=hid eW1;have k0:W1.cell? ⟨w.heap.size,0,none⟩=some (.int .i64 kind):=(M1.out.cell 0).trans rfl;have hql:=hq.lt;clear eW1 hb1 hS hq hrow
 by_cases h16:kind=1∨kind=6
 ·have HE:Hid (addN l kind text=l):=hid (by unfold addN;rw[if_pos h16])
  have HS1:Hid (NeS base q l W1):=hid ⟨_,Q1.out,R1.out⟩;rw[HE.out];rcases h16 with rfl|rfl
  all_goals
   clear HE Q1 R1 M1
   go_enter Tryz.func208,Tryz.ntmps208
   go_upto_region 1 with fail
   rw[←HW1.out];clear HW1
   go_wp2_with fail
   refine bodyPost_ret (results_none rfl _ _ _) rfl ?_;exact⟨rfl,BK.of HB1.out hbw,HS1.out⟩
 have q1:(kind == 1)=false:=by rw[beq_eq_false_iff_ne];omega
 have q6:(kind == 6)=false:=by rw[beq_eq_false_iff_ne];omega
 have HR:Hid (addN l kind text=if idxOfN l (fun x=>eqs x.name text) < 0 then putN (l++[⟨text,false,false⟩]) l.length (kind == 3 || kind == 4) (kind == 5)else putN l (idxOfN l fun x=>eqs x.name text).toNat (kind == 3 || kind == 4) (kind == 5)):=hid (by unfold addN;rw[if_neg h16])
 have hidx:=idx_cases l fun x=>eqs x.name text;have HI:=hid (indexA_any l (.slice VA l.length Vc) w.heap.size (fun x=>eqs x.name text) 0 W1 (neds_of_own R1.out (Nat.zero_le _) (Nat.le_refl _)) (by omega) (hid fun x _ W hW=>addC_any x w.heap.size text W ((hW.cell (p:=⟨w.heap.size,1,none⟩) M1.out.lt).trans ((M1.out.cell 1).trans rfl))))
 have x0:W1.cell? ⟨q,0,none⟩=some (.slice VA l.length Vc):=(Q1.out.cell 0).trans rfl;generalize idxOfN l (fun x=>eqs x.name text)=I at *;obtain⟨K3,hK3⟩:∃ K3,K3=(kind == 3):=⟨_,rfl⟩;obtain⟨K4,hK4⟩:∃ K4,K4=(kind == 4):=⟨_,rfl⟩;obtain⟨K5,hK5⟩:∃ K5,K5=(kind == 5):=⟨_,rfl⟩;rw[←hK3,←hK4,←hK5]at HR;have q3:(kind == 3)=K3:=hK3.symm;have q4:(kind == 4)=K4:=hK4.symm;have q5:(kind == 5)=K5:=hK5.symm;clear hK3 hK4 hK5 h16
 go_enter Tryz.func208,Tryz.ntmps208
 go_upto_region 1 with fail
 rw[←HW1.out];clear HW1
 go_wp2_with fail
 refine HI.out.mono ?_;clear HI;rintro e w2 ⟨rfl,hb2⟩;have HB2:=hid (BK.of (HB1.out.trans (hb2.mono HB1.out.size)) hbw);have Q2:=hid (Q1.out.below hb2 Q1.out.lt);have M2:=hid (M1.out.below hb2 M1.out.lt);have R2:=hid (own_below R1.out hb2 (Nat.le_refl _));clear hb2 Q1 R1 k0 x0 HB1;have hM:=M2.out.lt;have hQ:=Q2.out.lt
 go_upto_if 20 with fail
 go_cut [4]from 21 (fun iv wx=>∃(l1:List Ned) (i:Nat) (A1:Option Addr) (c1:Nat),i < l1.length∧iv=.int .i64 (i:Int)∧Hid (addN l kind text=putN l1 i (K3 || K4) K5)∧Blk wx q 188 #[.slice A1 l1.length c1]∧wx.ownsRow base 194 3 (.slice A1 l1.length c1) l1.length (flatN l1)∧Blk wx w.heap.size 197 #[.int .i64 kind,.string text,.int .i64 off,.slice C n c]∧BK base w wx∧l1.length≤200000000)
 case first=>
  rcases hidx with h|⟨i,hi,h⟩
  ·subst h;have HE:Hid (addN l kind text=putN (l++[⟨text,false,false⟩]) l.length (K3 || K4) K5):=hid (by rw[HR.out,if_pos (by decide)])
   have x0:w2.cell? ⟨q,0,none⟩=some (.slice VA l.length Vc):=(Q2.out.cell 0).trans rfl;have x1:w2.drew.cell? ⟨w.heap.size,1,none⟩=some (.string text):=(M2.out.cell 1).trans rfl;have x0d:w2.drew.cell? ⟨q,0,none⟩=some (.slice VA l.length Vc):=x0;have HOn:=hid (own_below R2.out ((below_drewN (Below.refl w2.heap.size w2) 1).alloc (Nat.le_refl _) (.cells #[.string text,.bool false,.bool false] 194)) (Nat.le_refl _));have HNn:=hid (three_news w2.drew text 194);have hb2s:=HB2.out.below.size;clear HR
   go_wp2_with fail
   go_region_law
    (refine step_append_anyN (by rfl) _ _ 188 (by rfl) base 194 Tryz.underlying188 info_needN rfl (by decide) (flatN l) (by rfl) HOn.out [Value.string text,.bool false,.bool false] (by rfl) (by rfl) (.inr ⟨_,_,rfl,HNn.out⟩) (by simp[Value.oneCell']) (by unfold maxLen;omega) (by omega) (by simp;omega) ?_
     intro v4 w4 hown4 hgrow4;have b4:=blkGrownN ((Q2.out.drew).alloc _) hgrow4 (fun e=>own_blkM HOn.out ((Q2.out.drew).alloc _) (by decide) e.symm)
     have m4:=blkGrownN ((M2.out.drew).alloc _) hgrow4 (fun e=>own_blkM HOn.out ((M2.out.drew).alloc _) (by decide) e.symm)
     have s1:w4.cell? ⟨q,0,none⟩=some (.slice VA l.length Vc):=(b4.cell 0).trans rfl;have s2:=b4.frozen 0;have HB4:=hid ((HB2.out.trans (BK.of ((below_drewN (Below.refl w2.heap.size w2) 1).alloc (Nat.le_refl _) (.cells #[.string text,.bool false,.bool false] 194)) (by omega))).grown hgrow4 HOn.out (by simp;omega))
     have B4:=hid b4;have M4:=hid m4;have HO4:=hid hown4;obtain⟨A4,c4,hv4,_⟩:=own_slice hown4;have hv5:v4=.slice A4 (l.length+1) c4:=by rw[hv4]
     subst hv5;clear b4 m4 hgrow4 hown4 hv4 x0 x1 x0d)
   all_goals
    go_wp2_with fail
    go_meet
    case rel=>
     refine⟨l++[⟨text,false,false⟩],l.length,A4,c4,by simp,rfl,HE,?_,?_,?_,?_,by simp;omega⟩
     ·rw[List.length_append];exact B4.out.set_ 0 _
     ·rw[List.length_append,flatN_snoc];exact own_keep HO4.out fun g hg _=>Below.heap_setCell _ _ _ _ (fun(e:g=q)=>own_blkM HO4.out B4.out (by decide) (hg.trans (congrArg some e)))
     ·exact M4.out.far (by show w.heap.size≠q;omega) _
     ·exact HB4.out.set B4.out (.inl rfl) hbq _
  ·subst h;have hge:¬((i:Int) < 0):=by omega
   have HE:Hid (addN l kind text=putN l i (K3 || K4) K5):=hid (by rw[HR.out,if_neg hge];simp)
   clear HR
   go_wp2_with fail
   go_meet
   case rel=>exact⟨l,i,VA,Vc,hi,rfl,HE,Q2.out,R2.out,M2.out,HB2.out,by omega⟩
 case rest=>
  obtain⟨l1,i,A1,c1,hi,rfl,HRes,hq3,hr3,hm3,hb3,hl1⟩:=hcut;obtain⟨g,cap,hv1,hgb,hgl⟩:=own_form hr3 (by omega)
  injection hv1 with hv1 _ hv2;subst hv1;subst hv2;obtain⟨b,o,ho,_,_,y0,y1,y2⟩:=(neds_of_own hr3 (Nat.le_refl base) (Nat.le_refl _)).nedAt i hi;injection ho with ho;injection ho with e1 e2;subst e1;subst e2;simp only[Nat.zero_add]at y0 y1 y2;obtain⟨cur,hcur⟩:∃ cur,Blk wc g 194 cur:=by
   obtain⟨_,⟨h,_⟩|⟨g',_,cur,h,_,hh,_⟩⟩:=hr3
   ·cases h
   ·injection h with h;injection h with h;injection h with h;subst h;exact⟨cur,hh⟩
  have hgq:q≠g:=fun e=>by
   subst e;unfold Blk at hq3 hcur;rw[hq3]at hcur;injection hcur with hcur;injection hcur with _ hcur;exact absurd hcur (by decide)
  have hgw:w.heap.size≠g:=fun e=>by
   subst e;unfold Blk at hm3 hcur;rw[hm3]at hcur;injection hcur with hcur;injection hcur with _ hcur;exact absurd hcur (by decide)
  have hx0:wc.cell? ⟨q,0,none⟩=some (.slice (some ⟨g,0,none⟩) l1.length c1):=(hq3.cell 0).trans rfl;have c0:wc.cell? ⟨w.heap.size,0,none⟩=some (.int .i64 kind):=(hm3.cell 0).trans rfl;have f1:=hcur.frozen (i*3+1);have hz0:∀ u,(wc.setCell ⟨g,i*3+1,none⟩ u).cell? ⟨w.heap.size,0,none⟩=some (.int .i64 kind):=fun u=>((hm3.far (by exact hgw) u).cell 0).trans rfl
  have hz2:∀ u,(wc.setCell ⟨g,i*3+1,none⟩ u).cell? ⟨g,i*3+2,none⟩=some (.bool l1[i].text):=fun u=>by
   rw[(hcur.set_ (i*3+1) u).cell,Array.getElem?_setIfInBounds_ne (by omega),←hcur.cell]
   exact y2
  have hzf:∀ u,(wc.setCell ⟨g,i*3+1,none⟩ u).frozen? ⟨g,i*3+2,none⟩=false:=fun u=>(hcur.set_ (i*3+1) u).frozen _;have HFin:Hid (∀ a bb:Bool,addN l kind text=l1.set i ⟨l1[i].name,a,bb⟩→(BK base w ((wc.setCell ⟨g,i*3+1,none⟩ (.bool a)).setCell ⟨g,i*3+2,none⟩ (.bool bb))∧NeS base q (addN l kind text) ((wc.setCell ⟨g,i*3+1,none⟩ (.bool a)).setCell ⟨g,i*3+2,none⟩ (.bool bb)))):=hid fun a bb h=>by
   refine⟨(hb3.set hcur (.inr rfl) hgb _).set (hcur.set_ _ _) (.inr rfl) hgb _,_,(hq3.far (by exact hgq) _).far (by exact hgq) _,?_⟩
   have h1:=own_setN (own_setN hr3 (i*3+1) (.bool a) (by omega)) (i*3+2) (.bool bb) (by omega)
   rw[flatN_set l1 i hi a bb]at h1;rw[h,List.length_set];exact h1
  have HPut:Hid (addN l kind text=l1.set i ⟨l1[i].name,l1[i].num || (K3 || K4),l1[i].text || K5⟩):=hid (by
   rw[HRes.out];unfold putN;rw[dif_pos hi])
  have i1:(0:Int)≤(i:Int):=Int.natCast_nonneg i;have i2:(i:Int) < (l1.length:Int):=by omega
  clear hq3 hr3 hm3 hb3 hcur HRes HR Q2 M2 R2 HB2;generalize l1[i].name=nm at *;generalize l1[i].num=p1 at *;generalize l1[i].text=p2 at *;cases p1 with
  | true=>
    cases p2 with
    | true=>
      go_wp2_with fail
      go_end0
      exact⟨rfl,HFin.out true true (HPut.out.trans rfl)⟩
    | false=>
      go_wp2_with fail
      go_end0
      exact⟨rfl,HFin.out true K5 (HPut.out.trans rfl)⟩
  | false=>
    cases K3 with
    | true=>
      cases p2 with
      | true=>
        go_wp2_with fail
        go_end0
        exact⟨rfl,HFin.out true true (HPut.out.trans rfl)⟩
      | false=>
        go_wp2_with fail
        go_end0
        exact⟨rfl,HFin.out true K5 (HPut.out.trans rfl)⟩
    | false=>
      cases p2 with
      | true=>
        go_wp2_with fail
        go_end0
        exact⟨rfl,HFin.out K4 true (HPut.out.trans rfl)⟩
      | false=>
        go_wp2_with fail
        go_end0
        exact⟨rfl,HFin.out K4 K5 (HPut.out.trans rfl)⟩
theorem own_at {W:World} {base:Nat} {e:TypeId} {size:Nat} {A:Option Addr} {n c:Nat} {xs:List Value} (h:W.ownsRow base e size (.slice A n c) n xs) (k:Nat) (hk:k < n*size):
 ∃ g,A=some ⟨g,0,none⟩∧base≤g∧g < W.heap.size∧W.cell? ⟨g,k,none⟩=xs[k]? ∧W.frozen? ⟨g,k,none⟩=false:=by
 obtain⟨hlen,⟨_,h0⟩|⟨g,cap,cur,hv,hb,hh,hc,hm,hcs,ht⟩⟩:=h
 ·subst h0;omega
 ·injection hv with hv1 _ hv3;refine⟨g,hv1,hb,Blk.lt (t:=e) (cs:=cur) hh,?_,Blk.frozen (t:=e) (cs:=cur) hh k⟩;rw[Blk.cell (t:=e) (cs:=cur) hh k,←ht,List.getElem?_take,if_pos hk,Array.getElem?_toList]
section
variable {β:Type}
end
end Go.Proofs.YtagfnpdoooachaaGreatDoor
namespace Go.Proofs.YtagfnpdoooachaaGreatDoor
open Go.RowKit Go.Sort
open Lib (hid)
theorem own_setAll {base g c:Nat} {e:TypeId}:∀(vs:List Value) (o n:Nat) (w:World) (xs:List Value),w.ownsRow base e 1 (.slice (some ⟨g,0,none⟩) n c) n xs→o+vs.length≤n→
 (w.setCells g o vs).ownsRow base e 1 (.slice (some ⟨g,0,none⟩) n c) n (xs.take o++vs++xs.drop (o+vs.length))
 | [],o,n,w,xs,h,_=>by
   show w.ownsRow _ _ _ _ _ _;rw[List.append_nil,List.length_nil,Nat.add_zero,List.take_append_drop];exact h
 | v::vs,o,n,w,xs,h,hl=>by
   rw[List.length_cons]at hl;have h1:=own_setN h o v (by omega)
   have hx:xs.length=n:=by have:=h.1;omega
   have h2:=own_setAll vs (o+1) n _ _ h1 (by omega)
   have e1:(xs.set o v).take (o+1)=xs.take o++[v]:=by
    rw[List.take_set,List.take_succ_eq_append_getElem (by omega)]
    rw[List.set_append_right _ _ (by rw[List.length_take];omega),List.length_take,Nat.min_eq_left (by omega),Nat.sub_self]
    rfl
   have e2:(xs.set o v).drop (o+1+vs.length)=xs.drop (o+(v::vs).length):=by
    rw[List.drop_set_of_lt (by omega),List.length_cons]
    congr 1;omega
   rw[e1,e2]at h2;have e3:xs.take o++[v]++vs=xs.take o++(v::vs):=by simp
   rw[e3]at h2;exact h2
def digitChars:ByteArray:=⟨#[48,49,50,51,52,53,54,55,56,57]⟩
def digitsB (s:ByteArray):Bool:= !(s.toList.isEmpty) && (Lib.trimS s.data.toList digitChars.data.toList).isEmpty
theorem asciiDig:∀(j:Nat) b,digitChars.data.toList[j]? =some b→b.toNat < 128:=by
 have h:∀ b∈digitChars.data.toList,b.toNat < 128:=by decide
 exact fun j b hb=>h b (List.mem_of_getElem? hb)
theorem gdigits_any (s:ByteArray) (w:World) (hs:s.size≤1000000000):Calls Tryz.prog 165 #[.string s] w fun e w'=>e=.returned (.bool (digitsB s))∧Below w.heap.size w w':=by
 have HT:Hid (Calls Tryz.prog 176 #[.string s,.string digitChars] w fun e w'=>e=.returned (.string ⟨(Lib.trimS s.data.toList digitChars.data.toList).toArray⟩)∧Below w.heap.size w w'):=hid (trim_any s digitChars w (by omega) (by decide) asciiDig)
 have HR:Hid (digitsB s=(!(s.toList.isEmpty) && (Lib.trimS s.data.toList digitChars.data.toList).isEmpty)):=hid rfl;generalize digitsB s=r at *;unfold digitChars at *;generalize hz:Lib.trimS s.data.toList (⟨#[48,49,50,51,52,53,54,55,56,57]⟩:ByteArray).data.toList=t at *;clear hz;cases he:s.toList.isEmpty with
 | true=>
   have hq:(s.toList == [])=true:=by simpa using he
   obtain rfl:r=false:=by rw[HR.out,he];rfl
   clear he
   go_enter Tryz.func165,Tryz.ntmps165
   go_wp2_with fail
   go_ret
   exact⟨rfl,Below.refl _ _⟩
 | false=>
   have hq:(s.toList == [])=false:=by cases h:s.toList with
    | nil=>rw[h]at he;cases he
    | cons a l=>rfl
   obtain rfl:r=t.isEmpty:=by rw[HR.out,he];rfl
   clear he HR;have htt:(⟨t.toArray⟩:ByteArray).toList=t:=by rw[ByteArray.toList_eq]
   generalize hT:(⟨t.toArray⟩:ByteArray)=T at *;clear hT;cases t with
   | nil=>
     have hq2:(T.toList == [])=true:=by rw[htt];rfl
     clear htt
     go_enter Tryz.func165,Tryz.ntmps165
     go_wp2_with fail
     refine HT.out.mono ?_;clear HT;rintro e w1 ⟨rfl,hb⟩;have HB:=hid hb;clear hb
     go_wp2_with fail
     go_ret
     exact⟨rfl,HB.out⟩
   | cons a l=>
     have hq2:(T.toList == [])=false:=by rw[htt];rfl
     clear htt
     go_enter Tryz.func165,Tryz.ntmps165
     go_wp2_with fail
     refine HT.out.mono ?_;clear HT;rintro e w1 ⟨rfl,hb⟩;have HB:=hid hb;clear hb
     go_wp2_with fail
     go_ret
     exact⟨rfl,HB.out⟩
theorem gcheck_any (w:World):Calls Tryz.prog 166 #[.int .i64 3,.int .i64 0,.int .u8 44] w fun e w'=>e=.returned .nilIface∧w'=w:=by
 go_enter Tryz.func166,Tryz.ntmps166
 go_wp2_with fail
 go_ret
 exact⟨rfl,rfl⟩
def partsF:Nat→List UInt8→List (List UInt8)
 | 0,l=>[l]
 | n+1,l=>if 3 < l.length then l.drop (l.length - 3)::partsF n (l.take (l.length - 3))else [l]
def partsG (l:List UInt8):List (List UInt8):=partsF l.length l
def putG (s:ByteArray):List UInt8:=if digitsB s then Lib.join (partsG (bts s)).reverse [44]else []
theorem parts_stop (n:Nat) (l:List UInt8) (h:¬ 3 < l.length):partsF n l=[l]:=by
 cases n with
 | zero=>rfl
 | succ n=>exact if_neg h
theorem parts_sum:∀(n:Nat) (l:List UInt8),((partsF n l).map List.length).sum=l.length∧(partsF n l).length≤l.length+1
 | 0,l=>⟨by simp[partsF],by simp[partsF]⟩
 | n+1,l=>by
   unfold partsF;split
   ·obtain⟨h1,h2⟩:=parts_sum n (l.take (l.length - 3));rw[List.length_take]at h1 h2;simp only[List.map_cons,List.sum_cons,List.length_cons,List.length_drop,h1];omega
   ·simp
theorem join_len (sep:List UInt8):∀(ps:List (List UInt8)),(Lib.join ps sep).length≤(ps.map List.length).sum+ps.length*sep.length
 | []=>by simp[Lib.join]
 | [a]=>by simp[Lib.join]
 | a::b::l=>by
   have h:=join_len sep (b::l);have e:Lib.join (a::b::l) sep=a++sep++Lib.join (b::l) sep:=by
    show List.intercalate sep (a::b::l)=_;rw[List.intercalate_cons_cons];rfl
   rw[e];simp only[List.length_append,List.map_cons,List.sum_cons,List.length_cons]at h ⊢;rw[Nat.add_mul,Nat.one_mul];omega
theorem putG_len (s:ByteArray):(putG s).length≤2*s.size+1:=by
 unfold putG;split
 ·have h1:=join_len [44] (partsG (bts s)).reverse;obtain⟨h2,h3⟩:((partsG (bts s)).map List.length).sum=(bts s).length∧(partsG (bts s)).length≤(bts s).length+1:=parts_sum (bts s).length (bts s);have e1:((partsG (bts s)).reverse.map List.length).sum=(bts s).length:=by rw[List.map_reverse,List.sum_reverse];exact h2
  rw[e1,List.length_reverse,List.length_singleton,Nat.mul_one]at h1;have h4:=bts_len s;omega
 ·exact Nat.zero_le _
theorem conv_comma (w:World):(convert 134 9 (.slice (some ⟨w.heap.size,0,none⟩) 1 1)).run Tryz.prog (w.alloc (.cells #[.int .u8 44] 5))=.ok (.string ⟨#[44]⟩) (w.alloc (.cells #[.int .u8 44] 5)):=by
 refine run_convert_bytes_back (P:=Tryz.prog) _ 134 9 5 ⟨w.heap.size,0,none⟩ 1 [44] Tryz.underlying134 Tryz.underlying5 Tryz.underlying9 ?_;intro j hj;have:j=0:=by simp at hj;omega
 subst this;exact((Blk.new w 5 #[.int .u8 44]).cell 0).trans rfl
theorem info_strG:(Tryz.prog.info? 9).map (fun i=>(i.zero,i.size,i.bytes))=some (some (.string ByteArray.empty),1,16):=by kernel_rfl
theorem one_newG (W:World) (a:Value) (t:TypeId):∀ q u,([a]:List Value)[q]? =some u→(W.alloc (.cells #[a] t)).cell? ⟨W.heap.size,0+q,none⟩=some u:=fun q u hq=>by
 rw[Nat.zero_add,(Blk.new W t #[a]).cell q];simpa using hq
theorem strsOf_list (l:List (List UInt8)):∀(n:Nat),n=l.length→Lib.strsOf (fun i=>str (l.getD i [])) n=l:=by
 rintro n rfl;refine List.ext_getElem (by simp[Lib.strsOf]) fun i h1 h2=> ?_
 simp[Lib.strsOf];rw[List.getElem?_eq_getElem h2]
 rfl
theorem below_setAll {B g:Nat} {w:World} (hg:B≤g):∀(vs:List Value) (o:Nat) (w':World),Below B w w'→Below B w (w'.setCells g o vs)
 | [],_,_,h=>h
 | v::vs,o,w',h=>below_setAll hg vs (o+1) _ (h.setCell (p:=⟨g,o,none⟩) hg v)
theorem put_any (s:ByteArray) (w:World) (hs:s.size≤1000000):
 Calls Tryz.prog 110 #[.string s,.int .i64 3,.int .i64 0,.int .u8 44] w fun e w'=>e=.returned (.tuple #[.string (str (putG s)),if digitsB s then .nilIface else .iface 27 (.int .i64 3)])∧Below w.heap.size w w':=by
 have HD:=hid (gdigits_any s w (by omega))
 have HC:Hid (∀ W,Calls Tryz.prog 166 #[.int .i64 3,.int .i64 0,.int .u8 44] W fun e w'=>e=.returned .nilIface∧w'=W):=hid fun W=>gcheck_any W;have HR:Hid (putG s=if digitsB s then Lib.join (partsG (bts s)).reverse [44]else []):=hid rfl
 have hlen:=putG_len s;generalize putG s=r at *;generalize digitsB s=b at *;cases b with
 | false=>
   obtain rfl:r=[]:=by rw[HR.out];rfl
   go_enter Tryz.func110,Tryz.ntmps110
   go_wp2_with fail
   refine HD.out.mono ?_;clear HD;rintro e w1 ⟨rfl,hb⟩;have HB:=hid hb;clear hb
   go_wp2_with fail
   go_ret2
   exact⟨rfl,HB.out⟩
 | true=>
   have HR2:Hid (r=Lib.join (partsG (bts s)).reverse [44]):=hid (by rw[HR.out];rfl)
   clear HR
   go_enter Tryz.func110,Tryz.ntmps110
   go_wp2_with fail
   refine HD.out.mono ?_;clear HD;rintro e w1 ⟨rfl,hb⟩;have HB:=hid hb;clear hb
   go_wp2_with fail
   refine(HC.out _).mono ?_;clear HC;rintro e w2 ⟨rfl,rfl⟩
   go_wp2_with fail
   go_loopw [0,11,12] (fun sv pv zv wr=>∃(l:List UInt8) (ps:List (List UInt8)) (n:Nat),sv=.string (str l)∧zv=.int .i64 3∧l.length≤n∧ps.length+n≤1000002∧Hid (partsG (bts s)=ps++partsF n l)∧wr.ownsRow w2.heap.size 9 1 pv ps.length (ps.map fun x=>Value.string (str x))∧Below w.heap.size w wr∧w2.heap.size≤wr.heap.size) (fun sv _ _ _=>match sv with| .string x=>x.size|_=>0)
   case atStart=>exact⟨bts s,[],(bts s).length,by rw[str_bts],rfl,Nat.le_refl _,by rw[bts_len];simp;omega,hid rfl,own_nil,HB.out,Nat.le_refl _⟩
   case round=>
    obtain⟨l,ps,n,rfl,rfl,hln,hpn,HP,hown,hbr,hsr⟩:=hrel;obtain⟨A,c,rfl,_⟩:=own_slice hown;have HO:=hid hown;have HBr:=hid hbr;have hz:(str l).size=l.length:=str_size l;clear hown hbr
    by_cases hl3:3 < l.length
    ·obtain⟨m,rfl⟩:∃ m,n=m+1:=⟨n - 1,by omega⟩
     have HP2:Hid (partsG (bts s)=(ps++[l.drop (l.length - 3)])++partsF m (l.take (l.length - 3))):=hid (by
      rw[HP.out,List.append_assoc]
      congr 1
      exact if_pos hl3)
     have hl1:(l.take (l.length - 3)).length=l.length - 3:=by rw[List.length_take];omega
     obtain⟨k,hk⟩:∃ k:Nat,l.length=k+3:=⟨l.length - 3,by omega⟩
     have EX:=hid (extractD l 0 k);have EY:=hid (extractD l k (str l).size);have i1:(3:Int) < ((str l).size:Int):=by omega
     have hw:wrap64 (((str l).size:Int) - 3)=(k:Int):=by unfold wrap64;omega
     have i2:(0:Int)≤(k:Int):=Int.natCast_nonneg k;have i3:(k:Int)≤((str l).size:Int):=by omega
     have i4:k≤(str l).size:=by omega
     have hps:ps.length≤1000000:=by omega
     have hF:Hid (l.length - 3=k∧(l.take k).length+3=l.length∧(str l).size=l.length):=hid ⟨by omega,by rw[List.length_take];omega,hz⟩
     have hkm:k≤m:=by omega
     have hpm:ps.length+1+m≤1000002:=by omega
     have EX2:(str l).extract 0 k=str (l.take k):=by rw[EX.out,List.drop_zero]
     have EY2:(str l).extract k (str l).size=str (l.drop k):=by rw[EY.out,List.take_of_length_le (by omega)]
     have HP3:Hid (partsG (bts s)=(ps++[l.drop k])++partsF m (l.take k)):=hid (by rw[HP2.out,hF.out.1])
     have HOw:Hid ((wr.alloc (.cells #[.string (str (l.drop k))] 9)).ownsRow w2.heap.size 9 1 (.slice A ps.length c) ps.length (ps.map fun x=>Value.string (str x))):=hid (own_below HO.out ((Below.refl _ _).alloc (Nat.le_refl _) _) (Nat.le_refl _));have HBw:Hid (Below w.heap.size w (wr.alloc (.cells #[.string (str (l.drop k))] 9))):=hid (HBr.out.alloc (by have:=HBr.out.size;omega) _)
     have hlk:(l.take k).length≤m:=by have:=hF.out.2.1;omega
     have hw2s:=HB.out.size;generalize hSY:str (l.drop k)=SY at *;have HSY:=hid hSY;clear hSY;clear HP HP2 hk hln hpn hl1 hl3 EX EY hz HO
     go_wp2_with (at_builtin;refine wpList_append_any rfl _ _ 23 rfl w2.heap.size 9 Tryz.underlying23 info_strG rfl (by decide) (ps.map fun x=>Value.string (str x)) rfl HOw.out [.string SY] rfl rfl (.inr ⟨_,_,rfl,one_newG wr _ _⟩) (by simp[Value.oneCell']) (by unfold maxLen;omega) (by omega) (by simp;omega) ?_)
     intro v7 w7 hown7 hgrow7 _;obtain⟨A7,c7,hv7,_⟩:=own_slice hown7;subst hv7;have HO7:Hid (w7.ownsRow w2.heap.size 9 1 (.slice A7 (ps++[l.drop k]).length c7) (ps++[l.drop k]).length ((ps++[l.drop k]).map fun x=>Value.string (str x))):=hid (by
      rw[List.length_append,List.map_append,List.map_singleton,List.length_singleton,HSY.out];exact hown7)
     have HB7:Hid (Below w.heap.size w w7):=hid (HBw.out.grown hgrow7 (by simp;omega) (fun q e=>by have:=(own_lt HOw.out e).1;omega))
     have hs7:w2.heap.size≤w7.heap.size:=by have:=hgrow7.size;rw[World.size_alloc]at this;omega
     have el:(ps++[l.drop k]).length=ps.length+1:=by rw[List.length_append,List.length_singleton]
     rw[el]at HO7;clear hown7 hgrow7 HOw HBw HBr el
     go_wp2_with fail
     go_roundw
     case rel=>exact⟨l.take k,ps++[l.drop k],m,rfl,rfl,hlk,by rw[List.length_append,List.length_singleton];omega,HP3,by rw[List.length_append,List.length_singleton];exact HO7.out,HB7.out,hs7⟩
     case measure=>
      have h1:=hF.out;show(str (l.take k)).size < (str l).size;rw[str_size,str_size];omega
    ·have HP2:Hid (partsG (bts s)=ps++[l]):=hid (by rw[HP.out,parts_stop n l hl3])
     have i1:¬((3:Int) < ((str l).size:Int)):=by omega
     have hps:ps.length≤1000002:=by omega
     have hw2s:=HB.out.size;have HOw:Hid ((wr.alloc (.cells #[.string (str l)] 9)).ownsRow w2.heap.size 9 1 (.slice A ps.length c) ps.length (ps.map fun x=>Value.string (str x))):=hid (own_below HO.out ((Below.refl _ _).alloc (Nat.le_refl _) _) (Nat.le_refl _));have HBw:Hid (Below w.heap.size w (wr.alloc (.cells #[.string (str l)] 9))):=hid (HBr.out.alloc (by have:=HBr.out.size;omega) _)
     clear HP hl3 hz HO hln hpn
     go_wp2_with (at_builtin;refine wpList_append_any rfl _ _ 23 rfl w2.heap.size 9 Tryz.underlying23 info_strG rfl (by decide) (ps.map fun x=>Value.string (str x)) rfl HOw.out [.string (str l)] rfl rfl (.inr ⟨_,_,rfl,one_newG wr _ _⟩) (by simp[Value.oneCell']) (by unfold maxLen;omega) (by omega) (by simp;omega) ?_)
     intro v7 w7 hown7 hgrow7 _;have hPl:(partsG (bts s)).length=ps.length+1:=by rw[HP2.out,List.length_append,List.length_singleton]
     have hown8:w7.ownsRow w2.heap.size 9 1 v7 (partsG (bts s)).length ((partsG (bts s)).map fun x=>Value.string (str x)):=by
      rw[hPl,HP2.out,List.map_append,List.map_singleton];exact hown7
     have HB7:Hid (Below w.heap.size w w7):=hid (HBw.out.grown hgrow7 (by simp;omega) (fun q e=>by have:=(own_lt HOw.out e).1;omega))
     have hPs:(partsG (bts s)).length≤1000003:=by omega
     have hjl:(Lib.join (partsG (bts s)).reverse [44]).length≤1000000000:=by rw[←HR2.out];omega
     have HJl:=hid hjl;clear hown7 hgrow7 HOw HBw HBr HP2 hlen hps hs;generalize partsG (bts s)=P at *;obtain⟨g,cap,rfl,hg1,hg2⟩:=own_form hown8 (by omega)
     have hcs:∀ i,i < P.length→w7.cell? ⟨g,0+i,none⟩=some (.string (str (P.getD i [])))∧w7.frozen? ⟨g,0+i,none⟩=false:=fun i hi=>by
      obtain⟨g',hA,_,_,h3,h4⟩:=own_at hown8 i (by omega)
      injection hA with hA;injection hA with hA;subst hA;rw[Nat.zero_add];refine⟨?_,h4⟩;rw[h3,List.getElem?_map,List.getElem?_eq_getElem hi,List.getD_eq_getElem?_getD,List.getElem?_eq_getElem hi]
      rfl
     have HRev:Hid (Calls Tryz.prog 167 #[.slice (some ⟨g,0,none⟩) P.length cap] w7 fun e w'=>e=.returned (.tuple #[])∧∃ q,w'=(w7.drewN q).setCells g 0 (P.reverse.map encStr)):=hid (by
      have h:=Tryz.slices_Reverse_string_cells g 0 P.length cap (fun i=>str (P.getD i [])) w7 (by omega) (fun i hi=>(hcs i hi).1) (fun i hi=>(hcs i hi).2)
      rw[strsOf_list P P.length rfl]at h;exact h)
     have HOwn:=hid hown8;have HPl:=hid hPl;have HPs:=hid hPs;clear hcs hown8 hjl hPl hPs
     go_wp2_with fail
     refine HRev.out.mono ?_;clear HRev;rintro e w8 ⟨rfl,q,hw8⟩;have hPl:=HPl.out;have hPs:=HPs.out;have hl9:(P.reverse.map encStr).length=P.length:=by rw[List.length_map,List.length_reverse]
     have hown9:w8.ownsRow w2.heap.size 9 1 (.slice (some ⟨g,0,none⟩) P.reverse.length cap) P.reverse.length (P.reverse.map fun x=>Value.string (str x)):=by
      have h:=own_setAll (P.reverse.map encStr) 0 P.length (w7.drewN q) _ (own_below HOwn.out (below_drewN (Below.refl _ _) q) (Nat.le_refl _)) (by omega)
      rw[List.take_zero,List.nil_append,Nat.zero_add,hl9,List.drop_of_length_le (by rw[List.length_map];exact Nat.le_refl _),List.append_nil,←hw8]at h
      rw[List.length_reverse];exact h
     have HB8:Hid (Below w.heap.size w w8):=hid (by rw[hw8];exact below_setAll (by omega) _ _ _ (below_drewN HB7.out q))
     have hb9:Below w8.heap.size w8 (w8.alloc (.cells #[.int .u8 44] 5)):=(Below.refl _ _).alloc (Nat.le_refl _) _;have HJ:=hid (join_anyJ _ P.reverse [44] w2.heap.size (w8.alloc (.cells #[.int .u8 44] 5)) (own_below hown9 hb9 (Nat.le_refl _)) (by rw[List.length_reverse];omega) HJl.out)
     rw[List.length_reverse]at HJ;have HB9:Hid (Below w.heap.size w (w8.alloc (.cells #[.int .u8 44] 5))):=hid (HB8.out.trans (hb9.mono HB8.out.size));have hcv:=conv_comma w8;clear hw8 hl9 hown9 hb9 HOwn HB7 HB8 hPl hPs
     go_wp2_with fail
     refine HJ.out.mono ?_;clear HJ;rintro e w10 ⟨rfl,hb10⟩;have HB10:=hid (HB9.out.trans (hb10.mono HB9.out.size));clear hb10 hcv
     go_wp2_with fail
     go_ret2
     exact⟨by rw[HR2.out];rfl,HB10.out⟩
end Go.Proofs.YtagfnpdoooachaaGreatDoor
