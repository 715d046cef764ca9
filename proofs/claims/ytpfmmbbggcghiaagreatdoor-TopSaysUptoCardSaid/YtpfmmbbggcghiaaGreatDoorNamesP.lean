/- (*needs).add. -/
import Derived.Test.YtpfmmbbggcghiaaGreatDoorNamesA
set_option linter.unusedSimpArgs false
set_option linter.unusedVariables false
set_option maxHeartbeats 6400000
set_option maxRecDepth 100000
namespace Go.Proofs.YtpfmmbbggcghiaaGreatDoor
open Go.RowKit
open Lib (hid)
theorem step_append_anyN {P:Program} {w:World} {ops:Array Oper} {o:Oper} {a:Act} {K:Act→World→Prop} {Q:Exit→Act→World→Prop} {E:Prop} (hgd:o.guard=none) (s x:Operand) (t:TypeId)
 (ho:o.op=.call { callee:=.builtin .append,args:=#[s,x],argTypes:=#[t,t] })
 (base:Nat) (e:TypeId) {z:Value} {size bytes:Nat} (ht:P.underlying t=some (.slice e)) (hi:(P.info? e).map (fun i=>(i.zero,i.size,i.bytes))=some (some z,size,bytes))
 (hzs:z.cells.size=size) (hsz:0 < size)
 {v:Value} {n:Nat} (xs:List Value) (hs:a.eval s=v) (hown:w.ownsRow base e size v n xs)
 {A:Option Addr} {m c:Nat} (news:List Value) (hx:a.eval x=.slice A m c) (hl:news.length=m*size)
 (hnews:m=0∨∃ b o,A=some ⟨b,o,none⟩∧∀ j u,news[j]? =some u→w.cell? ⟨b,o+j,none⟩=some u) (h1:∀ u∈news,u.oneCell'=true)
 (h63:n+m≤maxLen) (hbytes:(n+m)*bytes≤140737488355328) (hbase:base≤w.heap.size)
 (h:∀ v' w',w'.ownsRow base e size v' (n+m) (xs++news)→w.grownBy w' v.ownBlock→K (a.put o.dst v') w'):
 if Region.wanted o (yielded ops a.tmps)=true then Oper.wp P o a w K Q else E:=by
 have hw:Region.wanted o (yielded ops a.tmps)=true:=by simp[Region.wanted,hgd]
 rw[if_pos hw];obtain⟨i,hi,hz0,hz1,hz2⟩:=info_parts hi
 by_cases hm:m=0
 ·subst hm;have hnil:news=[]:=List.length_eq_zero_iff.1 (by omega)
  subst hnil;have hh:=h v w (by simpa using hown) (World.grownBy.refl _ _)
  obtain⟨B,cap,rfl,hcap⟩:=own_slice hown;have hS:Src P i.size t (.slice A 0 c) 0 [] w:=by
   cases A with
   | none=>exact Src.ofNil w ht c
   | some ad=>exact Src.ofSlice w ht ad 0 c [] (by simp) (fun j u hj=>by simp at hj) (fun u hu=>by cases hu)
  have hrun:=run_append_nothing (P:=P) w t t o.type e i ht hi B n cap hcap _ hS;unfold Oper.wp execOp;simp only[ho,resolve,invoke,builtin,Sem.run_bind,Sem.run_pure,Result.andThen_ok,List.map_toArray,List.map_cons,List.map_nil,hs,hx,hrun];exact hh
 ·rcases hnews with h0|⟨b,o',rfl,hc⟩
  ·exact absurd h0 hm
  obtain⟨v',w',hr,h2,h3,_,_⟩:=run_append_own_at (P:=P) w base t o.type e i z size bytes ht hi hz0 hz1 hz2 hzs hsz v n xs hown ⟨b,o',none⟩ m c news hl (fun j u hj=>by
   have e1:((⟨b,o',none⟩:Addr).add j)=⟨b,o'+j,none⟩:=by
    unfold Addr.add
    by_cases h0:j=0
    ·rw[if_pos h0,h0];rfl
    ·rw[if_neg h0]
   rw[e1];exact hc j u hj) h1 h63 hbytes hbase
  unfold Oper.wp execOp;simp only[ho,resolve,invoke,builtin,Sem.run_bind,Sem.run_pure,Result.andThen_ok,List.map_toArray,List.map_cons,List.map_nil,hs,hx,hr];exact h v' w' h2 h3
theorem own_setN {w:World} {base:Nat} {e:TypeId} {size n c g:Nat} {xs:List Value} (h:w.ownsRow base e size (.slice (some ⟨g,0,none⟩) n c) n xs) (k:Nat) (u:Value) (hk:k < n*size):
 (w.setCell ⟨g,k,none⟩ u).ownsRow base e size (.slice (some ⟨g,0,none⟩) n c) n (xs.set k u):=by
 obtain⟨hlen,⟨hv,_⟩|⟨g',cap,cur,hv,hb,hh,hc,hm,hcs,ht⟩⟩:=h
 ·cases hv
 ·injection hv with hv1 hv2 hv3;injection hv1 with hv1;injection hv1 with e1;subst e1;subst hv3;refine⟨by rw[List.length_set];exact hlen,.inr ⟨g,c,cur.setIfInBounds k u,rfl,hb,?_,hc,hm,by simpa using hcs,?_⟩⟩
  ·rw[setCell_eq_setRow w g k cur e (0,0) u hh];exact setRow_heap w g _ _ e _ hh
  ·rw[←ht,Array.toList_setIfInBounds,List.take_set]
theorem info_needN:(Tryz.prog.info? 180).map (fun i=>(i.zero,i.size,i.bytes))=some (some (.agg #[.string ByteArray.empty,.bool false,.bool false]),3,24):=by kernel_rfl
theorem blkGrownN {w w':World} {g:Nat} {t:TypeId} {cs:Array Value} {row:Option Nat} (h:Blk w g t cs) (hg:w.grownBy w' row) (hne:some g≠row):Blk w' g t cs:=(hg.block g h.lt hne).trans h
def putN (l:List Ned) (i:Nat) (b1 b2:Bool):List Ned:=if h:i < l.length then l.set i ⟨l[i].name,l[i].num || b1,l[i].text || b2⟩else l
def addN (l:List Ned) (kind:Int) (t:ByteArray):List Ned:=if kind=1∨kind=6 then l else
 if idxOfN l (fun x=>eqs x.name t) < 0 then putN (l++[⟨t,false,false⟩]) l.length (kind == 3 || kind == 4) (kind == 5)else putN l (idxOfN l fun x=>eqs x.name t).toNat (kind == 3 || kind == 4) (kind == 5)
theorem putN_len (l:List Ned) (i:Nat) (b1 b2:Bool):(putN l i b1 b2).length=l.length:=by unfold putN;split <;> simp
theorem addN_len (l:List Ned) (kind:Int) (t:ByteArray):(addN l kind t).length≤l.length+1:=by
 unfold addN;split
 ·omega
 ·split
  ·rw[putN_len,List.length_append];simp
  ·rw[putN_len];omega
structure BK (base:Nat) (w w':World):Prop where
 below:Below base w w'
 keep:∀ g t cs,Blk w g t cs→t≠173→t≠180→Blk w' g t cs
theorem BK.of {base:Nat} {w w':World} (h:Below w.heap.size w w') (hb:base≤w.heap.size):BK base w w':=⟨h.mono hb,fun _ _ _ hg _ _=>hg.below h hg.lt⟩
theorem BK.trans {base:Nat} {a b c:World} (h:BK base a b) (k:BK base b c):BK base a c:=⟨h.below.trans k.below,fun g t cs hg h1 h2=>k.keep g t cs (h.keep g t cs hg h1 h2) h1 h2⟩
theorem BK.grown {base:Nat} {w W w':World} {v:Value} {n:Nat} {xs:List Value} (h:BK base w W) (hg:W.grownBy w' v.ownBlock) (hr:W.ownsRow base 180 3 v n xs) (hs:base≤W.heap.size):BK base w w':=
 ⟨h.below.grown hg hs (fun r e=>(own_lt hr e).1),fun g t cs hb h1 h2=>blkGrownN (h.keep g t cs hb h1 h2) hg (fun e=>own_blkM hr (h.keep g t cs hb h1 h2) (Ne.symm h2) e.symm)⟩
theorem BK.set {base:Nat} {w W:World} {g o:Nat} {t:TypeId} {cs:Array Value} (h:BK base w W) (hb:Blk W g t cs) (ht:t=173∨t=180) (hg:base≤g) (u:Value):BK base w (W.setCell ⟨g,o,none⟩ u):=
 ⟨h.below.setCell hg _,fun g' t' cs' hb' h1 h2=>(h.keep g' t' cs' hb' h1 h2).far (fun(e:g'=g)=>by
   subst e;have hk:=h.keep _ t' cs' hb' h1 h2;unfold Blk at hb hk;rw[hb]at hk;injection hk with hk;injection hk with _ hk;rcases ht with rfl|rfl
   ·exact h1 hk.symm
   ·exact h2 hk.symm) u⟩
structure NeS (base q:Nat) (l:List Ned) (W:World):Prop where
 box:∃ v,Blk W q 173 #[v]∧W.ownsRow base 180 3 v l.length (flatN l)
theorem NeS.below {base q:Nat} {l:List Ned} {W W':World} (h:NeS base q l W) (hb:Below W.heap.size W W'):NeS base q l W':=by
 obtain⟨v,h1,h2⟩:=h.box;exact⟨v,h1.below hb h1.lt,own_below h2 hb (Nat.le_refl _)⟩
theorem three_news (w:World) (x:ByteArray) (t:TypeId):∀ q u,([Value.string x,.bool false,.bool false]:List Value)[q]? =some u→(w.alloc (.cells #[.string x,.bool false,.bool false] t)).cell? ⟨w.heap.size,0+q,none⟩=some u:=fun q u hq=>by
 rw[Nat.zero_add,(Blk.new w t #[.string x,.bool false,.bool false]).cell q];simpa using hq
theorem add_any (l:List Ned) (q base:Nat) (kind off:Int) (text:ByteArray) (C:Option Addr) (n c:Nat) (w:World) (hS:NeS base q l w) (hbq:base≤q) (hl:l.length≤100000000):
 Calls Tryz.prog 174 #[.pointer (some ⟨q,0,none⟩),.agg #[.int .i64 kind,.string text,.int .i64 off,.slice C n c]] w fun e w'=>e=.returned (.tuple #[])∧BK base w w'∧NeS base q (addN l kind text) w':=by
 obtain⟨v,hq,hrow⟩:=hS.box;obtain⟨VA,Vc,rfl,_⟩:=own_slice hrow;have hbw:base≤w.heap.size:=by have:=hq.lt;omega
 obtain⟨W1,eW1⟩:∃ W1,W1=w.alloc (.cells #[.int .i64 kind,.string text,.int .i64 off,.slice C n c] 126):=⟨_,rfl⟩;have hb1:Below w.heap.size w W1:=by rw[eW1];exact(Below.refl _ _).alloc (Nat.le_refl _) _
 have M1:Hid (Blk W1 w.heap.size 126 #[.int .i64 kind,.string text,.int .i64 off,.slice C n c]):=hid (by rw[eW1];exact Blk.new _ _ _)
 have Q1:=hid (hq.below hb1 hq.lt);have R1:=hid (own_below hrow hb1 (Nat.le_refl _));have HB1:=hid hb1;have HW1:=hid eW1;have k0:W1.cell? ⟨w.heap.size,0,none⟩=some (.int .i64 kind):=(M1.out.cell 0).trans rfl;have hql:=hq.lt;clear eW1 hb1 hS hq hrow
 by_cases h16:kind=1∨kind=6
 ·have HE:Hid (addN l kind text=l):=hid (by unfold addN;rw[if_pos h16])
  have HS1:Hid (NeS base q l W1):=hid ⟨_,Q1.out,R1.out⟩;rw[HE.out];rcases h16 with rfl|rfl
  all_goals
   clear HE Q1 R1 M1
   go_enter Tryz.func174,Tryz.ntmps174
   go_upto_region 1 with fail
   rw[←HW1.out];clear HW1
   go_wp2_with fail
   refine bodyPost_ret (results_none rfl _ _ _) rfl ?_;exact⟨rfl,BK.of HB1.out hbw,HS1.out⟩
 have q1:(kind == 1)=false:=by rw[beq_eq_false_iff_ne];omega
 have q6:(kind == 6)=false:=by rw[beq_eq_false_iff_ne];omega
 have HR:Hid (addN l kind text=if idxOfN l (fun x=>eqs x.name text) < 0 then putN (l++[⟨text,false,false⟩]) l.length (kind == 3 || kind == 4) (kind == 5)else putN l (idxOfN l fun x=>eqs x.name text).toNat (kind == 3 || kind == 4) (kind == 5)):=hid (by unfold addN;rw[if_neg h16])
 have hidx:=idx_cases l fun x=>eqs x.name text;have HI:=hid (indexA_any l (.slice VA l.length Vc) w.heap.size (fun x=>eqs x.name text) 0 W1 (neds_of_own R1.out (Nat.zero_le _) (Nat.le_refl _)) (by omega) (hid fun x _ W hW=>addC_any x w.heap.size text W ((hW.cell (p:=⟨w.heap.size,1,none⟩) M1.out.lt).trans ((M1.out.cell 1).trans rfl))))
 have x0:W1.cell? ⟨q,0,none⟩=some (.slice VA l.length Vc):=(Q1.out.cell 0).trans rfl;generalize idxOfN l (fun x=>eqs x.name text)=I at *;obtain⟨K3,hK3⟩:∃ K3,K3=(kind == 3):=⟨_,rfl⟩;obtain⟨K4,hK4⟩:∃ K4,K4=(kind == 4):=⟨_,rfl⟩;obtain⟨K5,hK5⟩:∃ K5,K5=(kind == 5):=⟨_,rfl⟩;rw[←hK3,←hK4,←hK5]at HR;have q3:(kind == 3)=K3:=hK3.symm;have q4:(kind == 4)=K4:=hK4.symm;have q5:(kind == 5)=K5:=hK5.symm;clear hK3 hK4 hK5 h16
 go_enter Tryz.func174,Tryz.ntmps174
 go_upto_region 1 with fail
 rw[←HW1.out];clear HW1
 go_wp2_with fail
 refine HI.out.mono ?_;clear HI;rintro e w2 ⟨rfl,hb2⟩;have HB2:=hid (BK.of (HB1.out.trans (hb2.mono HB1.out.size)) hbw);have Q2:=hid (Q1.out.below hb2 Q1.out.lt);have M2:=hid (M1.out.below hb2 M1.out.lt);have R2:=hid (own_below R1.out hb2 (Nat.le_refl _));clear hb2 Q1 R1 k0 x0 HB1;have hM:=M2.out.lt;have hQ:=Q2.out.lt
 go_upto_if 20 with fail
 go_cut [4]from 21 (fun iv wx=>∃(l1:List Ned) (i:Nat) (A1:Option Addr) (c1:Nat),i < l1.length∧iv=.int .i64 (i:Int)∧Hid (addN l kind text=putN l1 i (K3 || K4) K5)∧Blk wx q 173 #[.slice A1 l1.length c1]∧wx.ownsRow base 180 3 (.slice A1 l1.length c1) l1.length (flatN l1)∧Blk wx w.heap.size 126 #[.int .i64 kind,.string text,.int .i64 off,.slice C n c]∧BK base w wx∧l1.length≤200000000)
 case first=>
  rcases hidx with h|⟨i,hi,h⟩
  ·subst h;have HE:Hid (addN l kind text=putN (l++[⟨text,false,false⟩]) l.length (K3 || K4) K5):=hid (by rw[HR.out,if_pos (by decide)])
   have x0:w2.cell? ⟨q,0,none⟩=some (.slice VA l.length Vc):=(Q2.out.cell 0).trans rfl;have x1:w2.drew.cell? ⟨w.heap.size,1,none⟩=some (.string text):=(M2.out.cell 1).trans rfl;have x0d:w2.drew.cell? ⟨q,0,none⟩=some (.slice VA l.length Vc):=x0;have HOn:=hid (own_below R2.out ((below_drewN (Below.refl w2.heap.size w2) 1).alloc (Nat.le_refl _) (.cells #[.string text,.bool false,.bool false] 180)) (Nat.le_refl _));have HNn:=hid (three_news w2.drew text 180);have hb2s:=HB2.out.below.size;clear HR
   go_wp2_with fail
   go_region_law
    (refine step_append_anyN (by rfl) _ _ 173 (by rfl) base 180 Tryz.underlying173 info_needN rfl (by decide) (flatN l) (by rfl) HOn.out [Value.string text,.bool false,.bool false] (by rfl) (by rfl) (.inr ⟨_,_,rfl,HNn.out⟩) (by simp[Value.oneCell']) (by unfold maxLen;omega) (by omega) (by simp;omega) ?_
     intro v4 w4 hown4 hgrow4;have b4:=blkGrownN ((Q2.out.drew).alloc _) hgrow4 (fun e=>own_blkM HOn.out ((Q2.out.drew).alloc _) (by decide) e.symm)
     have m4:=blkGrownN ((M2.out.drew).alloc _) hgrow4 (fun e=>own_blkM HOn.out ((M2.out.drew).alloc _) (by decide) e.symm)
     have s1:w4.cell? ⟨q,0,none⟩=some (.slice VA l.length Vc):=(b4.cell 0).trans rfl;have s2:=b4.frozen 0;have HB4:=hid ((HB2.out.trans (BK.of ((below_drewN (Below.refl w2.heap.size w2) 1).alloc (Nat.le_refl _) (.cells #[.string text,.bool false,.bool false] 180)) (by omega))).grown hgrow4 HOn.out (by simp;omega))
     have B4:=hid b4;have M4:=hid m4;have HO4:=hid hown4;obtain⟨A4,c4,hv4,_⟩:=own_slice hown4;have hv5:v4=.slice A4 (l.length+1) c4:=by rw[hv4]
     subst hv5;clear b4 m4 hgrow4 hown4 hv4 x0 x1 x0d)
   all_goals
    go_wp2_with fail
    go_meet
    case rel=>
     refine⟨l++[⟨text,false,false⟩],l.length,A4,c4,by simp,rfl,HE,?_,?_,?_,?_,by simp;omega⟩
     ·rw[List.length_append];exact B4.out.set_ 0 _
     ·rw[List.length_append,flatN_snoc];exact own_keep HO4.out fun g hg _=>Below.heap_setCell _ _ _ _ (fun(e:g=q)=>own_blkM HO4.out B4.out (by decide) (hg.trans (congrArg some e)))
     ·exact M4.out.far (by show w.heap.size≠q;omega) _
     ·exact HB4.out.set B4.out (.inl rfl) hbq _
  ·subst h;have hge:¬((i:Int) < 0):=by omega
   have HE:Hid (addN l kind text=putN l i (K3 || K4) K5):=hid (by rw[HR.out,if_neg hge];simp)
   clear HR
   go_wp2_with fail
   go_meet
   case rel=>exact⟨l,i,VA,Vc,hi,rfl,HE,Q2.out,R2.out,M2.out,HB2.out,by omega⟩
 case rest=>
  obtain⟨l1,i,A1,c1,hi,rfl,HRes,hq3,hr3,hm3,hb3,hl1⟩:=hcut;obtain⟨g,cap,hv1,hgb,hgl⟩:=own_form hr3 (by omega)
  injection hv1 with hv1 _ hv2;subst hv1;subst hv2;obtain⟨b,o,ho,_,_,y0,y1,y2⟩:=(neds_of_own hr3 (Nat.le_refl base) (Nat.le_refl _)).nedAt i hi;injection ho with ho;injection ho with e1 e2;subst e1;subst e2;simp only[Nat.zero_add]at y0 y1 y2;obtain⟨cur,hcur⟩:∃ cur,Blk wc g 180 cur:=by
   obtain⟨_,⟨h,_⟩|⟨g',_,cur,h,_,hh,_⟩⟩:=hr3
   ·cases h
   ·injection h with h;injection h with h;injection h with h;subst h;exact⟨cur,hh⟩
  have hgq:q≠g:=fun e=>by
   subst e;unfold Blk at hq3 hcur;rw[hq3]at hcur;injection hcur with hcur;injection hcur with _ hcur;exact absurd hcur (by decide)
  have hgw:w.heap.size≠g:=fun e=>by
   subst e;unfold Blk at hm3 hcur;rw[hm3]at hcur;injection hcur with hcur;injection hcur with _ hcur;exact absurd hcur (by decide)
  have hx0:wc.cell? ⟨q,0,none⟩=some (.slice (some ⟨g,0,none⟩) l1.length c1):=(hq3.cell 0).trans rfl;have c0:wc.cell? ⟨w.heap.size,0,none⟩=some (.int .i64 kind):=(hm3.cell 0).trans rfl;have f1:=hcur.frozen (i*3+1);have hz0:∀ u,(wc.setCell ⟨g,i*3+1,none⟩ u).cell? ⟨w.heap.size,0,none⟩=some (.int .i64 kind):=fun u=>((hm3.far (by exact hgw) u).cell 0).trans rfl
  have hz2:∀ u,(wc.setCell ⟨g,i*3+1,none⟩ u).cell? ⟨g,i*3+2,none⟩=some (.bool l1[i].text):=fun u=>by
   rw[(hcur.set_ (i*3+1) u).cell,Array.getElem?_setIfInBounds_ne (by omega),←hcur.cell]
   exact y2
  have hzf:∀ u,(wc.setCell ⟨g,i*3+1,none⟩ u).frozen? ⟨g,i*3+2,none⟩=false:=fun u=>(hcur.set_ (i*3+1) u).frozen _;have HFin:Hid (∀ a bb:Bool,addN l kind text=l1.set i ⟨l1[i].name,a,bb⟩→(BK base w ((wc.setCell ⟨g,i*3+1,none⟩ (.bool a)).setCell ⟨g,i*3+2,none⟩ (.bool bb))∧NeS base q (addN l kind text) ((wc.setCell ⟨g,i*3+1,none⟩ (.bool a)).setCell ⟨g,i*3+2,none⟩ (.bool bb)))):=hid fun a bb h=>by
   refine⟨(hb3.set hcur (.inr rfl) hgb _).set (hcur.set_ _ _) (.inr rfl) hgb _,_,(hq3.far (by exact hgq) _).far (by exact hgq) _,?_⟩
   have h1:=own_setN (own_setN hr3 (i*3+1) (.bool a) (by omega)) (i*3+2) (.bool bb) (by omega)
   rw[flatN_set l1 i hi a bb]at h1;rw[h,List.length_set];exact h1
  have HPut:Hid (addN l kind text=l1.set i ⟨l1[i].name,l1[i].num || (K3 || K4),l1[i].text || K5⟩):=hid (by
   rw[HRes.out];unfold putN;rw[dif_pos hi])
  have i1:(0:Int)≤(i:Int):=Int.natCast_nonneg i;have i2:(i:Int) < (l1.length:Int):=by omega
  clear hq3 hr3 hm3 hb3 hcur HRes HR Q2 M2 R2 HB2;generalize l1[i].name=nm at *;generalize l1[i].num=p1 at *;generalize l1[i].text=p2 at *;cases p1 with
  | true=>
    cases p2 with
    | true=>
      go_wp2_with fail
      go_end0
      exact⟨rfl,HFin.out true true (HPut.out.trans rfl)⟩
    | false=>
      go_wp2_with fail
      go_end0
      exact⟨rfl,HFin.out true K5 (HPut.out.trans rfl)⟩
  | false=>
    cases K3 with
    | true=>
      cases p2 with
      | true=>
        go_wp2_with fail
        go_end0
        exact⟨rfl,HFin.out true true (HPut.out.trans rfl)⟩
      | false=>
        go_wp2_with fail
        go_end0
        exact⟨rfl,HFin.out true K5 (HPut.out.trans rfl)⟩
    | false=>
      cases p2 with
      | true=>
        go_wp2_with fail
        go_end0
        exact⟨rfl,HFin.out K4 true (HPut.out.trans rfl)⟩
      | false=>
        go_wp2_with fail
        go_end0
        exact⟨rfl,HFin.out K4 K5 (HPut.out.trans rfl)⟩
section
variable {β:Type} (g:List β→List Ned→List Ned) (cnt:List β→Nat)
def casA:List (ByteArray×List β)→List Ned→List Ned
 | [],l=>l
 | c::r,l=>casA r (g c.2 l)
def nodA:List (NdF β)→List Ned→List Ned
 | [],l=>l
 | x::r,l=>nodA r (casA g (casesR x) (addN l x.kind x.text))
def cntC (l:List (ByteArray×List β)):Nat:=(l.map fun c=>cnt c.2).sum
def cntM (m:List (NdF β)):Nat:=(m.map fun x=>1+cntC cnt (casesR x)).sum
theorem casA_at {l:List (ByteArray×List β)} {j:Nat} {n:List Ned} (h:j < l.length):casA g (l.drop j) n=casA g (l.drop (j+1)) (g l[j].2 n):=by
 rw[List.drop_eq_getElem_cons h];rfl
theorem nodA_at {m:List (NdF β)} {j:Nat} {n:List Ned} (h:j < m.length):nodA g (m.drop j) n=nodA g (m.drop (j+1)) (casA g (casesR m[j]) (addN n m[j].kind m[j].text)):=by
 rw[List.drop_eq_getElem_cons h];rfl
theorem cntC_at {l:List (ByteArray×List β)} {j:Nat} (h:j < l.length):cntC cnt (l.drop j)=cnt l[j].2+cntC cnt (l.drop (j+1)):=by
 unfold cntC;rw[List.drop_eq_getElem_cons h,List.map_cons,List.sum_cons]
theorem cntM_at {m:List (NdF β)} {j:Nat} (h:j < m.length):cntM cnt (m.drop j)=1+cntC cnt (casesR m[j])+cntM cnt (m.drop (j+1)):=by
 unfold cntM;rw[List.drop_eq_getElem_cons h,List.map_cons,List.sum_cons]
end
theorem all_walk {β:Type} {E:Enc β} (hE:E.Laws) (g:List β→List Ned→List Ned) (cnt:List β→Nat) (m:List (NdF β)) (v:Value) (q base:Nat) (l:List Ned) (lo:Nat) (w:World) (hv:ListOk (Enc.nodeF E) w lo base v m) (hS:NeS base q l w) (hbq:base≤q) (hm:m.length≤10000000)
 (hlen:Hid (∀ b n,(g b n).length≤n.length+cnt b)) (hl:l.length+cntM cnt m≤100000000) (hcl:∀ x∈m,x.cases.length≤10000000)
 (IH:Hid (∀ x∈m,∀ c∈x.cases,∀ W U n,Below base w W→base≤W.heap.size→ListOk E W lo base U c.2→NeS base q n W→n.length+cnt c.2≤100000000→Calls Tryz.prog 130 #[.pointer (some ⟨q,0,none⟩),U] W fun e w'=>e=.returned (.tuple #[])∧BK base W w'∧NeS base q (g c.2 n) w')):
 Calls Tryz.prog 130 #[.pointer (some ⟨q,0,none⟩),v] w fun e w'=>e=.returned (.tuple #[])∧BK base w w'∧NeS base q (nodA g m l) w':=by
 obtain⟨A,c,rfl,_⟩:=hv.form;have HV:Hid (∀ W,Below base w W→ListOk (Enc.nodeF E) W lo base (.slice A m.length c) m):=hid fun W hW=>hv.below (Enc.nodeF_laws hE) hW;have HCl:=hid hcl;have HS0:=hid hS;have hbw:base≤w.heap.size:=by obtain⟨v,h1,_⟩:=hS.box;have:=h1.lt;omega
 clear hv hS hcl
 go_enter Tryz.func130,Tryz.ntmps130
 go_wp2_with fail
 go_loopw [5,7,10] (fun _ _ i wr=>∃(j:Nat) (n:List Ned),j≤m.length∧i=.int .i64 (j:Int)∧Hid (nodA g m l=nodA g (m.drop j) n)∧n.length+cntM cnt (m.drop j)≤100000000∧NeS base q n wr∧BK base w wr∧base≤wr.heap.size) (fun _ _ i _=>m.length - (intOf i).toNat)
 case atStart=>exact⟨0,l,Nat.zero_le _,rfl,hid rfl,hl,HS0.out,⟨Below.refl _ _,fun _ _ _ h _ _=>h⟩,hbw⟩
 case round=>
  obtain⟨j,n,hj,rfl,HNo,hln,hS,hb,hbs⟩:=hrel;have HB:=hid hb
  by_cases hlt:j < m.length
  ·have i1:(0:Int)≤(j:Int):=Int.natCast_nonneg j;have i2:(j:Int) < (m.length:Int):=by omega
   have hmem:m[j]∈m:=List.getElem_mem hlt;have HNx:Hid (nodA g m l=nodA g (m.drop (j+1)) (casA g (casesR m[j]) (addN n m[j].kind m[j].text))):=hid (by rw[HNo.out,nodA_at g hlt])
   rw[cntM_at cnt hlt]at hln;have HIj:Hid (∀ c∈casesR m[j],∀ W U n,Below base w W→base≤W.heap.size→ListOk E W lo base U c.2→NeS base q n W→n.length+cnt c.2≤100000000→Calls Tryz.prog 130 #[.pointer (some ⟨q,0,none⟩),U] W fun e w'=>e=.returned (.tuple #[])∧BK base W w'∧NeS base q (g c.2 n) w'):=hid fun c hc=>IH.out _ hmem c (casesR_sub hc);have hcl:(casesR m[j]).length≤10000000:=by
    unfold casesR;split
    ·exact HCl.out _ hmem
    ·exact Nat.zero_le _
   obtain⟨b0,o0,V,rfl,_,_,x0,x1,x2,x3,hV⟩:=(HV.out _ hb.below).nodeAt j hlt;obtain⟨VA,Vc,rfl,_⟩:=hV.form;have hal:=addN_len n m[j].kind m[j].text;have HVb:Hid (∀ W,Below base wr W→ListOk (Enc.cas E) W lo base (.slice VA m[j].cases.length Vc) m[j].cases):=hid fun W hW=>hV.below (Enc.cas_laws hE) hW;have hS2:=hS.below ((Below.refl wr.heap.size wr).alloc (Nat.le_refl _) (.cells #[.int .i64 m[j].kind,.string m[j].text,.int .i64 m[j].off,.slice VA m[j].cases.length Vc] 126));have HAd:=hid (add_any n q base m[j].kind m[j].off m[j].text VA m[j].cases.length Vc _ hS2 hbq (by omega))
   have HCas:Hid (∀ W,Below base wr W→Calls Tryz.prog 91 #[.agg #[.int .i64 m[j].kind,.string m[j].text,.int .i64 m[j].off,.slice VA m[j].cases.length Vc]] W fun e w'=>(∃ V',e=.returned V'∧(V'=.slice VA m[j].cases.length Vc∨V'=.slice none 0 0)∧ListOk (Enc.cas E) W lo base V' (casesR m[j]))∧Below W.heap.size W w'):=hid fun W hW=>Cases_any (E:=E) m[j] _ lo base W (HVb.out W hW);clear hV hmem HNo hb hS hS2 HVb;generalize casesR m[j]=cs at *;generalize addN n m[j].kind m[j].text=n1 at *;generalize m[j]=x at *;obtain⟨y0,y1,y2,y3⟩:=x;dsimp only at x0 x1 x2 x3 HAd HCas;obtain⟨W2,eW2⟩:∃ W2,W2=wr.alloc (.cells #[.int .i64 y0,.string y1,.int .i64 y2,.slice VA y3.length Vc] 126):=⟨_,rfl⟩;have hb2:Below wr.heap.size wr W2:=by rw[eW2];exact(Below.refl _ _).alloc (Nat.le_refl _) _
   have M2:Hid (Blk W2 wr.heap.size 126 #[.int .i64 y0,.string y1,.int .i64 y2,.slice VA y3.length Vc]):=hid (by rw[eW2];exact Blk.new _ _ _)
   rw[←eW2]at HAd;have a0:W2.cell? ⟨wr.heap.size,0,none⟩=some (.int .i64 y0):=(M2.out.cell 0).trans rfl;have a1:W2.cell? ⟨wr.heap.size,1,none⟩=some (.string y1):=(M2.out.cell 1).trans rfl;have a2:W2.cell? ⟨wr.heap.size,2,none⟩=some (.int .i64 y2):=(M2.out.cell 2).trans rfl;have a3:W2.cell? ⟨wr.heap.size,3,none⟩=some (.slice VA y3.length Vc):=(M2.out.cell 3).trans rfl;have HB2:=hid (BK.of (base:=base) hb2 hbs);have HW2:=hid eW2;clear eW2 hb2;obtain⟨wo,rfl⟩:∃ wo:World,wo=wr:=⟨_,rfl⟩
   go_upto_region 3 with fail
   rw[←HW2.out];clear HW2
   go_wp2_with fail
   refine HAd.out.mono ?_;clear HAd;rintro e w3 ⟨rfl,hb3,hS3⟩;have HB3:=hid (HB2.out.trans hb3);have M3:=hid (hb3.keep _ _ _ M2.out (by decide) (by decide))
   have HS3:=hid hS3;have c0:=(M3.out.cell 0).trans (show _=some (.int .i64 y0)from rfl);have c1:=(M3.out.cell 1).trans (show _=some (.string y1)from rfl);have c2:=(M3.out.cell 2).trans (show _=some (.int .i64 y2)from rfl);have c3:=(M3.out.cell 3).trans (show _=some (.slice VA y3.length Vc)from rfl);have HC3:=hid (HCas.out w3 HB3.out.below);have hs3:=HB3.out.below.size;clear hb3 hS3 HB2 M2 a0 a1 a2 a3 x0 x1 x2 x3 HCas
   go_wp2_with fail
   refine HC3.out.mono ?_;clear HC3;rintro e w4 ⟨⟨V',rfl,_,hV'⟩,hb4⟩;have HB4:=hid (HB3.out.trans (BK.of (base:=base) hb4 (by omega)))
   have HS4:=hid (HS3.out.below hb4);have hV4:ListOk (Enc.cas E) w4 lo base V' cs:=hV'.keep (Enc.cas_laws hE) ((Alk.of_below hb4).mono (Nat.le_refl _) (by omega))
   obtain⟨CA,Cc,rfl,_⟩:=hV4.form;have HV4:Hid (∀ W,Below base w4 W→ListOk (Enc.cas E) W lo base (.slice CA cs.length Cc) cs):=hid fun W hW=>hV4.below (Enc.cas_laws hE) hW;have hs4:base≤w4.heap.size:=Nat.le_trans hbs (HB4.out.below.size);clear hb4 hV' hV4 c0 c1 c2 c3 M3 HB3 HS3
   go_wp2_with fail
   go_loopw [7,20] (fun _ k wq=>∃(p:Nat) (n2:List Ned),p≤cs.length∧k=.int .i64 (p:Int)∧Hid (casA g cs n1=casA g (cs.drop p) n2)∧n2.length+cntC cnt (cs.drop p)≤n1.length+cntC cnt cs∧NeS base q n2 wq∧BK base w4 wq∧base≤wq.heap.size) (fun _ k _=>cs.length - (intOf k).toNat)
   case atStart=>exact⟨0,n1,Nat.zero_le _,rfl,hid rfl,Nat.le_refl _,HS4.out,⟨Below.refl _ _,fun _ _ _ h _ _=>h⟩,hs4⟩
   case round=>
    obtain⟨p,n2,hp,rfl,HCn,hl2,hSq,hbq2,hsq⟩:=hrel;have HBq:=hid hbq2
    by_cases hlq:p < cs.length
    ·have i3:(0:Int)≤(p:Int):=Int.natCast_nonneg p;have i4:(p:Int) < (cs.length:Int):=by omega
     have hmq:cs[p]∈cs:=List.getElem_mem hlq;have HCx:Hid (casA g cs n1=casA g (cs.drop (p+1)) (g cs[p].2 n2)):=hid (by rw[HCn.out,casA_at g hlq])
     rw[cntC_at cnt hlq]at hl2;have hgl:=hlen.out cs[p].2 n2;obtain⟨b1,o1,U,rfl,_,_,z0,z1,hU⟩:=(HV4.out _ hbq2.below).casAt p hlq;obtain⟨UA,Uc,rfl,_⟩:=hU.form;have hbx:Below base wr (wr.alloc (.cells #[.string cs[p].1,.slice UA cs[p].2.length Uc] 189)):=(Below.refl _ _).alloc hsq _;have HAl:=hid (HIj.out _ hmq (wr.alloc (.cells #[.string cs[p].1,.slice UA cs[p].2.length Uc] 189)) (.slice UA cs[p].2.length Uc) n2 (((HB.out.below.trans HB4.out.below).trans hbq2.below).trans hbx) (by simp;omega) (hU.below hE hbx) (hSq.below ((Below.refl _ _).alloc (Nat.le_refl _) _)) (by omega))
     have HBa:=hid (BK.of (base:=base) ((Below.refl wr.heap.size wr).alloc (Nat.le_refl _) (.cells #[.string cs[p].1,.slice UA cs[p].2.length Uc] 189)) hsq);clear hU hmq HCn hbq2 hSq hbx;generalize g cs[p].2 n2=n3 at *;generalize cnt cs[p].2=k3 at *;generalize cs[p]=cc at *;obtain⟨ck,cb⟩:=cc;dsimp only at z0 z1 HAl HBa
     go_wp2_with fail
     refine HAl.out.mono ?_;clear HAl;rintro e w5 ⟨rfl,hb5,hS5⟩;have HB5:=hid ((HBq.out.trans HBa.out).trans hb5);have HS5:=hid hS5;have hs5:base≤w5.heap.size:=by have:=hb5.below.size;simp at this;omega
     clear hb5 hS5
     go_wp2_with fail
     go_roundw
     case rel=>exact⟨p+1,n3,by omega,by go_num,HCx,by omega,HS5.out,HB5.out,hs5⟩
     case measure=>simp[intOf];omega
    ·obtain rfl:p=cs.length:=by omega
     have HE:Hid (casA g cs n1=n2):=hid (by rw[HCn.out,List.drop_length];rfl)
     have HSq:=hid hSq;have h0:cntC cnt (cs.drop cs.length)=0:=by rw[List.drop_length];rfl
     have hfin:n2.length+cntM cnt (m.drop (j+1))≤100000000:=by omega
     clear hbq2 hSq HCn
     go_wp2_with fail
     go_roundw
     case rel=>exact⟨j+1,n2,by omega,by go_num,hid (by rw[HNx.out,HE.out]),hfin,HSq.out,(HB.out.trans HB4.out).trans HBq.out,hsq⟩
     case measure=>simp[intOf];omega
  ·obtain rfl:j=m.length:=by omega
   have HE:Hid (nodA g m l=n):=hid (by rw[HNo.out,List.drop_length];rfl)
   have HSn:=hid hS;clear hb HNo hS
   go_wp2_with fail
   go_end0
   exact⟨rfl,HB.out,by rw[HE.out];exact HSn.out⟩
def allN:(n:Nat)→List (Nd n)→List Ned→List Ned
 | 0,_,l=>l
 | n+1,m,l=>nodA (allN n) (m:List (NdF (Nd n))) l
def cntN:(n:Nat)→List (Nd n)→Nat
 | 0,_=>0
 | n+1,m=>cntM (cntN n) (m:List (NdF (Nd n)))
theorem casA_len {β:Type} {g:List β→List Ned→List Ned} {cnt:List β→Nat} (h:∀ b n,(g b n).length≤n.length+cnt b):∀(cs:List (ByteArray×List β)) (n:List Ned),(casA g cs n).length≤n.length+cntC cnt cs
 | [],n=>by show n.length≤_;omega
 | c::r,n=>by
   have h1:=casA_len h r (g c.2 n);have h2:=h c.2 n;have e:cntC cnt (c::r)=cnt c.2+cntC cnt r:=by unfold cntC;rw[List.map_cons,List.sum_cons]
   show(casA g r (g c.2 n)).length≤_;omega
theorem nodA_len {β:Type} {g:List β→List Ned→List Ned} {cnt:List β→Nat} (h:∀ b n,(g b n).length≤n.length+cnt b):∀(m:List (NdF β)) (n:List Ned),(nodA g m n).length≤n.length+cntM cnt m
 | [],n=>by show n.length≤_;omega
 | x::r,n=>by
   have h1:=nodA_len h r (casA g (casesR x) (addN n x.kind x.text));have h2:=casA_len h (casesR x) (addN n x.kind x.text);have h3:=addN_len n x.kind x.text;have e:cntM cnt (x::r)=1+cntC cnt (casesR x)+cntM cnt r:=by unfold cntM;rw[List.map_cons,List.sum_cons]
   show(nodA g r (casA g (casesR x) (addN n x.kind x.text))).length≤_;omega
theorem allN_len:(n:Nat)→(m:List (Nd n))→(l:List Ned)→(allN n m l).length≤l.length+cntN n m
 | 0,_,l=>by show l.length≤_;omega
 | n+1,m,l=>nodA_len (allN_len n) (m:List (NdF (Nd n))) l
theorem all_any:(n:Nat)→(m:List (Nd n))→(v:Value)→(q base:Nat)→(l:List Ned)→(lo:Nat)→(w:World)→MsgIn n m→ListOk (Enc.node n) w lo base v m→NeS base q l w→base≤q→l.length+cntN n m≤100000000→
 Calls Tryz.prog 130 #[.pointer (some ⟨q,0,none⟩),v] w fun e w'=>e=.returned (.tuple #[])∧BK base w w'∧NeS base q (allN n m l) w'
 | 0,m,v,q,base,l,lo,w,hm,hv,hS,hbq,hl=>by
   obtain rfl:=empty_list m;obtain⟨A,c,rfl,_⟩:=hv.form;exact all_walk (E:=Enc.none_) Enc.none_laws (fun _ n=>n) (fun _=>0) ([]:List (NdF Empty)) (.slice A 0 c) q base l lo w (ListOk.nil c A) hS hbq (Nat.zero_le _) (hid fun _ n=>Nat.le_refl _) (by show l.length+0≤_;omega) (fun x hx=>by cases hx) (hid fun x hx=>by cases hx)
 | n+1,m,v,q,base,l,lo,w,hm,hv,hS,hbq,hl=>by
   exact all_walk (E:=Enc.node n) (Enc.node_laws n) (allN n) (cntN n) (m:List (NdF (Nd n))) v q base l lo w hv hS hbq hm.len (hid (allN_len n)) hl (fun x hx=>by have h1:smallF (SmallN n) x:=hm.each x hx;exact h1.2.1)
    (hid fun x hx c hc W U n' hW hbs hU hS' hl'=>all_any n c.2 U q base n' lo W (hm.body hx hc) hU hS' hbq hl')
def ofR (n:Nat) (m:List (Nd n)):Int×List Ned:=
 if checkAll n m≠0 then(checkAll n m,[])else if(allN n m []).any (fun x=>x.num && x.text)=true then(7,[])else(0,allN n m [])
theorem of_any (n:Nat) (m:List (Nd n)) (v:Value) (lo:Nat) (w:World) (hm:MsgIn n m) (hc:cntN n m≤10000000) (hv:ListOk (Enc.node n) w lo w.heap.size v m) (hV:MV w):
 Calls Tryz.prog 86 #[v] w fun e w'=>Below w.heap.size w w'∧∃ u,e=.returned (.tuple #[u,errV (ofR n m).1])∧w'.ownsRow w.heap.size 180 3 u (ofR n m).2.length (flatN (ofR n m).2):=by
 have HC:=hid (Check_any n m v lo w hm hv hV);have HA:Hid (∀ W q,Below w.heap.size w W→w.heap.size≤q→NeS w.heap.size q [] W→Calls Tryz.prog 130 #[.pointer (some ⟨q,0,none⟩),v] W fun e w'=>e=.returned (.tuple #[])∧BK w.heap.size W w'∧NeS w.heap.size q (allN n m []) w'):=hid fun W q hW hq hS=>
  all_any n m v q w.heap.size [] lo W hm (hv.below (Enc.node_laws n) hW) hS hq (by show 0+_≤_;omega)
 have HR:Hid (ofR n m=if checkAll n m≠0 then(checkAll n m,[])else if(allN n m []).any (fun x=>x.num && x.text)=true then(7,[])else(0,allN n m [])):=hid rfl
 have hlen:(allN n m []).length≤10000000:=by have:=allN_len n m [];simp at this;omega
 generalize checkAll n m=ck at *;generalize allN n m []=L at *;clear hv hV hm hc
 go_enter Tryz.func86,Tryz.ntmps86
 go_wp2_with fail
 refine HC.out.mono ?_;clear HC;rintro e w1 ⟨rfl,hb1⟩;have HB1:=hid hb1;clear hb1
 by_cases h0:ck=0
 ·subst h0;rw[errV_zero];obtain⟨W2,eW2⟩:∃ W2,W2=w1.alloc (.cells #[.slice none 0 0] 173):=⟨_,rfl⟩;have hb2:Below w1.heap.size w1 W2:=by rw[eW2];exact(Below.refl _ _).alloc (Nat.le_refl _) _
  have m2:Blk W2 w1.heap.size 173 #[.slice none 0 0]:=by rw[eW2];exact Blk.new _ _ _
  have HB2:=hid (HB1.out.trans (hb2.mono HB1.out.size));have HA2:=hid (HA.out W2 w1.heap.size HB2.out HB1.out.size ⟨_,m2,own_nil⟩);have HW2:=hid eW2;have hs1:=HB1.out.size;clear eW2 hb2 m2 HA
  go_upto_region 5 with fail
  rw[←HW2.out];clear HW2
  go_wp2_with fail
  refine HA2.out.mono ?_;clear HA2;rintro e w3 ⟨rfl,hb3,hS3⟩;obtain⟨u,hq3,hr3⟩:=hS3.box;obtain⟨UA,Uc,rfl,_⟩:=own_slice hr3;have HB3:=hid (HB2.out.trans hb3.below);have x0:w3.cell? ⟨w1.heap.size,0,none⟩=some (.slice UA L.length Uc):=(hq3.cell 0).trans rfl;have HCo:=hid (containsO_any L (.slice UA L.length Uc) 0 w3 (neds_of_own hr3 (Nat.zero_le _) (Nat.le_refl _)) (by omega))
  have Q3:=hid hq3;have R3:=hid hr3;have HR2:Hid (ofR n m=if L.any (fun x=>x.num && x.text)=true then(7,[])else(0,L)):=hid (by rw[HR.out,if_neg (by simp)])
  generalize L.any (fun x=>x.num && x.text)=X at *;clear hb3 hS3 hq3 hr3 HR HB2
  go_wp2_with fail
  refine HCo.out.mono ?_;clear HCo;rintro e w4 ⟨rfl,hb4⟩;have HB4:=hid (HB3.out.trans (hb4.mono HB3.out.size));have R4:=hid (own_below R3.out hb4 (Nat.le_refl _));have x4:w4.cell? ⟨w1.heap.size,0,none⟩=some (.slice UA L.length Uc):=((Q3.out.below hb4 Q3.out.lt).cell 0).trans rfl;clear hb4 x0 Q3 R3;cases X with
  | true=>
    have HE:Hid (ofR n m=(7,[])):=hid (by rw[HR2.out,if_pos rfl])
    clear HR2
    go_wp2_with fail
    go_ret2
    refine⟨HB4.out,.slice none 0 0,?_,?_⟩
    ·rw[HE.out];rfl
    ·rw[HE.out];exact own_nil
  | false=>
    have HE:Hid (ofR n m=(0,L)):=hid (by rw[HR2.out,if_neg (by decide)])
    clear HR2
    go_wp2_with fail
    go_ret2
    refine⟨HB4.out,.slice UA L.length Uc,?_,?_⟩
    ·rw[HE.out];rfl
    ·rw[HE.out];exact R4.out
 ·have HE:Hid (ofR n m=(ck,[])):=hid (by rw[HR.out,if_pos h0])
  rw[errV_ne h0];clear HR HA
  go_wp2_with fail
  go_ret2
  refine⟨HB1.out,.slice none 0 0,?_,?_⟩
  ·rw[HE.out,errV_ne h0];rfl
  ·rw[HE.out];exact own_nil
theorem mem_sum {α:Type} (f:α→Nat):∀(l:List α) (x:α),x∈l→f x≤(l.map f).sum
 | a::l,x,h=>by
   rw[List.map_cons,List.sum_cons];rcases List.mem_cons.1 h with rfl|h
   ·omega
   ·have:=mem_sum f l x h;omega
theorem len_le_sum {α:Type} (f:α→Nat):∀(l:List α),(∀ x∈l,1≤f x)→l.length≤(l.map f).sum
 | [],_=>Nat.le_refl _
 | a::l,h=>by
   rw[List.map_cons,List.sum_cons,List.length_cons];have:=len_le_sum f l fun x hx=>h x (List.mem_cons_of_mem _ hx);have:=h a (List.mem_cons_self ..);omega
theorem sum_map_le {α:Type} (f g:α→Nat):∀(l:List α),(∀ x∈l,f x≤g x)→(l.map f).sum≤(l.map g).sum
 | [],_=>Nat.le_refl _
 | a::l,h=>by
   rw[List.map_cons,List.sum_cons,List.map_cons,List.sum_cons];have:=sum_map_le f g l fun x hx=>h x (List.mem_cons_of_mem _ hx);have:=h a (List.mem_cons_self ..);omega
theorem node_bulk (n:Nat) (x:NdF (Nd n)):(Enc.node (n+1)).bulk x=x.text.size+1+((x.cases.map (Enc.cas (Enc.node n)).bulk).sum+1):=rfl
theorem cas_bulk (n:Nat) (c:ByteArray×List (Nd n)):(Enc.cas (Enc.node n)).bulk c=c.1.size+1+((c.2.map (Enc.node n).bulk).sum+1):=rfl
theorem node_pos:(n:Nat)→(x:Nd n)→1≤(Enc.node n).bulk x
 | 0,x=>(show Empty from x).elim
 | n+1,x=>by rw[node_bulk n x];omega
theorem small_of_bulk:(n:Nat)→(x:Nd n)→(Enc.node n).bulk x≤10000000→SmallN n x
 | 0,_,_=>trivial
 | n+1,x,h=>by
   rw[node_bulk n x]at h;refine⟨by omega,?_,fun c hc=> ?_⟩
   ·have:=len_le_sum (Enc.cas (Enc.node n)).bulk (NdF.cases (α:=Nd n) x) fun c _=>by rw[cas_bulk];omega
    omega
   ·have h1:=mem_sum (Enc.cas (Enc.node n)).bulk (NdF.cases (α:=Nd n) x) c hc;rw[cas_bulk]at h1;have h2:=len_le_sum (Enc.node n).bulk c.2 fun y _=>node_pos n y;refine⟨by omega,by omega,fun y hy=>small_of_bulk n y ?_⟩
    have:=mem_sum (Enc.node n).bulk c.2 y hy;omega
theorem msgIn_of_bulk (n:Nat) (m:List (Nd n)) (h:(m.map (Enc.node n).bulk).sum≤10000000):MsgIn n m:=
 ⟨Nat.le_trans (len_le_sum (Enc.node n).bulk m fun y _=>node_pos n y) h,fun x hx=>small_of_bulk n x (Nat.le_trans (mem_sum _ m x hx) h)⟩
theorem cnt_of_bulk:(n:Nat)→(m:List (Nd n))→cntN n m≤(m.map (Enc.node n).bulk).sum
 | 0,_=>Nat.zero_le _
 | n+1,m=>by
   refine sum_map_le (fun x:NdF (Nd n)=>1+cntC (cntN n) (casesR x)) (Enc.node (n+1)).bulk m fun x _=> ?_;rw[node_bulk n x];have h1:cntC (cntN n) (casesR x)≤(x.cases.map (Enc.cas (Enc.node n)).bulk).sum:=by
    have h2:cntC (cntN n) x.cases≤(x.cases.map (Enc.cas (Enc.node n)).bulk).sum:=sum_map_le _ _ x.cases fun c _=>by
     rw[cas_bulk];have:=cnt_of_bulk n c.2;omega
    unfold casesR;split
    ·exact h2
    ·exact Nat.zero_le _
   omega
end Go.Proofs.YtpfmmbbggcghiaaGreatDoor
