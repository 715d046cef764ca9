/- date.Parse. -/
import Derived.Test.YtagfnpdoooachaaGreatDoorDskI
set_option linter.unusedSimpArgs false
set_option linter.unusedVariables false
set_option maxHeartbeats 6400000
set_option maxRecDepth 100000
namespace Go.Proofs.YtagfnpdoooachaaGreatDoor
open Go.RowKit
open Lib (hid)
def numAt (l:List ByteArray) (j q:Nat):Int:=if q < j then(atoiV (bts (l.getD q ByteArray.empty))).getD 0 else 0
def numsV (l:List ByteArray) (j:Nat):Array Value:=#[.int .i64 (numAt l j 0),.int .i64 (numAt l j 1),.int .i64 (numAt l j 2)]
theorem numAt_zero (l:List ByteArray) (q:Nat):numAt l 0 q=0:=if_neg (by omega)
theorem numAt_other {l:List ByteArray} {j q:Nat} (h:¬ q=j):numAt l (j+1) q=numAt l j q:=by
 unfold numAt
 by_cases h1:q < j
 ·rw[if_pos h1,if_pos (by omega)]
 ·rw[if_neg h1,if_neg (by omega)]
theorem numAt_self {l:List ByteArray} {j:Nat} (hj:j < l.length) {v:Int} (hv:atoiV (bts l[j])=some v):numAt l (j+1) j=v:=by
 unfold numAt;rw[if_pos (by omega),List.getD_eq_getElem?_getD,List.getElem?_eq_getElem hj,Option.getD_some,hv,Option.getD_some]
theorem numsV_set {l:List ByteArray} {j:Nat} (hj:j < l.length) (h3:j < 3) {v:Int} (hv:atoiV (bts l[j])=some v):(numsV l j).setIfInBounds j (.int .i64 v)=numsV l (j+1):=by
 have hs:=numAt_self hj hv;unfold numsV
 match j,h3 with
 | 0,_=>rw[hs,numAt_other (by decide:¬ 1=0),numAt_other (by decide:¬ 2=0)];rfl
 | 1,_=>rw[hs,numAt_other (by decide:¬ 0=1),numAt_other (by decide:¬ 2=1)];rfl
 | 2,_=>rw[hs,numAt_other (by decide:¬ 0=2),numAt_other (by decide:¬ 1=2)];rfl
theorem numAt_bounds (l:List ByteArray) (j q:Nat): -9223372036854775808≤numAt l j q∧numAt l j q≤9223372036854775807:=by
 unfold numAt;split
 ·cases h:atoiV (bts (l.getD q ByteArray.empty))with
  | none=>rw[Option.getD_none];omega
  | some v=>rw[Option.getD_some];exact atoiV_bounds h
 ·omega
def dayOf (l:List ByteArray):DayV:=⟨numAt l l.length 0,numAt l l.length 1,numAt l l.length 2⟩
theorem numAt_map (l:List ByteArray) (q:Nat):(l.map fun w=>(atoiV (bts w)).getD 0).getD q 0=numAt l l.length q:=by
 unfold numAt;rw[List.getD_eq_getElem?_getD,List.getElem?_map,List.getD_eq_getElem?_getD]
 by_cases h:q < l.length
 ·rw[if_pos h,List.getElem?_eq_getElem h];rfl
 ·rw[if_neg h,List.getElem?_eq_none (by omega)];rfl
theorem dayP_bad {s:ByteArray} {j:Nat} (hj:j < (dash3 s).length) (h:atoiV (bts (dash3 s)[j])=none):dayP s=none:=by
 unfold dayP;rw[if_neg];intro hall;have:=List.all_eq_true.1 hall _ (List.getElem_mem hj);rw[h]at this;cases this
theorem dayP_all {s:ByteArray} (h:∀ q (hq:q < (dash3 s).length),(atoiV (bts (dash3 s)[q])).isSome=true):dayP s=if(dayOf (dash3 s)).ok∧dayT (dayOf (dash3 s))=bts s then some (dayOf (dash3 s))else none:=by
 unfold dayP;rw[if_pos]
 ·dsimp only;rw[numAt_map,numAt_map,numAt_map]
  rfl
 ·rw[List.all_eq_true];intro x hx;obtain⟨q,hq,rfl⟩:=List.getElem_of_mem hx;exact h q hq
theorem dayParse_any (s:ByteArray) (w:World) (hs:s.size≤1000000000) (hv:EvV w) (hA:AheadV w):
 Calls Tryz.prog 33 #[.string s] w fun e w'=>((∃ t,dayP s=some t∧t.ok∧e=.returned (.tuple #[t.v,.nilIface]))∨(dayP s=none∧e=.returned (.tuple #[DayV.v ⟨0,0,0⟩,.iface 27 (.int .i64 3)])))∧Below w.heap.size w w':=by
 obtain⟨W2,eW2⟩:∃ W,W=(w.alloc (.cells #[.int .i64 0,.int .i64 0,.int .i64 0] 62)).alloc (.cells #[.int .i64 0,.int .i64 0,.int .i64 0] 117):=⟨_,rfl⟩;have hb2:Below w.heap.size w W2:=by rw[eW2];exact((Below.refl _ _).alloc (Nat.le_refl _) _).alloc (by simp) _
 have hr2:Blk W2 w.heap.size 62 #[.int .i64 0,.int .i64 0,.int .i64 0]:=by rw[eW2];exact(Blk.new _ _ _).alloc _
 have hn2:Blk W2 (w.heap.size+1) 117 #[.int .i64 0,.int .i64 0,.int .i64 0]:=by
  rw[eW2];have:=Blk.new (w.alloc (.cells #[.int .i64 0,.int .i64 0,.int .i64 0] 62)) 117 #[.int .i64 0,.int .i64 0,.int .i64 0];rw[World.size_alloc]at this;exact this
 have hz2:W2.heap.size=w.heap.size+2:=by rw[eW2];simp
 have HSp:=hid (splitN3_any s 45 W2 hs (hv.rv.below hb2));have HV:Hid (∀ W,Below w.heap.size w W→EvV W∧AheadV W):=hid fun W hW=>⟨hv.below hW,hA.below hW⟩;have hl3:(dash3 s).length≤3:=by
  have:=Lib.splitB_length_le ⟨#[45]⟩ 0 (min 3 (s.size+1) - 1) s;unfold dash3;omega
 have hlz:∀ x∈dash3 s,x.size≤s.size:=fun x hx=>pieces_size _ _ _ _ x hx;have HBad:Hid (∀ j (hj:j < (dash3 s).length),atoiV (bts (dash3 s)[j])=none→dayP s=none):=hid fun j hj h=>dayP_bad hj h;have HAll:Hid ((∀ q (hq:q < (dash3 s).length),(atoiV (bts (dash3 s)[q])).isSome=true)→dayP s=if(dayOf (dash3 s)).ok∧dayT (dayOf (dash3 s))=bts s then some (dayOf (dash3 s))else none):=hid fun h=>dayP_all h
 rw[show Lib.splitB ⟨#[45]⟩ 0 (min 3 (s.size+1) - 1) s=dash3 s from rfl]at HSp;generalize dash3 s=l at *;generalize dayP s=res at *;have HB2:=hid hb2;have HR2:=hid hr2;have HN2:=hid hn2;have EW:=hid eW2;have HLz:=hid hlz;clear hb2 hr2 hn2 eW2 hv hA hlz
 go_enter Tryz.func33,Tryz.ntmps33
 go_upto_region 2 with fail
 rw[←EW.out];clear EW
 go_wp2_with fail
 refine HSp.out.mono ?_;clear HSp;rintro e w3 ⟨c,rfl,hlc,hz3,hk3,hb3⟩;have HB3:=hid (HB2.out.trans (hb3.mono HB2.out.size));have HR3:=hid (HR2.out.below hb3 HR2.out.lt);have hn3:=HN2.out.below hb3 HN2.out.lt;have HK3:=hid hk3;rw[hz2]at hz3;rw[hz2]at hk3;have HN3:Hid (Blk w3 (w.heap.size+1) 117 (numsV l 0)):=hid (by unfold numsV;rw[numAt_zero,numAt_zero,numAt_zero];exact hn3)
 have HK3:=hid hk3;clear hb3 hn3 hk3 HB2 HR2 HN2;rw[hz2];clear hz2
 go_wp2_with fail
 go_loopw [5,6,7,8,15] (fun _ _ _ _ i wr=>∃ j:Nat,j≤l.length∧i=.int .i64 (j:Int)∧Hid (∀ q (hq:q < l.length),q < j→(atoiV (bts l[q])).isSome=true)∧Blk wr (w.heap.size+1) 117 (numsV l j)∧Blk wr w.heap.size 62 #[.int .i64 0,.int .i64 0,.int .i64 0]∧Blk wr (w.heap.size+2) 9 (Lib.cellsOf l c)∧Below w.heap.size w wr) (fun _ _ _ _ i _=>l.length - (intOf i).toNat)
 case atStart=>exact⟨0,Nat.zero_le _,rfl,hid fun q hq h=>absurd h (by omega),HN3.out,HR3.out,HK3.out,HB3.out⟩
 case round=>
  obtain⟨j,hj,rfl,HSm,hn,hr,hk,hb⟩:=hrel;have HN:=hid hn;have HR:=hid hr;have HK:=hid hk;have HB:=hid hb;clear HN3 HR3 HK3 HB3 hz3
  by_cases hlt:j < l.length
  ·have x0:wr.cell? ⟨w.heap.size+2,j,none⟩=some (.string l[j]):=(hk.cell j).trans (cellsOf_at hlt);have hzj:l[j].size≤1000000000:=Nat.le_trans (HLz.out _ (List.getElem_mem hlt)) hs;have HAt:=hid (atoiV_any l[j] wr hzj (HV.out wr hb).1.rv);have HBd:Hid (atoiV (bts l[j])=none→res=none):=hid (HBad.out j hlt);have HSet:Hid (∀ v,atoiV (bts l[j])=some v→(numsV l j).setIfInBounds j (.int .i64 v)=numsV l (j+1)∧(∀ q (hq:q < l.length),q < j+1→(atoiV (bts l[q])).isSome=true)):=hid fun v hv=>⟨numsV_set hlt (by omega) hv,fun q hq h=>by
    rcases Nat.lt_or_ge q j with h1|h1
    ·exact HSm.out q hq h1
    ·obtain rfl:q=j:=by omega
     rw[hv];rfl⟩
   generalize l[j]=x at *;have j0:(0:Int)≤(j:Int):=Int.natCast_nonneg j;have j3:(j:Int) < 3:=by omega
   have j3n:j < 3:=by omega
   clear hn hr hk hb HSm
   go_wp2_with fail
   refine HAt.out.mono ?_;clear HAt x0;rintro e w4 ⟨hres,hb4⟩;have hn4:=HN.out.below hb4 HN.out.lt;have hr4:=HR.out.below hb4 HR.out.lt;have hk4:=HK.out.below hb4 HK.out.lt;have HB4:=hid (HB.out.trans (hb4.mono HB.out.size));have HN4:=hid hn4;have HR4:=hid hr4;have HK4:=hid hk4;clear hb4 HN HR HK HB;rcases hres with⟨v,rfl,hat⟩|⟨v,tt,p,rfl,hat⟩
   ·obtain⟨hset,hsm⟩:=HSet.out v hat;have n4:w4.cell? ⟨w.heap.size+1,j,none⟩=some (.int .i64 (numAt l j j)):=(hn4.cell j).trans (by
     match j,j3n with
     | 0,_=>rfl
     | 1,_=>rfl
     | 2,_=>rfl)
    have f4:=hn4.frozen j;have HF:Hid (Blk (w4.setCell ⟨w.heap.size+1,j,none⟩ (.int .i64 v)) (w.heap.size+1) 117 (numsV l (j+1))∧Blk (w4.setCell ⟨w.heap.size+1,j,none⟩ (.int .i64 v)) w.heap.size 62 #[.int .i64 0,.int .i64 0,.int .i64 0]∧Blk (w4.setCell ⟨w.heap.size+1,j,none⟩ (.int .i64 v)) (w.heap.size+2) 9 (Lib.cellsOf l c)∧Below w.heap.size w (w4.setCell ⟨w.heap.size+1,j,none⟩ (.int .i64 v))):=hid ⟨by
     have:=HN4.out.set_ j (.int .i64 v);rw[hset]at this;exact this,HR4.out.far (p:=⟨w.heap.size+1,j,none⟩) (by show w.heap.size≠w.heap.size+1;omega) _,HK4.out.far (p:=⟨w.heap.size+1,j,none⟩) (by show w.heap.size+2≠w.heap.size+1;omega) _,HB4.out.setCell (p:=⟨w.heap.size+1,j,none⟩) (Nat.le_succ _) _⟩
    have HSm:=hid hsm;clear hn4 hr4 hk4 hat hset hsm HSet HBd
    go_wp2_with fail
    go_roundw
    case rel=>exact⟨j+1,by omega,by go_num,HSm,HF.out.1,HF.out.2.1,HF.out.2.2.1,HF.out.2.2.2⟩
    case measure=>simp[intOf];omega
   ·have HRn:=hid (HBd.out hat);have r0:=(hr4.cell 0).trans (show _=some (.int .i64 0)from rfl);have r1:=(hr4.cell 1).trans (show _=some (.int .i64 0)from rfl);have r2:=(hr4.cell 2).trans (show _=some (.int .i64 0)from rfl);have g0:=hr4.frozen 0;have g1:=hr4.frozen 1;have g2:=hr4.frozen 2;clear hn4 hr4 hk4 hat HSet HBd
    go_wp2_with fail
    refine bodyPost_ret (v:=.tuple #[.agg #[.int .i64 0,.int .i64 0,.int .i64 0],.iface 27 (.int .i64 3)]) ?_ rfl ?_
    ·simp[results,Tryz.results33,go_sem,r0,r1,r2,g0,g1,g2]
    ·refine⟨.inr ⟨HRn.out,rfl⟩,?_⟩
     repeat' (first|exact HB4.out|refine Below.setCell ?_ (by show w.heap.size≤w.heap.size;omega) _)
  ·obtain rfl:j=l.length:=by omega
   have HA:=hid (HAll.out fun q hq=>HSm.out q hq hq);have bd0:=numAt_bounds l l.length 0;have bd1:=numAt_bounds l l.length 1;have bd2:=numAt_bounds l l.length 2;have HTx:Hid (∀ W,Below w.heap.size w W→Calls Tryz.prog 64 #[.agg #[.int .i64 (numAt l l.length 0),.int .i64 (numAt l l.length 1),.int .i64 (numAt l l.length 2)]] W fun e w'=>e=.returned (dayR (dayOf l))∧Below W.heap.size W w'):=hid fun W hW=>dtext_any (dayOf l) W (HV.out W hW).2 (HV.out W hW).1.mv bd0 bd1 bd2;have n0:wr.cell? ⟨w.heap.size+1,0,none⟩=some (.int .i64 (numAt l l.length 0)):=(hn.cell 0).trans rfl;have n1:wr.cell? ⟨w.heap.size+1,1,none⟩=some (.int .i64 (numAt l l.length 1)):=(hn.cell 1).trans rfl;have n2:wr.cell? ⟨w.heap.size+1,2,none⟩=some (.int .i64 (numAt l l.length 2)):=(hn.cell 2).trans rfl;have HD:Hid (dayOf l=⟨numAt l l.length 0,numAt l l.length 1,numAt l l.length 2⟩):=hid rfl;generalize numAt l l.length 0=y at *;generalize numAt l l.length 1=m at *;generalize numAt l l.length 2=d at *;generalize dayOf l=t at *;have HDt:=HD.out;subst HDt;obtain⟨W5,eW5⟩:∃ W,W=wr.alloc (.cells #[.int .i64 y,.int .i64 m,.int .i64 d] 62):=⟨_,rfl⟩;have hb5:Below wr.heap.size wr W5:=by rw[eW5];exact(Below.refl _ _).alloc (Nat.le_refl _) _
   have hd5:Blk W5 wr.heap.size 62 #[.int .i64 y,.int .i64 m,.int .i64 d]:=by rw[eW5];exact Blk.new _ _ _
   have HB5:=hid (HB.out.trans (hb5.mono HB.out.size));have HR5:=hid (HR.out.below hb5 HR.out.lt);have HD5:=hid hd5;have EW5:=hid eW5;have HT5:=hid (HTx.out W5 HB5.out);have x0:=(hd5.cell 0).trans (show _=some (.int .i64 y)from rfl);have x1:=(hd5.cell 1).trans (show _=some (.int .i64 m)from rfl);have x2:=(hd5.cell 2).trans (show _=some (.int .i64 d)from rfl);have hws:w.heap.size < wr.heap.size:=HR.out.lt;clear hn hr hk hb HSm hb5 hd5 eW5 HTx HN HR HK HB HD bd0 bd1 bd2
   go_upto_region 11 with fail
   rw[←EW5.out];clear EW5 n0 n1 n2
   go_wp2_with fail
   refine HT5.out.mono ?_;clear HT5 x0 x1 x2;rintro e w6 ⟨rfl,hb6⟩;have HB6:=hid (HB5.out.trans (hb6.mono HB5.out.size));have hr6:=HR5.out.below hb6 HR5.out.lt;have hd6:=HD5.out.below hb6 HD5.out.lt;have r0:=(hr6.cell 0).trans (show _=some (.int .i64 0)from rfl);have r1:=(hr6.cell 1).trans (show _=some (.int .i64 0)from rfl);have r2:=(hr6.cell 2).trans (show _=some (.int .i64 0)from rfl);have g0:=hr6.frozen 0;have g1:=hr6.frozen 1;have g2:=hr6.frozen 2;have x0:=(hd6.cell 0).trans (show _=some (.int .i64 y)from rfl);have x1:=(hd6.cell 1).trans (show _=some (.int .i64 m)from rfl);have x2:=(hd6.cell 2).trans (show _=some (.int .i64 d)from rfl);clear hb6 hr6 hd6 HB5 HR5 HD5
   by_cases hok:DayV.ok ⟨y,m,d⟩
   ·rw[show dayR ⟨y,m,d⟩=.tuple #[.string (str (dayT ⟨y,m,d⟩)),.nilIface]from if_pos hok]
    by_cases heq:dayT ⟨y,m,d⟩=bts s
    ·have HP:Hid (res=some ⟨y,m,d⟩):=hid (by rw[HA.out,if_pos ⟨hok,heq⟩])
     have HOk:=hid hok;rw[heq,str_bts];clear heq hok HA
     go_wp2_with fail
     refine bodyPost_ret (v:=.tuple #[.agg #[.int .i64 y,.int .i64 m,.int .i64 d],.nilIface]) ?_ rfl ?_
     ·simp[results,Tryz.results33,go_sem,r0,r1,r2,g0,g1,g2]
     ·refine⟨.inl ⟨⟨y,m,d⟩,HP.out,HOk.out,rfl⟩,?_⟩
      repeat' (first|exact HB6.out|refine Below.setCell ?_ (by show w.heap.size≤w.heap.size;omega) _)
    ·have HP:Hid (res=none):=hid (by rw[HA.out,if_neg (fun h=>heq h.2)])
     have hne:=neq_str heq;generalize str (dayT ⟨y,m,d⟩)=z at *;clear heq hok HA
     go_wp2_with fail
     refine bodyPost_ret (v:=.tuple #[.agg #[.int .i64 0,.int .i64 0,.int .i64 0],.iface 27 (.int .i64 3)]) ?_ rfl ?_
     ·simp[results,Tryz.results33,go_sem,r0,r1,r2,g0,g1,g2]
     ·refine⟨.inr ⟨HP.out,rfl⟩,?_⟩
      repeat' (first|exact HB6.out|refine Below.setCell ?_ (by show w.heap.size≤w.heap.size;omega) _)
   ·rw[show dayR ⟨y,m,d⟩=.tuple #[.string ⟨#[]⟩,.iface 27 (.int .i64 1)]from if_neg hok];have HP:Hid (res=none):=hid (by rw[HA.out,if_neg (fun h=>hok h.1)])
    clear hok HA
    go_wp2_with fail
    refine bodyPost_ret (v:=.tuple #[.agg #[.int .i64 0,.int .i64 0,.int .i64 0],.iface 27 (.int .i64 3)]) ?_ rfl ?_
    ·simp[results,Tryz.results33,go_sem,r0,r1,r2,g0,g1,g2]
    ·refine⟨.inr ⟨HP.out,rfl⟩,?_⟩
     repeat' (first|exact HB6.out|refine Below.setCell ?_ (by show w.heap.size≤w.heap.size;omega) _)
theorem weekOf_bounds (t:DayV) (h:t.ok):(-1000000≤(weekOf t).y∧(weekOf t).y≤1000000)∧(-1000000≤(weekOf t).w∧(weekOf t).w≤1000000)∧(-1000000≤(weekOf t).d∧(weekOf t).d≤1000000):=by
 obtain⟨k,k2,hback,hk1,hfirst⟩:=backW_at t h;obtain⟨b1,b2,_⟩:=day_bounds h;have hnb:=numD_bounds t h;have hy1:yearD (t.y+1)≤3660000:=by unfold yearD;omega
 have hy0:=yearD_bounds t.y (by omega) (by omega)
 have hpos:1≤t.y+1 - (k:Int):=by omega
 have hfb:=firstW_bounds (t.y+1 - k) hpos (by omega)
 have e:weekOf t=⟨t.y+1 - k,(numD t - firstW (t.y+1 - k)) / 7+1,numD t % 7+1⟩:=by unfold weekOf;dsimp only;rw[backW_eq t k k2 hback hfirst]
 rw[e];dsimp only;omega
theorem form_week (b o n c:Nat) (s:ByteArray) (w:World) (hn:0 < n) (hc:w.cell? ⟨b,o,none⟩=some (.string s)) (hs:s.size≤1000000000) (hv:EvV w) (hA:AheadV w):
 Calls Tryz.prog 31 #[.slice (some ⟨b,o,none⟩) n c] w fun e w'=>TellR (weekA s) w e w':=by
 have HD:=hid (dayParse_any s w hs hv hA);have HV:Hid (∀ W,Below w.heap.size w W→EvV W∧AheadV W):=hid fun W hW=>⟨hv.below hW,hA.below hW⟩;have i1:(0:Int) < (n:Int):=by omega
 clear hv hA
 go_enter Tryz.func31,Tryz.ntmps31
 go_wp2_with fail
 refine HD.out.mono ?_;clear HD;rintro e w1 ⟨hres,hb1⟩;have HB1:=hid hb1;clear hb1 hc;rcases hres with⟨t,ht,hok,rfl⟩|⟨hd,rfl⟩
 ·have HA:Hid (weekA s=if weekE (weekOf t)≠0 then([],weekE (weekOf t))else(weekT (weekOf t),0)):=hid (by unfold weekA;rw[ht])
  have HO:Hid (∀ W,Below w.heap.size w W→Calls Tryz.prog 36 #[t.v] W fun e w'=>e=.returned (.tuple #[(weekOf t).v,.nilIface])∧Below W.heap.size W w'):=hid fun W hW=>weekOf_any t W (HV.out W hW).2 hok;obtain⟨g1,g2,g3⟩:=weekOf_bounds t hok;have HX:Hid (∀ W,Below w.heap.size w W→Calls Tryz.prog 34 #[(weekOf t).v] W fun e w'=>e=.returned (weekR (weekOf t))∧Below W.heap.size W w'):=hid fun W hW=>weekText_any (weekOf t) W (HV.out W hW).2 (HV.out W hW).1.mv g1 g2 g3;obtain⟨y,m,d⟩:=t;have HR:=hid (read_date y m d w1);generalize weekOf ⟨y,m,d⟩=k at *;clear ht hok g1 g2 g3 HV;have hkv:k.v=.agg #[.int .i64 k.y,.int .i64 k.w,.int .i64 k.d]:=rfl;have HM:=hid (fun W=>must_week k.y k.w k.d W);rw[←hkv]at HM;rw[hkv]at HM HO HX;clear hkv;have HRk:Hid (weekR k=if weekE k=0 then .tuple #[.string (str (weekT k)),.nilIface]else .tuple #[.string ⟨#[]⟩,.iface 27 (.int .i64 (weekE k))]):=hid rfl
  generalize k.y=ky at *;generalize k.w=kw at *;generalize k.d=kd at *;generalize weekR k=kr at *;generalize weekE k=ke at *;generalize weekT k=kt at *;unfold DayV.v at *;dsimp only at*
  go_wp2_with fail
  refine HR.out.mono ?_;clear HR;rintro e w2 ⟨rfl,hb2⟩;obtain⟨W3,eW3⟩:∃ W,W=w2.alloc (.cells #[.int .i64 y,.int .i64 m,.int .i64 d] 62):=⟨_,rfl⟩;have hb3:Below w2.heap.size w2 W3:=by rw[eW3];exact(Below.refl _ _).alloc (Nat.le_refl _) _
  have hk3:Blk W3 w2.heap.size 62 #[.int .i64 y,.int .i64 m,.int .i64 d]:=by rw[eW3];exact Blk.new _ _ _
  have hB2:=HB1.out.trans (hb2.mono HB1.out.size);have hB3:=hB2.trans (hb3.mono hB2.size);have HB3:=hid hB3;have HO3:=hid (HO.out W3 hB3);have x0:=(hk3.cell 0).trans (show _=some (.int .i64 y)from rfl);have x1:=(hk3.cell 1).trans (show _=some (.int .i64 m)from rfl);have x2:=(hk3.cell 2).trans (show _=some (.int .i64 d)from rfl);have EW3:=hid eW3;clear hb2 hb3 hk3 hB2 hB3 HB1 HO eW3
  go_upto_region 2 with fail
  rw[←EW3.out];clear EW3
  go_wp2_with fail
  refine HO3.out.mono ?_;clear HO3 x0 x1 x2;rintro e w4 ⟨rfl,hb4⟩;have HB4:=hid (HB3.out.trans (hb4.mono HB3.out.size));have HM4:=hid (HM.out w4);clear hb4 HB3 HM
  go_wp2_with fail
  refine HM4.out.mono ?_;clear HM4;rintro e w5 ⟨rfl,hb5⟩;have hB5:=HB4.out.trans (hb5.mono HB4.out.size);have HB5:=hid hB5;have HX5:=hid (HX.out w5 hB5);clear hb5 hB5 HB4 HX
  go_wp2_with fail
  refine HX5.out.mono ?_;clear HX5;rintro e w6 ⟨rfl,hb6⟩;have HB6:=hid (HB5.out.trans (hb6.mono HB5.out.size));clear hb6 HB5
  by_cases h0:ke=0
  ·rw[HRk.out,if_pos h0];have HA2:Hid (weekA s=(kt,0)):=hid (by rw[HA.out,if_neg (fun h=>h h0)])
   have HMs:=hid (must_str (.string (str kt)) w6);clear h0 HA HRk
   go_wp2_with fail
   refine HMs.out.mono ?_;clear HMs;rintro e w7 ⟨rfl,rfl⟩
   go_wp2_with fail
   go_ret
   exact⟨HB6.out,.inl ⟨by rw[HA2.out],by rw[HA2.out];rfl⟩⟩
  ·rw[HRk.out,if_neg h0];have HA2:Hid (weekA s=([],ke)):=hid (by rw[HA.out,if_pos h0])
   have HMs:=hid (must_str_no (.string ⟨#[]⟩) ke w6);have H0:=hid h0;clear h0 HA HRk
   go_wp2_with fail
   refine HMs.out.mono ?_;clear HMs;rintro e w7 ⟨rfl,rfl⟩
   go_wp2_with fail
   exact⟨rfl,HB6.out,.inr ⟨by rw[HA2.out];exact H0.out,by rw[HA2.out]⟩⟩
 ·have HA:Hid (weekA s=([],9)):=hid (by unfold weekA;rw[hd])
  have HR:=hid (read_date_no 0 0 0 27 (.int .i64 3) w1);clear hd HV;unfold DayV.v;dsimp only
  go_wp2_with fail
  refine HR.out.mono ?_;clear HR;rintro e w2 ⟨rfl,hb2⟩;have HB2:=hid (HB1.out.trans (hb2.mono HB1.out.size));clear hb2
  go_wp2_with fail
  exact⟨rfl,HB2.out,.inr ⟨by rw[HA.out];decide,by rw[HA.out]⟩⟩
theorem info_tag:(Tryz.prog.info? 77).map (fun i=>(i.zero,i.size,i.bytes))=some (some (.agg #[.string ⟨#[]⟩,.string ⟨#[]⟩,.string ⟨#[]⟩,.slice none 0 0]),4,72):=by kernel_rfl
structure TagIn (w:World) (p:Tg×Value):Prop where
 lo:∃ lo,ListOk Enc.str w lo w.heap.size p.2 p.1.vars
 len:p.1.vars.length≤140737488355328
 vars:∀ s∈p.1.vars,s.size≤9223372036854775807
 lang:p.1.lang.size≤9223372036854775807
 script:p.1.script.size≤9223372036854775807
 region:p.1.region.size≤9223372036854775807
theorem TagIn.below {w w':World} {p:Tg×Value} (h:TagIn w p) (hb:Below w.heap.size w w'):TagIn w' p:=
 ⟨let ⟨lo,hl⟩:=h.lo;⟨lo,(hl.below Enc.str_laws hb).mono Enc.str_laws (Nat.le_refl _) hb.size⟩,h.len,h.vars,h.lang,h.script,h.region⟩
theorem check_in {w:World} {p:Tg×Value} (h:TagIn w p):
 Calls Tryz.prog 69 #[.agg #[.string p.1.lang,.string p.1.script,.string p.1.region,p.2]] w fun e w'=>e=.returned (errV (tagFault p.1))∧Below w.heap.size w w':=by
 obtain⟨lo,hl⟩:=h.lo;exact check_any p.1 p.2 w lo hl h.len h.vars h.lang h.script h.region
theorem flatT_snoc (ps:List (Tg×Value)) (q:Tg×Value):flatT (ps++[q])=flatT ps++tagCells q:=by simp[flatT]
theorem Rowed.push {base:Nat} {W w':World} {o v':Value} {ps:List (Tg×Value)} {q:Tg×Value} (h:Rowed base W o ps) (hq:VarRow base W q) (hap:∀ p∈ps,Apart p q) (hg:W.grownBy w' o.ownBlock)
 (hown:w'.ownsRow base 77 4 v' (ps.length+1) (flatT ps++tagCells q)):Rowed base w' v' (ps++[q]):=by
 have keep:∀ p,VarRow base W p→VarRow base w' p:=fun p hp=>own_keep hp fun g hpg hlt=>hg.block g hlt fun e=>own_types hp h.own (by decide) hpg e.symm
 refine⟨?_,fun p hp=> ?_,?_⟩
 ·rw[flatT_snoc];have e:(ps++[q]).length=ps.length+1:=by simp
  rw[e];exact hown
 ·rcases List.mem_append.1 hp with hp|hp
  ·exact keep p (h.vars p hp)
  ·rw[List.mem_singleton.1 hp];exact keep q hq
 ·refine List.pairwise_append.2 ⟨h.apart,List.pairwise_singleton _ _,fun a ha b hb=> ?_⟩;rw[List.mem_singleton.1 hb];exact hap a ha
theorem less_step {base:Nat} {W w':World} {o:Value} {t:Tg} {ps:List (Tg×Value)} {p q:Tg×Value} {b:Bool} (h:Rowed base W o ps) (hp:VarRow base W p) (hbase:base≤W.heap.size)
 (hb:Below W.heap.size W w') (hl:Lessed W w' p q b) (ps0:List (Tg×Value)) (hps:ps=ps0++[p]) (hc:chainOf t=ps0.map Prod.fst++chainOf p.1):
 Rowed base w' o ps∧chainOf t=ps.map Prod.fst++(if b then chainOf q.1 else [])∧VarRow base w' q∧(b=true→∀ x∈ps,Apart x q)∧(b=true→deg q.1 < deg p.1)∧q.1.vars.length≤p.1.vars.length:=by
 refine⟨h.below hb (Nat.le_refl _),?_⟩;have hp':VarRow base w' p:=own_below hp hb (Nat.le_refl _);rcases hl with⟨hn,rfl,rfl⟩|⟨u,hu,rfl,rfl,hv⟩
 ·refine⟨?_,hp',fun h=>(by cases h),fun h=>(by cases h),Nat.le_refl _⟩
  rw[hc,hps,chainOf_none hn];simp
 ·refine⟨?_,?_,fun _ x hx=> ?_,fun _=>less_deg hu,?_⟩
  ·rw[hc,hps,chainOf_some hu];simp
  ·rcases hv with hv|⟨h1,h2,h3⟩
   ·exact own_mono hv hbase
   ·unfold VarRow at hp' ⊢;rw[h1,h3];rw[h2]at hp';exact hp'
  ·rcases hv with hv|⟨h1,h2,h3⟩
   ·intro _ g hg hg';have h1:=(own_lt hv hg').1;have h2:=(own_lt (h.vars x hx) hg).2;omega
   ·intro h0;rw[h3]at h0;exact absurd h0 (by simp)
  ·unfold less at hu;split at hu
   ·injection hu with hu;rw[←hu];simp
   ·split at hu
    ·split at hu
     ·cases hu
     ·injection hu with hu;rw[←hu];exact Nat.le_refl _
    ·injection hu with hu;rw[←hu];exact Nat.le_refl _
def lenV:Value→Nat
 | .slice _ n _=>n
 | _=>0
structure Chained (w wr:World) (t:Tg) (ps:List (Tg×Value)) (q:Tg×Value) (b:Bool) (o:Value) (nb:Nat):Prop where
 below:Below w.heap.size w wr
 rowed:Rowed w.heap.size wr o ps
 box:Blk wr nb 77 #[.string q.1.lang,.string q.1.script,.string q.1.region,q.2]
 old:∀ g,o.ownBlock=some g→g < nb
 base:w.heap.size≤nb
 sum:chainOf t=ps.map Prod.fst++(if b then chainOf q.1 else [])
 qv:VarRow w.heap.size wr q
 ap:b=true→∀ x∈ps,Apart x q
 len:q.1.vars.length≤3
 deg:ps.length+(if b then deg q.1+1 else 0)≤6
theorem chain_ok (p:Tg×Value) (w:World) (h:TagIn w p) (hf:tagFault p.1=0):
 Calls Tryz.prog 39 #[.agg #[.string p.1.lang,.string p.1.script,.string p.1.region,p.2]] w fun e w'=>Below w.heap.size w w'∧∃ u,e=.returned (.tuple #[u,.nilIface])∧TagRow w.heap.size w' u (chainOf p.1):=by
 have HC:Hid (∀ W,Below w.heap.size w W→Calls Tryz.prog 69 #[.agg #[.string p.1.lang,.string p.1.script,.string p.1.region,p.2]] W fun e w'=>e=.returned .nilIface∧Below W.heap.size W w'):=fun W hW=>by
  have:=check_in (h.below hW);rw[hf]at this;exact this
 have HL:Hid (p.1.vars.length≤3):=by
  by_cases h3:p.1.vars.length≤3
  ·exact h3
  ·exfalso
   unfold tagFault at hf;split at hf
   ·cases hf
   ·split at hf
    ·rw[if_pos (by omega)]at hf;cases hf
    ·contradiction
 clear hf;obtain⟨⟨l,s,r,vs⟩,v⟩:=p;obtain⟨lo,hl⟩:=h.lo;clear h;dsimp only at hl HC HL ⊢;obtain⟨A,c,rfl,hc⟩:=hl.form;have HN:Hid (∀ W,Below w.heap.size w W→(vs.length=0∨∃ b o,A=some ⟨b,o,none⟩∧∀ j u,(vs.map Value.string)[j]? =some u→W.cell? ⟨b,o+j,none⟩=some u)):=fun W hW=>news_strs (hl.below Enc.str_laws hW);clear hl
 go_enter Tryz.func39,Tryz.ntmps39
 go_wp2_with fail
 refine(HC.out _ ((Below.refl _ _).alloc (Nat.le_refl _) _)).mono ?_;rintro e w1 ⟨rfl,hb⟩;have HB:Hid (Below w.heap.size w w1):=((Below.refl _ _).alloc (Nat.le_refl _) _).trans (hb.mono (by simp))
 have m0:Blk w1 w.heap.size 77 #[.string l,.string s,.string r,.slice A vs.length c]:=(Blk.new _ _ _).below hb (by simp)
 have hsz:=hb.size;simp only[World.size_alloc]at hsz;clear hb HC;have c0:=m0.cell 0;have c1:=m0.cell 1;have c2:=m0.cell 2;have c3:=m0.cell 3;have f3:=m0.frozen 3;have M0:=hid m0;clear m0;simp at c0 c1 c2 c3
 go_wp2_with (at_builtin;refine wpList_append_any rfl _ _ 23 rfl (w.heap.size+1) 9 Tryz.underlying23 info_string rfl (by decide) [] rfl own_nil (vs.map .string) rfl (by simp) (HN.out _ HB.out) (strs_oneCell _) (by have:=HL.out;unfold maxLen;omega) (by have:=HL.out;omega) hsz ?_)
 intro v1 w2 hown hgrow hblk;obtain⟨A1,cap1,rfl,hcap1⟩:=own_slice hown;have hgrow':w1.grownBy w2 none:=hgrow;have hsz2:=hgrow'.size;have hsize1:w.heap.size < w1.heap.size:=hsz;have hlt2:w.heap.size < w2.heap.size:=by omega
 have m2:Blk w2 w.heap.size 77 #[.string l,.string s,.string r,.slice A vs.length c]:=(hgrow'.block _ hsize1 (by simp)).trans M0.out
 have HB2:Hid (Below w.heap.size w w2):=HB.out.grown hgrow (by omega) (by simp[Value.ownBlock])
 have OW:=hid hown;clear HB M0 c0 c1 c2 c3 f3 HN hown hgrow hgrow' hblk hsz;have c0:=m2.cell 0;have c1:=m2.cell 1;have c2:=m2.cell 2;have c3:=m2.cell 3;have f3:=m2.frozen 3;simp at c0 c1 c2 c3;clear m2
 go_wp2_with fail
 obtain⟨W3,hW3⟩:∃ W3,W3=(w2.setCell ⟨w.heap.size,3,none⟩ (.slice A1 vs.length cap1)).alloc (.cells #[.string l,.string s,.string r,.slice A1 vs.length cap1] 77):=⟨_,rfl⟩;have hv3:VarRow w.heap.size W3 (⟨l,s,r,vs⟩,.slice A1 vs.length cap1):=by
  rw[hW3];refine own_mono (own_keep OW.out fun g hg hlt=> ?_) (base':=w.heap.size) (by omega)
  have:=(own_lt OW.out hg).1;rw[Below.heap_alloc _ _ _ (by simp;omega),Below.heap_setCell _ _ _ _ (by simp;omega)]
 have hr3:Rowed w.heap.size W3 (.slice (some ⟨w2.heap.size,0,none⟩) 1 1) [(⟨l,s,r,vs⟩,.slice A1 vs.length cap1)]:=by
  refine⟨⟨rfl,.inr ⟨w2.heap.size,1,#[.string l,.string s,.string r,.slice A1 vs.length cap1],rfl,by omega,?_,by simp,by unfold maxLen;omega,rfl,rfl⟩⟩,fun p hp=> ?_,List.pairwise_singleton _ _⟩
  ·rw[hW3];simpa using heap_alloc_new (w2.setCell ⟨w.heap.size,3,none⟩ (.slice A1 vs.length cap1)) (.cells #[.string l,.string s,.string r,.slice A1 vs.length cap1] 77)
  ·rw[List.mem_singleton.1 hp];exact hv3
 have hb3:Below w.heap.size w W3:=by
  rw[hW3];exact(HB2.out.setCell (by simp) _).alloc (by simp;omega) _
 have hs3:w2.heap.size < W3.heap.size:=by rw[hW3];simp
 rw[←hW3];clear hW3;have hlo3:w.heap.size≤W3.heap.size:=by omega
 have HL3:=less_any (⟨l,s,r,vs⟩,.slice A1 vs.length cap1) W3 w.heap.size (hv3.list (Nat.le_refl _) (Nat.le_refl _)) (by have:=HL.out;dsimp only;omega)
 refine HL3.mono ?_;rintro e w4 ⟨hb4,q,b,rfl,hl⟩;have hstep:=less_step (t:=⟨l,s,r,vs⟩) hr3 hv3 hlo3 hb4 hl [] rfl rfl;have hd:deg ⟨l,s,r,vs⟩≤5:=by
  have:=HL.out;simp only[deg];split <;> split <;> omega
 have hs4:=hb4.size;obtain⟨g1,g2,g3,g4,g5,g6⟩:=hstep;obtain⟨⟨ql,qs,qr,qv⟩,qV⟩:=q;obtain⟨A2,cap2,hq2,_⟩:=own_slice g3;dsimp only at hq2;subst hq2;have H4:Hid (∀ wr nb,Below w4.heap.size w4 wr→nb=w4.heap.size→Blk wr nb 77 #[.string ql,.string qs,.string qr,.slice A2 qv.length cap2]→Chained w wr ⟨l,s,r,vs⟩ [(⟨l,s,r,vs⟩,.slice A1 vs.length cap1)] (⟨ql,qs,qr,qv⟩,.slice A2 qv.length cap2) b (.slice (some ⟨w2.heap.size,0,none⟩) 1 1) nb):=fun wr nb hwr hnb hbx=>
  ⟨hb3.trans ((hb4.mono hlo3).trans (hwr.mono (by omega))),g1.below hwr (Nat.le_refl _),hbx,fun g hg=>by simp[Value.ownBlock]at hg;omega,by omega,g2,own_below g3 hwr (Nat.le_refl _),g4,by have:=HL.out;dsimp only at g6 ⊢;omega,by
    cases b with
    | true=>have:=g5 rfl;dsimp only at this;simp only[if_true,List.length_singleton];omega
    | false=>simp⟩
 clear hr3 hv3 hb3 hb4 hl HL3 g1 g2 g3 g4 g5 g6 HB2 OW hs4 hs3 hlo3 hd c0 c1 c2 c3 f3 hsz2 hsize1 hlt2;dsimp only at H4 ⊢
 go_wp2_with fail
 go_loopw [5,6,7] (fun o nx f wr=>∃ ps q b nb,nx=.pointer (some ⟨nb,0,none⟩)∧f=.bool b∧Chained w wr ⟨l,s,r,vs⟩ ps q b o nb) (fun o _ _ _=>7 - lenV o)
 case atStart=>exact⟨_,_,b,_,rfl,rfl,H4.out _ _ ((Below.refl _ _).alloc (Nat.le_refl _) _) rfl (Blk.new _ _ _)⟩
 case round=>
  obtain⟨ps,⟨⟨ql,qs,qr,qv⟩,qV⟩,b,nb,rfl,rfl,H⟩:=hrel;cases b with
  | false=>
    have HH:=hid H;clear H H4
    go_wp2_with fail
    go_ret2
    exact⟨HH.out.below,_,rfl,_,by rw[HH.out.sum];simp,HH.out.rowed⟩
  | true=>
    obtain⟨A2,cap2,hq2,_⟩:=own_slice H.qv;obtain⟨B2,capo,ho2,hco⟩:=own_slice H.rowed.own;dsimp only at hq2;subst hq2;subst ho2;have m:=H.box;dsimp only at m;have c0:=m.cell 0;have c1:=m.cell 1;have c2:=m.cell 2;have c3:=m.cell 3;have hlt:=m.lt;simp at c0 c1 c2 c3;clear m;have HH:=hid H;clear H H4;have hnews:∀ j u,([Value.string ql,.string qs,.string qr,.slice A2 qv.length cap2]:List Value)[j]? =some u→(wr.alloc (.cells #[.string ql,.string qs,.string qr,.slice A2 qv.length cap2] 77)).cell? ⟨wr.heap.size,0+j,none⟩=some u:=fun j u hj=>by
     rw[Nat.zero_add,(Blk.new wr 77 #[.string ql,.string qs,.string qr,.slice A2 qv.length cap2]).cell j];simpa using hj
    have hro:=own_keep (w':=wr.alloc (.cells #[.string ql,.string qs,.string qr,.slice A2 qv.length cap2] 77)) HH.out.rowed.own (fun g _ hg=>Below.heap_alloc _ _ _ hg);have hps:ps.length≤5:=by have:=HH.out.deg;simp only[if_true]at this;omega
    have hbs:w.heap.size≤wr.heap.size:=HH.out.below.size
    go_wp2_with (at_builtin;refine wpList_append_any rfl _ _ 72 rfl w.heap.size 77 Tryz.underlying72 info_tag rfl (by decide) (flatT ps) rfl hro [.string ql,.string qs,.string qr,.slice A2 qv.length cap2] rfl rfl (.inr ⟨_,_,rfl,hnews⟩) (by simp[Value.oneCell']) (by unfold maxLen;omega) (by omega) (by simp;omega) ?_)
    intro vo w5 hown hgrow _;obtain⟨B3,cap3,rfl,_⟩:=own_slice hown;have hr1:Rowed w.heap.size (wr.alloc (.cells #[.string ql,.string qs,.string qr,.slice A2 qv.length cap2] 77)) (.slice B2 ps.length capo) ps:=HH.out.rowed.keep fun g _ hg=>Below.heap_alloc _ _ _ hg;have hq1:VarRow w.heap.size (wr.alloc (.cells #[.string ql,.string qs,.string qr,.slice A2 qv.length cap2] 77)) (⟨ql,qs,qr,qv⟩,.slice A2 qv.length cap2):=own_keep HH.out.qv fun g _ hg=>Below.heap_alloc _ _ _ hg;have hr5:=Rowed.push hr1 hq1 (HH.out.ap rfl) hgrow hown;have hsz5:=hgrow.size;simp only[World.size_alloc]at hsz5;have hb5:Below w.heap.size w w5:=(HH.out.below.alloc hbs _).grown hgrow (by simp;omega) (fun k hk=>(own_lt HH.out.rowed.own hk).1)
    have m5:Blk w5 nb 77 #[.string ql,.string qs,.string qr,.slice A2 qv.length cap2]:=(hgrow.block nb (by simp;omega) (fun e=>by have:=HH.out.old nb e.symm;omega)).trans (HH.out.box.alloc _)
    have hq5:VarRow w.heap.size w5 (⟨ql,qs,qr,qv⟩,.slice A2 qv.length cap2):=hr5.vars _ (by simp)
    have hold:∀ g,(Value.slice B3 (ps.length+1) cap3).ownBlock=some g→g < w5.heap.size:=fun g hg=>(own_lt hown hg).2;have hbase5:w.heap.size≤w5.heap.size:=by omega
    have hsum:chainOf ⟨l,s,r,vs⟩=ps.map Prod.fst++chainOf ⟨ql,qs,qr,qv⟩:=by have:=HH.out.sum;simpa using this
    have hdeg:=HH.out.deg;have hlen:=HH.out.len;simp only[if_true]at hdeg hlen;have H5:Hid (∀ w6 q b,Below (w5.heap.size+1) (w5.alloc (.cells #[.string ql,.string qs,.string qr,.slice A2 qv.length cap2] 77)) w6→Lessed (w5.alloc (.cells #[.string ql,.string qs,.string qr,.slice A2 qv.length cap2] 77)) w6 (⟨ql,qs,qr,qv⟩,.slice A2 qv.length cap2) q b→
     (∃ A c,q.2=.slice A q.1.vars.length c)∧∀ wr',Below w5.heap.size w6 wr'→(∀ g,w5.heap.size < g→g < w6.heap.size→wr'.heap[g]? =w6.heap[g]?)→Blk wr' w5.heap.size 77 #[.string q.1.lang,.string q.1.script,.string q.1.region,q.2]→
       Chained w wr' ⟨l,s,r,vs⟩ (ps++[(⟨ql,qs,qr,qv⟩,.slice A2 qv.length cap2)]) q b (.slice B3 (ps.length+1) cap3) w5.heap.size):=fun w6 q b hb6 hl=>by
     have e6:(w5.alloc (.cells #[.string ql,.string qs,.string qr,.slice A2 qv.length cap2] 77)).heap.size=w5.heap.size+1:=by simp
     have hst:=less_step (t:=⟨l,s,r,vs⟩) (hr5.keep fun g _ hg=>Below.heap_alloc w5 (.cells #[.string ql,.string qs,.string qr,.slice A2 qv.length cap2] 77) _ hg) (own_keep hq5 fun g _ hg=>Below.heap_alloc w5 (.cells #[.string ql,.string qs,.string qr,.slice A2 qv.length cap2] 77) _ hg) (by omega) (by rw[e6];exact hb6) hl ps rfl hsum
     obtain⟨g1,g2,g3,g4,g5,g6⟩:=hst;refine⟨let ⟨A,c,h,_⟩:=own_slice g3;⟨A,c,h⟩,fun wr' hbr hkeep hbx=> ?_⟩
     have keep:∀ g,g≠w5.heap.size→g < w6.heap.size→wr'.heap[g]? =w6.heap[g]? :=fun g hg hlt=>by
      rcases Nat.lt_or_ge g w5.heap.size with h|h
      ·exact hbr.block g h
      ·exact hkeep g (by omega) hlt
     have hne:∀ {base:Nat} {e:TypeId} {size:Nat} {v:Value} {n:Nat} {xs:List Value},w6.ownsRow base e size v n xs→e≠77→∀ g,v.ownBlock=some g→g≠w5.heap.size:=by
      intro base e size v n xs ho he g hg hgw;subst hgw;obtain⟨_,⟨h2,_⟩|⟨g1,cap,cur,hv,hb,hh,r⟩⟩:=ho
      ·rw[h2]at hg;cases hg
      ·rw[hv]at hg;injection hg with hg;dsimp only at hg;subst hg;have h2:w6.heap[w5.heap.size]? =_:=(hb6.block w5.heap.size (by omega)).trans (heap_alloc_new w5 _)
       rw[h2]at hh;injection hh with hh;injection hh with _ hh;exact he hh.symm
     refine⟨hb5.trans (((Below.refl _ _).alloc (Nat.le_refl _) _).mono hbase5 |>.trans ((hb6.mono (by omega)).trans (hbr.mono hbase5))),⟨own_keep g1.own fun g hg hlt=>keep g (by have:=hold g hg;omega) hlt,fun p hp=>own_keep (g1.vars p hp) fun g hg hlt=>keep g (hne (g1.vars p hp) (by decide) g hg) hlt,g1.apart⟩,hbx,hold,hbase5,g2,own_keep g3 fun g hg hlt=>keep g (hne g3 (by decide) g hg) hlt,g4,by dsimp only at g6;omega,?_⟩
     cases b with
     | true=>have:=g5 rfl;dsimp only at this;simp only[if_true,List.length_append,List.length_singleton];omega
     | false=>simp;omega
    have hL5:∀ W,W=w5.alloc (.cells #[.string ql,.string qs,.string qr,.slice A2 qv.length cap2] 77)→ListOk Enc.str W w.heap.size W.heap.size (.slice A2 qv.length cap2) qv:=fun W hW=>by
     subst hW;exact VarRow.list (base:=w.heap.size) (p:=(⟨ql,qs,qr,qv⟩,.slice A2 qv.length cap2)) (own_keep hq5 fun g _ hg=>Below.heap_alloc _ _ _ hg) (Nat.le_refl _) (Nat.le_refl _)
    have HL5:=hid hL5;have hlt5:nb < w5.heap.size:=by omega
    clear hr1 hq1 hr5 hown hgrow hq5 hL5 hro hnews hold hsum hdeg HH hb5 c0 c1 c2 c3;have c0:=m5.cell 0;have c1:=m5.cell 1;have c2:=m5.cell 2;have c3:=m5.cell 3;simp at c0 c1 c2 c3;clear m5
    go_wp2_with fail
    have HL6:=less_any (⟨ql,qs,qr,qv⟩,.slice A2 qv.length cap2) (w5.alloc (.cells #[.string ql,.string qs,.string qr,.slice A2 qv.length cap2] 77)) w.heap.size (HL5.out _ rfl) (by dsimp only;omega)
    refine HL6.mono ?_;clear HL6 HL5;rintro e w6 ⟨hb6,⟨⟨ql',qs',qr',qv'⟩,qV'⟩,b',rfl,hl⟩;obtain⟨⟨A6,c6,hq6⟩,HC6⟩:=H5.out w6 _ b' (by simpa using hb6) hl
    dsimp only at hq6;subst hq6;have H6:=hid HC6;have m6:Blk w6 w5.heap.size 77 #[.string ql,.string qs,.string qr,.slice A2 qv.length cap2]:=(Blk.new _ _ _).below hb6 (by simp)
    clear H5 hl HC6 hb6 c0 c1 c2 c3;have d0:=m6.cell 0;have d1:=m6.cell 1;have d2:=m6.cell 2;have d3:=m6.cell 3;have f0:=m6.frozen 0;have f1:=m6.frozen 1;have f2:=m6.frozen 2;have f3:=m6.frozen 3;simp at d0 d1 d2 d3;have M6:=hid m6;clear m6
    go_wp2_with fail
    go_roundw
    case rel=>
     refine⟨_,_,b',_,rfl,rfl,H6.out _ ?_ ?_ ?_⟩
     ·repeat' (first|exact Below.refl _ _|(refine Below.setCell ?_ (by simp) _))
     ·intro g hg hlt
      repeat rw[Below.heap_setCell _ _ _ _ (by simp;omega)]
     ·have:=(((M6.out.set_ 0 (.string ql')).set_ 1 (.string qs')).set_ 2 (.string qr')).set_ 3 (.slice A6 qv'.length c6);simpa using this
    case measure=>simp[lenV];omega
end Go.Proofs.YtagfnpdoooachaaGreatDoor
