/- date.Number, date.Text. -/
import Derived.Test.YtagfnpdoooachaaGreatDoorDskC
set_option linter.unusedSimpArgs false
set_option linter.unusedVariables false
set_option maxHeartbeats 6400000
set_option maxRecDepth 100000
namespace Go.Proofs.YtagfnpdoooachaaGreatDoor
open Go.RowKit
open Lib (hid)
theorem padN_len (n least:Int) (h0:0≤n) (h1:n≤1000000000) (l1:least≤20):(padN n least).length≤40:=by
 have hil:=Lib.itoa_length_le n (by omega) (by omega)
 unfold padN;rw[List.length_append,Lib.repeatL_length,List.length_singleton];omega
theorem yearD_bounds (y:Int) (h0:1≤y) (h1:y≤20000):0≤yearD y∧yearD y≤7400000:=by unfold yearD;omega
theorem day_bounds {t:DayV} (h:t.ok):1≤t.y∧t.y≤9999∧1≤t.m∧t.m≤12∧1≤t.d∧t.d≤366:=by
 obtain⟨a,b,c,d,f,g⟩:=h;have h1:=beforeD_bounds t.y (t.m+1) (by omega) (by omega)
 have h2:=beforeD_bounds t.y t.m (by omega) (by omega)
 exact⟨a,b,c,d,f,by omega⟩
theorem checkOk_any (y m d:Int) (w:World) (hA:AheadV w) (hok:DayV.ok ⟨y,m,d⟩):Calls Tryz.prog 112 #[.agg #[.int .i64 y,.int .i64 m,.int .i64 d]] w fun e w'=>e=.returned .nilIface∧Below w.heap.size w w':=by
 obtain⟨a,b,c,f,g,h⟩:=day_bounds hok;dsimp only at a b c f g h;refine(dcheck_any ⟨y,m,d⟩ w hA ⟨by dsimp only;omega,by dsimp only;omega⟩ ⟨by dsimp only;omega,by dsimp only;omega⟩ ⟨by dsimp only;omega,by dsimp only;omega⟩).mono ?_
 rintro e w' ⟨rfl,hb⟩;exact⟨by rw[show dayE ⟨y,m,d⟩=0 from if_pos hok,errD_zero],hb⟩
theorem dayNumber_any (t:DayV) (w:World) (hA:AheadV w) (hok:t.ok):
 Calls Tryz.prog 67 #[t.v] w fun e w'=>e=.returned (.tuple #[.int .i64 (numD t),.nilIface])∧Below w.heap.size w w':=by
 obtain⟨y,m,d⟩:=t;obtain⟨b1,b2,b3,b4,b5,b6⟩:=day_bounds hok;dsimp only at b1 b2 b3 b4 b5 b6;unfold DayV.v;dsimp only;obtain⟨W1,eW1⟩:∃ W,W=w.alloc (.cells #[.int .i64 y,.int .i64 m,.int .i64 d] 62):=⟨_,rfl⟩;have hb1:Below w.heap.size w W1:=by rw[eW1];exact(Below.refl _ _).alloc (Nat.le_refl _) _
 have hk1:Blk W1 w.heap.size 62 #[.int .i64 y,.int .i64 m,.int .i64 d]:=by rw[eW1];exact Blk.new w _ _
 have HN:Hid (numD ⟨y,m,d⟩=yearD y+beforeD y m+d - 1):=hid rfl;have HCk:=hid (checkOk_any y m d W1 (hA.below hb1) hok);have HY:Hid (∀ W,Calls Tryz.prog 116 #[.int .i64 y] W fun e w'=>e=.returned (.int .i64 (yearD y))∧w'=W):=hid fun W=>year_any y W b1 (by omega)
 have HM:Hid (∀ W,Below w.heap.size w W→Calls Tryz.prog 117 #[.int .i64 y,.int .i64 m] W fun e w'=>e=.returned (.int .i64 (beforeD y m))∧w'=W):=hid fun W hW=>before_any y m W b1 (by omega) b3 (by omega) (hA.below hW)
 have p1:=yearD_bounds y b1 (by omega)
 have p2:=beforeD_bounds y m b3 (by omega)
 generalize numD ⟨y,m,d⟩=r at *;generalize yearD y=u at *;generalize beforeD y m=v at *;have HB1:=hid hb1;have HK1:=hid hk1;have EW:=hid eW1;have x0:=(hk1.cell 0).trans (show _=some (.int .i64 y)from rfl);have x1:=(hk1.cell 1).trans (show _=some (.int .i64 m)from rfl);have x2:=(hk1.cell 2).trans (show _=some (.int .i64 d)from rfl);clear eW1 hb1 hk1 hA hok
 go_enter Tryz.func67,Tryz.ntmps67
 go_upto_region 1 with fail
 rw[←EW.out];clear EW
 go_wp2_with fail
 refine HCk.out.mono ?_;clear HCk x0 x1 x2;rintro e w2 ⟨rfl,hb2⟩;have HB2:=hid (HB1.out.trans (hb2.mono HB1.out.size));have hk2:=HK1.out.below hb2 HK1.out.lt;have x0:=(hk2.cell 0).trans (show _=some (.int .i64 y)from rfl);have x1:=(hk2.cell 1).trans (show _=some (.int .i64 m)from rfl);have x2:=(hk2.cell 2).trans (show _=some (.int .i64 d)from rfl);have HM2:Hid (∀ n,Calls Tryz.prog 117 #[.int .i64 y,.int .i64 m] (w2.drewN n) fun e w'=>e=.returned (.int .i64 v)∧w'=w2.drewN n):=hid fun n=>HM.out _ (below_drewN HB2.out n);clear hb2 hk2 HB1 HK1 HM
 go_wp2_with fail
 go_quiet (first|(go_at_call 116;with_reducible exact Calls.quiet_of_same (HY.out _))|(go_at_call 117;with_reducible exact Calls.quiet_of_same (HM2.out _)))
 go_wp2_with fail
 go_ret2
 exact⟨by rw[HN.out];rfl,below_drewN HB2.out _⟩
def dayR (t:DayV):Value:=if t.ok then .tuple #[.string (str (dayT t)),.nilIface]else .tuple #[.string ⟨#[]⟩,.iface 27 (.int .i64 1)]
theorem dtext_any (t:DayV) (w:World) (hA:AheadV w) (hv:MV w) (y0: -9223372036854775808≤t.y∧t.y≤9223372036854775807) (m0: -9223372036854775808≤t.m∧t.m≤9223372036854775807) (d0: -9223372036854775808≤t.d∧t.d≤9223372036854775807):
 Calls Tryz.prog 64 #[t.v] w fun e w'=>e=.returned (dayR t)∧Below w.heap.size w w':=by
 obtain⟨y,m,d⟩:=t;obtain⟨W1,eW1⟩:∃ W,W=w.alloc (.cells #[.int .i64 y,.int .i64 m,.int .i64 d] 62):=⟨_,rfl⟩;have hb1:Below w.heap.size w W1:=by rw[eW1];exact(Below.refl _ _).alloc (Nat.le_refl _) _
 have hk1:Blk W1 w.heap.size 62 #[.int .i64 y,.int .i64 m,.int .i64 d]:=by rw[eW1];exact Blk.new w _ _
 have HCk:=hid (dcheck_any ⟨y,m,d⟩ W1 (hA.below hb1) y0 m0 d0);have HB1:=hid hb1;have HK1:=hid hk1;have EW:=hid eW1;have x0:=(hk1.cell 0).trans (show _=some (.int .i64 y)from rfl);have x1:=(hk1.cell 1).trans (show _=some (.int .i64 m)from rfl);have x2:=(hk1.cell 2).trans (show _=some (.int .i64 d)from rfl);clear eW1 hb1 hk1 y0 m0 d0
 by_cases hok:DayV.ok ⟨y,m,d⟩
 ·obtain⟨b1,b2,b3,b4,b5,b6⟩:=day_bounds hok;dsimp only at b1 b2 b3 b4 b5 b6;have HE:Hid (dayE ⟨y,m,d⟩=0):=hid (if_pos hok);have HR:Hid (dayR ⟨y,m,d⟩=.tuple #[.string (str (padN y 4++[45]++padN m 2++[45]++padN d 2)),.nilIface]):=hid (if_pos hok);have HD:Hid (∀ n l:Int,0≤n→n≤1000000000→0≤l→l≤20→∀ W0,Below w.heap.size w W0→∀ W,Below W0.heap.size W0 W→Calls Tryz.prog 113 #[.int .i64 n,.int .i64 l] W fun e w'=>e=.returned (.string (str (padN n l)))∧Below W0.heap.size W0 w'):=hid fun n l n0 n1 l0 l1 W0 hW0 W hW=>(digits_any n l W n0 n1 l0 l1 (hv.below (hW0.trans (hW.mono hW0.size)))).mono fun e w' h=>⟨h.1,hW.trans (h.2.mono hW.size)⟩;have H1:=hid (HD.out y 4 (by omega) (by omega) (by omega) (by omega))
  have H2:=hid (HD.out m 2 (by omega) (by omega) (by omega) (by omega))
  have H3:=hid (HD.out d 2 (by omega) (by omega) (by omega) (by omega))
  have l1:=padN_len y 4 (by omega) (by omega) (by omega)
  have l2:=padN_len m 2 (by omega) (by omega) (by omega)
  have l3:=padN_len d 2 (by omega) (by omega) (by omega)
  have HS:Hid (str (padN y 4)++⟨#[45]⟩++str (padN m 2)++⟨#[45]⟩++str (padN d 2)=str (padN y 4++[45]++padN m 2++[45]++padN d 2)):=hid (by
   rw[show(⟨#[45]⟩:ByteArray)=str [45]from rfl,str_app,str_app,str_app,str_app])
  rw[←str_size]at l1 l2 l3;generalize str (padN y 4++[45]++padN m 2++[45]++padN d 2)=Z at *;generalize str (padN y 4)=P1 at *;generalize str (padN m 2)=P2 at *;generalize str (padN d 2)=P3 at *;generalize dayE ⟨y,m,d⟩=er at *;generalize dayR ⟨y,m,d⟩=rr at *;have n1:¬(9223372036854775807 < P1.size+1):=by omega
  have n2:¬(9223372036854775807 < P1.size+1+P2.size):=by omega
  have n3:¬(9223372036854775807 < P1.size+1+P2.size+1):=by omega
  have n4:¬(9223372036854775807 < P1.size+1+P2.size+1+P3.size):=by omega
  clear hok HD hA hv b1 b2 b3 b4 b5 b6 l1 l2 l3;unfold DayV.v;dsimp only
  go_enter Tryz.func64,Tryz.ntmps64
  go_upto_region 1 with fail
  rw[←EW.out];clear EW
  go_wp2_with fail
  refine HCk.out.mono ?_;clear HCk x0 x1 x2;rintro e w2 ⟨rfl,hb2⟩;rw[HE.out,errD_zero];have hB2:=HB1.out.trans (hb2.mono HB1.out.size);have HK2:=hid (HK1.out.below hb2 HK1.out.lt);have HC2:Hid (∀ W,Below w2.heap.size w2 W→W.cell? ⟨w.heap.size,0,none⟩=some (.int .i64 y)∧W.cell? ⟨w.heap.size,1,none⟩=some (.int .i64 m)∧W.cell? ⟨w.heap.size,2,none⟩=some (.int .i64 d)):=hid fun W hW=>
   have k:=HK2.out.below hW HK2.out.lt
   ⟨(k.cell 0).trans rfl,(k.cell 1).trans rfl,(k.cell 2).trans rfl⟩
  have G1:=hid (H1.out w2 hB2);have G2:=hid (H2.out w2 hB2);have G3:=hid (H3.out w2 hB2);have HB2:=hid hB2;clear hB2 hb2 HK2 H1 H2 H3 HB1 HK1;obtain⟨x0,x1,x2⟩:=HC2.out w2 (Below.refl _ _)
  go_wp2_with fail
  go_region_held3 (fun w'=>w'.cell? ⟨w.heap.size,0,none⟩=some (.int .i64 y)∧w'.cell? ⟨w.heap.size,1,none⟩=some (.int .i64 m)∧w'.cell? ⟨w.heap.size,2,none⟩=some (.int .i64 d))
   (first|with_reducible exact HC2.out _ hb5|with_reducible exact HC2.out _ hb4|with_reducible exact HC2.out _ hb3|exact HC2.out _ (Below.refl _ _).drew)
   (first
     | (go_at_call 113
        with_reducible refine(G1.out _ ?_).mono ?_
        first|with_reducible exact hb5|with_reducible exact hb4|exact(Below.refl _ _).drew
        rintro e w3 ⟨rfl,hb3⟩)
     | (go_at_call 113
        with_reducible refine(G2.out _ ?_).mono ?_
        first|with_reducible exact hb5|with_reducible exact hb3|exact(Below.refl _ _).drew
        rintro e w4 ⟨rfl,hb4⟩)
     | (go_at_call 113
        with_reducible refine(G3.out _ ?_).mono ?_
        first|with_reducible exact hb4|with_reducible exact hb3|exact(Below.refl _ _).drew
        rintro e w5 ⟨rfl,hb5⟩))
  all_goals
   first|have HBe:=hid (HB2.out.trans (hb5.mono HB2.out.size))|skip
   go_wp2_with fail
   go_ret2
   refine⟨by rw[HR.out,←HS.out];rfl,?_⟩
   first|with_reducible exact HB2.out.trans (hb5.mono HB2.out.size)|with_reducible exact HB2.out.trans (hb4.mono HB2.out.size)|with_reducible exact HB2.out.trans (hb3.mono HB2.out.size)
 ·have HE:Hid (dayE ⟨y,m,d⟩=1):=hid (if_neg hok);have HR:Hid (dayR ⟨y,m,d⟩=.tuple #[.string ⟨#[]⟩,.iface 27 (.int .i64 1)]):=hid (if_neg hok);generalize dayE ⟨y,m,d⟩=er at *;generalize dayR ⟨y,m,d⟩=rr at *;clear hok hA hv;unfold DayV.v;dsimp only
  go_enter Tryz.func64,Tryz.ntmps64
  go_upto_region 1 with fail
  rw[←EW.out];clear EW
  go_wp2_with fail
  refine HCk.out.mono ?_;clear HCk x0 x1 x2;rintro e w2 ⟨rfl,hb2⟩;rw[HE.out,errD_ne (by decide)]
  go_wp2_with fail
  go_ret2
  exact⟨by rw[HR.out];rfl,HB1.out.trans (hb2.mono HB1.out.size)⟩
def ofE (n:Int):Int:=if n < 0∨yearD 10000≤n then 1 else 0
theorem dof_any (n:Int) (w:World) (h0: -100000000≤n) (h1:n≤100000000) (hA:AheadV w):
 Calls Tryz.prog 115 #[.int .i64 n] w fun e w'=>(∃ a b c:Int,e=.returned (.tuple #[.agg #[.int .i64 a,.int .i64 b,.int .i64 c],errD (ofE n)]))∧Below w.heap.size w w':=by
 obtain⟨W1,eW1⟩:∃ W,W=w.alloc (.cells #[.int .i64 0,.int .i64 0,.int .i64 0] 62):=⟨_,rfl⟩;have hb1:Below w.heap.size w W1:=by rw[eW1];exact(Below.refl _ _).alloc (Nat.le_refl _) _
 have hk1:Blk W1 w.heap.size 62 #[.int .i64 0,.int .i64 0,.int .i64 0]:=by rw[eW1];exact Blk.new w _ _
 have HY:Hid (∀ y W,1≤y→y≤20000→Calls Tryz.prog 116 #[.int .i64 y] W fun e w'=>e=.returned (.int .i64 (yearD y))∧w'=W):=hid fun y W a b=>year_any y W a b;have HM:Hid (∀ y m,1≤y→y≤20000→1≤m→m≤13→Calls Tryz.prog 117 #[.int .i64 y,.int .i64 m] W1 fun e w'=>e=.returned (.int .i64 (beforeD y m))∧w'=W1):=hid fun y m a b c d=>before_any y m W1 a b c d (hA.below hb1);have r0:=(hk1.cell 0).trans (show _=some (.int .i64 0)from rfl);have r1:=(hk1.cell 1).trans (show _=some (.int .i64 0)from rfl);have r2:=(hk1.cell 2).trans (show _=some (.int .i64 0)from rfl);have g0:=hk1.frozen 0;have g1:=hk1.frozen 1;have g2:=hk1.frozen 2;have HB1:=hid hb1;have EW:=hid eW1;clear hA hb1 hk1 eW1
 by_cases a:n < 0
 ·have HE:Hid (ofE n=1):=hid (if_pos (.inl a));generalize ofE n=er at*
  go_enter Tryz.func115,Tryz.ntmps115
  go_upto_region 1 with fail
  rw[←EW.out];clear EW
  go_wp2_with fail
  refine bodyPost_ret (v:=.tuple #[.agg #[.int .i64 0,.int .i64 0,.int .i64 0],.iface 27 (.int .i64 1)]) ?_ rfl ?_
  ·simp[results,Tryz.results115,go_sem,r0,r1,r2,g0,g1,g2]
  ·refine⟨⟨0,0,0,by rw[HE.out,errD_ne (by decide)]⟩,?_⟩
   repeat' (first|exact HB1.out|refine Below.setCell ?_ (by show w.heap.size≤w.heap.size;omega) _)
 ·have hy:yearD 10000=3652059:=by decide
  have HY1:=hid (HY.out 10000 W1 (by decide) (by decide))
  have a0:0≤n:=by omega
  by_cases b:3652059≤n
  ·have HE:Hid (ofE n=1):=hid (if_pos (.inr (by rw[hy];exact b)))
   generalize ofE n=er at *;rw[hy]at HY1;clear hy
   go_enter Tryz.func115,Tryz.ntmps115
   go_upto_region 1 with fail
   rw[←EW.out];clear EW
   go_wp2_with fail
   refine HY1.out.mono ?_;rintro e w2 ⟨rfl,rfl⟩
   go_wp2_with fail
   refine bodyPost_ret (v:=.tuple #[.agg #[.int .i64 0,.int .i64 0,.int .i64 0],.iface 27 (.int .i64 1)]) ?_ rfl ?_
   ·simp[results,Tryz.results115,go_sem,r0,r1,r2,g0,g1,g2]
   ·refine⟨⟨0,0,0,by rw[HE.out,errD_ne (by decide)]⟩,?_⟩
    repeat' (first|exact HB1.out|refine Below.setCell ?_ (by show w.heap.size≤w.heap.size;omega) _)
  ·have HE:Hid (ofE n=0):=hid (if_neg (by rw[hy];omega))
   generalize ofE n=er at *;rw[hy]at HY1;have HYv:=hid hy;clear hy;have b1:n < 3652059:=by omega
   have HN:=hid (And.intro a0 b1)
   go_enter Tryz.func115,Tryz.ntmps115
   go_upto_region 1 with fail
   rw[←EW.out];clear EW
   go_wp2_with fail
   refine HY1.out.mono ?_;rintro e w2 ⟨rfl,rfl⟩;obtain⟨wo,rfl⟩:∃ wo:World,wo=w2:=⟨_,rfl⟩
   go_wp2_with fail
   go_loop [4] (fun y=>∃ k:Int,1≤k∧k≤9999∧y=.int .i64 k) (fun y=>(10000 - intOf y).toNat)
   case atStart=>exact⟨n / 366+1,by omega,by omega,rfl⟩
   case round=>
    obtain⟨k,k0,k1,rfl⟩:=hrel;have HYk:=hid (HY.out (k+1) wo (by omega) (by omega))
    have hkk:=yearD_bounds (k+1) (by omega) (by omega)
    have HT:Hid (yearD (k+1)≤n→k+1≤9999):=hid fun h=>by
     have h3:=HYv.out;have h4:=HN.out.2;rcases Int.lt_or_le (k+1) 10000 with h5|h5
     ·omega
     ·have:k+1=10000:=by omega
      rw[this,h3]at h;omega
    generalize yearD (k+1)=u at*
    by_cases c:u≤n
    ·have hk2:=HT.out c
     go_wp2_with fail
     refine HYk.out.mono ?_;rintro e w3 ⟨rfl,rfl⟩
     go_wp2_with fail
     go_round
     case rel=>exact⟨k+1,by omega,hk2,by go_num⟩
     case measure=>simp[intOf];omega
    ·clear HT
     go_wp2_with fail
     refine HYk.out.mono ?_;rintro e w3 ⟨rfl,rfl⟩;obtain⟨wp,rfl⟩:∃ wp:World,wp=w3:=⟨_,rfl⟩
     go_wp2_with fail
     go_loop [5] (fun m=>∃ j:Int,1≤j∧j≤12∧m=.int .i64 j) (fun m=>(12 - intOf m).toNat)
     case atStart=>exact⟨1,by omega,by omega,rfl⟩
     case round=>
      obtain⟨j,j0,j1,rfl⟩:=hrel;have HYy:=hid (HY.out k wp k0 (by omega))
      have HMm:=hid (HM.out k j k0 (by omega) j0 (by omega))
      have q1:=yearD_bounds k k0 (by omega)
      have q2:=beforeD_bounds k j j0 (by omega)
      generalize yearD k=yv at *;generalize beforeD k j=bv at*
      by_cases hj:j < 12
      ·have HMn:=hid (HM.out k (j+1) k0 (by omega) (by omega) (by omega))
       have q3:=beforeD_bounds k (j+1) (by omega) (by omega)
       generalize beforeD k (j+1)=bn at*
       by_cases hc:yv+bn≤n
       ·go_wp2_with fail
        refine HYy.out.mono ?_;rintro e w4 ⟨rfl,rfl⟩
        go_wp2_with fail
        refine HMn.out.mono ?_;rintro e w5 ⟨rfl,rfl⟩
        go_wp2_with fail
        go_round
        case rel=>exact⟨j+1,by omega,by omega,by go_num⟩
        case measure=>simp[intOf];omega
       ·go_wp2_with fail
        refine HYy.out.mono ?_;rintro e w4 ⟨rfl,rfl⟩
        go_wp2_with fail
        refine HMn.out.mono ?_;rintro e w5 ⟨rfl,rfl⟩
        go_wp2_with fail
        refine HYy.out.mono ?_;rintro e w6 ⟨rfl,rfl⟩
        go_wp2_with fail
        refine HMm.out.mono ?_;rintro e w7 ⟨rfl,rfl⟩
        go_wp2_with fail
        refine bodyPost_ret (v:=.tuple #[.agg #[.int .i64 k,.int .i64 j,.int .i64 (n - yv - bv+1)],.nilIface]) ?_ rfl ?_
        ·simp[results,Tryz.results115,go_sem,r0,r1,r2,g0,g1,g2]
        ·refine⟨⟨k,j,n - yv - bv+1,by rw[HE.out,errD_zero]⟩,?_⟩
         repeat' (first|exact HB1.out|refine Below.setCell ?_ (by show w.heap.size≤w.heap.size;omega) _)
      ·go_wp2_with fail
       refine HYy.out.mono ?_;rintro e w6 ⟨rfl,rfl⟩
       go_wp2_with fail
       refine HMm.out.mono ?_;rintro e w7 ⟨rfl,rfl⟩
       go_wp2_with fail
       refine bodyPost_ret (v:=.tuple #[.agg #[.int .i64 k,.int .i64 j,.int .i64 (n - yv - bv+1)],.nilIface]) ?_ rfl ?_
       ·simp[results,Tryz.results115,go_sem,r0,r1,r2,g0,g1,g2]
       ·refine⟨⟨k,j,n - yv - bv+1,by rw[HE.out,errD_zero]⟩,?_⟩
        repeat' (first|exact HB1.out|refine Below.setCell ?_ (by show w.heap.size≤w.heap.size;omega) _)
theorem numD_bounds (t:DayV) (h:t.ok):yearD t.y≤numD t∧numD t < yearD (t.y+1):=by
 obtain⟨a,b,c,d,e,f⟩:=h;have hc:∀ k,k < 12→∀ z:Bool,0≤aheadD k∧aheadD (k+1)≤365:=by decide
 have e1:beforeD t.y t.m=aheadD (t.m - 1).toNat+(if 2 < t.m∧leapD t.y=true then 1 else 0):=rfl
 have e2:beforeD t.y (t.m+1)=aheadD (t.m+1 - 1).toNat+(if 2 < t.m+1∧leapD t.y=true then 1 else 0):=rfl
 have e3:(t.m+1 - 1).toNat=(t.m - 1).toNat+1:=by omega
 have h1:=hc (t.m - 1).toNat (by omega) true
 have hb1:0≤beforeD t.y t.m:=(beforeD_bounds t.y t.m c (by omega)).1
 have hyr:yearD (t.y+1)=yearD t.y+365+(if leapD t.y=true then 1 else 0):=by
  unfold yearD;have hl:(leapD t.y=true)↔((t.y % 4=0∧t.y % 100≠0)∨t.y % 400=0):=by unfold leapD;simp
  by_cases hq:leapD t.y=true
  ·rw[if_pos hq];have:=hl.1 hq;omega
  ·rw[if_neg hq];have:¬((t.y % 4=0∧t.y % 100≠0)∨t.y % 400=0):=fun h=>hq (hl.2 h);omega
 unfold numD;rw[hyr];rw[e3]at e2
 constructor
 ·omega
 ·have h2:beforeD t.y (t.m+1)≤365+(if leapD t.y=true then 1 else 0):=by
   rw[e2]
   by_cases hq:leapD t.y=true
   ·rw[if_pos hq];split <;> omega
   ·rw[if_neg hq,if_neg (fun h=>hq h.2)];omega
  omega
theorem backW_at (t:DayV) (h:t.ok):∃ k:Nat,k≤2∧(∀ j:Nat,j < k→numD t < firstW (t.y+1 - (j:Int)))∧(t.y=1→k≤1)∧firstW (t.y+1 - (k:Int))≤numD t:=by
 obtain⟨h1,h2⟩:=numD_bounds t h;have hy:=day_bounds h
 by_cases a:firstW (t.y+1)≤numD t
 ·exact⟨0,by omega,fun j hj=>absurd hj (by omega),fun _=>by omega,by simpa using a⟩
 ·by_cases b:firstW t.y≤numD t
  ·refine⟨1,by omega,fun j hj=> ?_,fun _=>Nat.le_refl _,by simpa using b⟩
   obtain rfl:j=0:=by omega
   simpa using a
  ·have h3:firstW t.y≤numD t∨(2≤t.y∧firstW (t.y - 1)≤numD t):=by
    by_cases hz:t.y=1
    ·left
     rw[hz]at h1 ⊢;have e:firstW 1=0:=by decide
     have e2:yearD 1=0:=by decide
     omega
    ·right
     refine⟨by omega,?_⟩
     have hs:firstW (t.y - 1)≤yearD (t.y - 1)+3:=by unfold firstW;dsimp only;have:0≤(yearD (t.y - 1)+3) % 7:=Int.emod_nonneg _ (by decide);omega
     have hq:yearD (t.y - 1)+365≤yearD t.y:=by unfold yearD;omega
     omega
   rcases h3 with h3|⟨h3,h4⟩
   ·exact absurd h3 b
   ·refine⟨2,by omega,fun j hj=> ?_,fun h=>by omega,?_⟩
    ·have:j=0∨j=1:=by omega
     rcases this with rfl|rfl
     ·simpa using a
     ·have e:t.y+1 - ((1:Nat):Int)=t.y:=by omega
      rw[e];omega
    ·have e:t.y+1 - ((2:Nat):Int)=t.y - 1:=by omega
     rw[e];exact h4
theorem backW_eq (t:DayV) (k:Nat) (hk:k≤2) (h1:∀ j:Nat,j < k→numD t < firstW (t.y+1 - j)) (h2:firstW (t.y+1 - k)≤numD t):backW 3 (t.y+1) (numD t)=t.y+1 - k:=by
 have e1:t.y+1 - 1=t.y+1 - ((1:Nat):Int):=by omega
 have e2:t.y+1 - 1 - 1=t.y+1 - ((2:Nat):Int):=by omega
 match k,hk with
 | 0,_=>
   have h2:firstW (t.y+1)≤numD t:=by simpa using h2
   unfold backW;rw[if_neg (by omega)]
   simp
 | 1,_=>
   have h0:numD t < firstW (t.y+1):=by simpa using h1 0 (by omega)
   unfold backW;rw[if_pos h0];unfold backW;rw[e1,if_neg (by omega)]
 | 2,_=>
   have h0:numD t < firstW (t.y+1):=by simpa using h1 0 (by omega)
   have h3:=h1 1 (by omega)
   unfold backW;rw[if_pos h0];unfold backW;rw[e1,if_pos h3];unfold backW;rw[←e1,e2,if_neg (by omega)]
def WeekV.v (t:WeekV):Value:=.agg #[.int .i64 t.y,.int .i64 t.w,.int .i64 t.d]
theorem weekOf_any (t:DayV) (w:World) (hA:AheadV w) (hok:t.ok):
 Calls Tryz.prog 36 #[t.v] w fun e w'=>e=.returned (.tuple #[(weekOf t).v,.nilIface])∧Below w.heap.size w w':=by
 obtain⟨k,k2,hback,hk1,hfirst⟩:=backW_at t hok;have HW:Hid (weekOf t=⟨t.y+1 - k,(numD t - firstW (t.y+1 - k)) / 7+1,numD t % 7+1⟩):=hid (by unfold weekOf;dsimp only;rw[backW_eq t k k2 hback hfirst])
 obtain⟨b1,b2,b3,b4,b5,b6⟩:=day_bounds hok;have hnb:=numD_bounds t hok;have hy1:=yearD_bounds (t.y+1) (by omega) (by omega)
 have hy0:=yearD_bounds t.y (by omega) (by omega)
 obtain⟨W2,eW2⟩:∃ W,W=(w.alloc (.cells #[.int .i64 t.y,.int .i64 t.m,.int .i64 t.d] 62)).alloc (.cells #[.int .i64 0,.int .i64 0,.int .i64 0] 68):=⟨_,rfl⟩;have hb2:Below w.heap.size w W2:=by rw[eW2];exact((Below.refl _ _).alloc (Nat.le_refl _) _).alloc (by simp) _
 have hd2:Blk W2 w.heap.size 62 #[.int .i64 t.y,.int .i64 t.m,.int .i64 t.d]:=by rw[eW2];exact(Blk.new _ _ _).alloc _
 have hr2:Blk W2 (w.heap.size+1) 68 #[.int .i64 0,.int .i64 0,.int .i64 0]:=by
  rw[eW2];have:=Blk.new (w.alloc (.cells #[.int .i64 t.y,.int .i64 t.m,.int .i64 t.d] 62)) 68 #[.int .i64 0,.int .i64 0,.int .i64 0];rw[World.size_alloc]at this;exact this
 have HNm:=hid (dayNumber_any t W2 (hA.below hb2) hok);have HF:Hid (∀ y W,1≤y→y≤20000→Calls Tryz.prog 68 #[.int .i64 y] W fun e w'=>e=.returned (.int .i64 (firstW y))∧w'=W):=hid fun y W a b=>first_any y W a b;have HBk:Hid ((∀ j:Nat,j < k→numD t < firstW (t.y+1 - j))∧firstW (t.y+1 - k)≤numD t):=hid ⟨hback,hfirst⟩;have HB2:=hid hb2;have HD2:=hid hd2;have HR2:=hid hr2;have EW:=hid eW2;have x0:=(hd2.cell 0).trans (show _=some (.int .i64 t.y)from rfl);have x1:=(hd2.cell 1).trans (show _=some (.int .i64 t.m)from rfl);have x2:=(hd2.cell 2).trans (show _=some (.int .i64 t.d)from rfl);have hgen:∀ N,numD t=N→0≤N∧N≤7400000:=fun N h=>by omega
 generalize hN:numD t=N at *;obtain⟨n0,n1⟩:=hgen N rfl;clear hgen hback hfirst hb2 hd2 hr2 eW2 hA hok hnb;obtain⟨y,m,d⟩:=t;unfold DayV.v at *;dsimp only at *;generalize weekOf ⟨y,m,d⟩=rw_ at*
 go_enter Tryz.func36,Tryz.ntmps36
 go_upto_region 1 with fail
 rw[←EW.out];clear EW
 go_wp2_with fail
 refine HNm.out.mono ?_;clear HNm x0 x1 x2;rintro e w3 ⟨rfl,hb3⟩;have HB3:=hid (HB2.out.trans (hb3.mono HB2.out.size));have hd3:=HD2.out.below hb3 HD2.out.lt;have hr3:=HR2.out.below hb3 HR2.out.lt;have x0:=(hd3.cell 0).trans (show _=some (.int .i64 y)from rfl);have r0:=(hr3.cell 0).trans (show _=some (.int .i64 0)from rfl);have r1:=(hr3.cell 1).trans (show _=some (.int .i64 0)from rfl);have r2:=(hr3.cell 2).trans (show _=some (.int .i64 0)from rfl);have g0:=hr3.frozen 0;have g1:=hr3.frozen 1;have g2:=hr3.frozen 2;clear hb3 hd3 hr3 HD2 HR2 HB2
 go_wp2_with fail
 go_loop [6] (fun v=>∃ j:Nat,j≤k∧v=.int .i64 (y+1 - j)) (fun v=>(intOf v).toNat)
 case atStart=>exact⟨0,by omega,by simp⟩
 case round=>
  obtain⟨j,hj,rfl⟩:=hrel;have hpos:1≤y+1 - (j:Int):=by omega
  have HFj:=hid (HF.out (y+1 - j) w3 hpos (by omega))
  have hfb:=firstW_bounds (y+1 - j) hpos (by omega)
  by_cases hlt:j < k
  ·have hc:=HBk.out.1 j hlt;have hpos2:1≤y+1 - ((j+1:Nat):Int):=by omega
   generalize firstW (y+1 - (j:Int))=f at*
   go_wp2_with fail
   refine HFj.out.mono ?_;rintro e w4 ⟨rfl,rfl⟩
   go_wp2_with fail
   go_round
   case rel=>exact⟨j+1,by omega,by first|go_num|(congr 1;omega)|(simp;omega)⟩
   case measure=>simp[intOf];omega
  ·obtain rfl:j=k:=by omega
   have hc:=HBk.out.2;generalize firstW (y+1 - (j:Int))=f at*
   go_wp2_with fail
   refine HFj.out.mono ?_;rintro e w4 ⟨rfl,rfl⟩
   go_wp2_with fail
   refine HFj.out.mono ?_;rintro e w5 ⟨rfl,rfl⟩
   go_wp2_with fail
   refine bodyPost_ret (v:=.tuple #[.agg #[.int .i64 (y+1 - j),.int .i64 ((N - f) / 7+1),.int .i64 (N % 7+1)],.nilIface]) ?_ rfl ?_
   ·simp[results,Tryz.results36,go_sem,r0,r1,r2,g0,g1,g2]
   ·refine⟨by rw[HW.out];rfl,?_⟩
    repeat' (first|exact HB3.out|refine Below.setCell ?_ (by show w.heap.size≤w.heap.size+1;omega) _)
end Go.Proofs.YtagfnpdoooachaaGreatDoor
