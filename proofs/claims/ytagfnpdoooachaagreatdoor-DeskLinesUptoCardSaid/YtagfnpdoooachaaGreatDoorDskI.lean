/- week.Date. -/
import Derived.Test.YtagfnpdoooachaaGreatDoorDskV
set_option linter.unusedSimpArgs false
set_option linter.unusedVariables false
set_option maxHeartbeats 6400000
set_option maxRecDepth 100000
namespace Go.Proofs.YtagfnpdoooachaaGreatDoor
open Go.RowKit
open Lib (hid)
theorem weekE_year {t:WeekV} (h:t.y < 1∨9999 < t.y):weekE t=1:=if_pos h
theorem weekE_week {t:WeekV} (h:¬(t.y < 1∨9999 < t.y)) (h1:t.w < 1∨(firstW (t.y+1) - firstW t.y) / 7 < t.w∨t.d < 1∨7 < t.d):weekE t=1:=by unfold weekE;rw[if_neg h,if_pos h1]
theorem weekE_of {t:WeekV} (h:¬(t.y < 1∨9999 < t.y)) (h1:¬(t.w < 1∨(firstW (t.y+1) - firstW t.y) / 7 < t.w∨t.d < 1∨7 < t.d)):weekE t=ofE (firstW t.y+7*(t.w - 1)+t.d - 1):=by unfold weekE;rw[if_neg h,if_neg h1];rfl
theorem weekDate_any (t:WeekV) (w:World) (hA:AheadV w) (y0: -1000000≤t.y∧t.y≤1000000) (w0: -1000000≤t.w∧t.w≤1000000) (d0: -1000000≤t.d∧t.d≤1000000):
 Calls Tryz.prog 65 #[t.v] w fun e w'=>(∃ a b c:Int,e=.returned (.tuple #[.agg #[.int .i64 a,.int .i64 b,.int .i64 c],errD (weekE t)]))∧Below w.heap.size w w':=by
 obtain⟨y,k,d⟩:=t;dsimp only at y0 w0 d0;obtain⟨W2,eW2⟩:∃ W,W=(w.alloc (.cells #[.int .i64 y,.int .i64 k,.int .i64 d] 68)).alloc (.cells #[.int .i64 0,.int .i64 0,.int .i64 0] 62):=⟨_,rfl⟩;have hb2:Below w.heap.size w W2:=by rw[eW2];exact((Below.refl _ _).alloc (Nat.le_refl _) _).alloc (by simp) _
 have hd2:Blk W2 w.heap.size 68 #[.int .i64 y,.int .i64 k,.int .i64 d]:=by rw[eW2];exact(Blk.new _ _ _).alloc _
 have hr2:Blk W2 (w.heap.size+1) 62 #[.int .i64 0,.int .i64 0,.int .i64 0]:=by
  rw[eW2];have:=Blk.new (w.alloc (.cells #[.int .i64 y,.int .i64 k,.int .i64 d] 68)) 62 #[.int .i64 0,.int .i64 0,.int .i64 0];rw[World.size_alloc]at this;exact this
 have HWk:=hid (weeks_any y W2 (by omega) (by omega))
 have HB2:=hid hb2;have HD2:=hid hd2;have HR2:=hid hr2;have EW:=hid eW2;have x0:=(hd2.cell 0).trans (show _=some (.int .i64 y)from rfl);have x1:=(hd2.cell 1).trans (show _=some (.int .i64 k)from rfl);have x2:=(hd2.cell 2).trans (show _=some (.int .i64 d)from rfl);have r0:=(hr2.cell 0).trans (show _=some (.int .i64 0)from rfl);have r1:=(hr2.cell 1).trans (show _=some (.int .i64 0)from rfl);have r2:=(hr2.cell 2).trans (show _=some (.int .i64 0)from rfl);have g0:=hr2.frozen 0;have g1:=hr2.frozen 1;have g2:=hr2.frozen 2;clear hb2 hd2 hr2 eW2;unfold WeekV.v;dsimp only
 by_cases hy:y < 1∨9999 < y
 ·have HE:Hid (weekE ⟨y,k,d⟩=1):=hid (weekE_year hy);have hw:weeksV y=.tuple #[.int .i64 0,.iface 27 (.int .i64 1)]:=if_pos hy;rw[hw]at HWk;generalize weekE ⟨y,k,d⟩=er at *;clear hw hy hA
  go_enter Tryz.func65,Tryz.ntmps65
  go_upto_region 1 with fail
  rw[←EW.out];clear EW
  go_wp2_with fail
  refine HWk.out.mono ?_;rintro e w3 ⟨rfl,rfl⟩
  go_wp2_with fail
  refine bodyPost_ret (v:=.tuple #[.agg #[.int .i64 0,.int .i64 0,.int .i64 0],.iface 27 (.int .i64 1)]) ?_ rfl ?_
  ·simp[results,Tryz.results65,go_sem,r0,r1,r2,g0,g1,g2]
  ·refine⟨⟨0,0,0,by rw[HE.out,errD_ne (by decide)]⟩,?_⟩
   repeat' (first|exact HB2.out|refine Below.setCell ?_ (by show w.heap.size≤w.heap.size+1;omega) _)
 ·have hw:weeksV y=.tuple #[.int .i64 ((firstW (y+1) - firstW y) / 7),.nilIface]:=if_neg hy;rw[hw]at HWk;have hy1:1≤y:=by omega
  have hy2:y≤9999:=by omega
  have f1:=firstW_bounds y hy1 (by omega)
  have f2:=firstW_step y hy1 (by omega)
  have HF:Hid (∀ W,Calls Tryz.prog 68 #[.int .i64 y] W fun e w'=>e=.returned (.int .i64 (firstW y))∧w'=W):=hid fun W=>first_any y W hy1 (by omega)
  have HE1:Hid ((k < 1∨(firstW (y+1) - firstW y) / 7 < k∨d < 1∨7 < d)→weekE ⟨y,k,d⟩=1):=hid fun h=>weekE_week hy h;have HE2:Hid (¬(k < 1∨(firstW (y+1) - firstW y) / 7 < k∨d < 1∨7 < d)→weekE ⟨y,k,d⟩=ofE (firstW y+7*(k - 1)+d - 1)):=hid fun h=>weekE_of hy h;have hkb:(firstW (y+1) - firstW y) / 7≤60:=by omega
  generalize (firstW (y+1) - firstW y) / 7=kk at *;generalize firstW y=f at *;generalize weekE ⟨y,k,d⟩=er at *;have HAW:Hid (AheadV W2):=hid (hA.below HB2.out);clear hw hy hA f2
  by_cases hbad:k < 1∨kk < k∨d < 1∨7 < d
  ·have HE:=hid (HE1.out hbad);clear HE1 HE2
   by_cases c1:k < 1
   ·clear hbad
    go_enter Tryz.func65,Tryz.ntmps65
    go_upto_region 1 with fail
    rw[←EW.out];clear EW
    go_wp2_with fail
    refine HWk.out.mono ?_;rintro e w3 ⟨rfl,rfl⟩
    go_wp2_with fail
    refine bodyPost_ret (v:=.tuple #[.agg #[.int .i64 0,.int .i64 0,.int .i64 0],.iface 27 (.int .i64 1)]) ?_ rfl ?_
    ·simp[results,Tryz.results65,go_sem,r0,r1,r2,g0,g1,g2]
    ·refine⟨⟨0,0,0,by rw[HE.out,errD_ne (by decide)]⟩,?_⟩
     repeat' (first|exact HB2.out|refine Below.setCell ?_ (by show w.heap.size≤w.heap.size+1;omega) _)
   ·by_cases c2:kk < k
    ·clear hbad
     go_enter Tryz.func65,Tryz.ntmps65
     go_upto_region 1 with fail
     rw[←EW.out];clear EW
     go_wp2_with fail
     refine HWk.out.mono ?_;rintro e w3 ⟨rfl,rfl⟩
     go_wp2_with fail
     refine bodyPost_ret (v:=.tuple #[.agg #[.int .i64 0,.int .i64 0,.int .i64 0],.iface 27 (.int .i64 1)]) ?_ rfl ?_
     ·simp[results,Tryz.results65,go_sem,r0,r1,r2,g0,g1,g2]
     ·refine⟨⟨0,0,0,by rw[HE.out,errD_ne (by decide)]⟩,?_⟩
      repeat' (first|exact HB2.out|refine Below.setCell ?_ (by show w.heap.size≤w.heap.size+1;omega) _)
    ·by_cases c3:d < 1
     ·clear hbad
      go_enter Tryz.func65,Tryz.ntmps65
      go_upto_region 1 with fail
      rw[←EW.out];clear EW
      go_wp2_with fail
      refine HWk.out.mono ?_;rintro e w3 ⟨rfl,rfl⟩
      go_wp2_with fail
      refine bodyPost_ret (v:=.tuple #[.agg #[.int .i64 0,.int .i64 0,.int .i64 0],.iface 27 (.int .i64 1)]) ?_ rfl ?_
      ·simp[results,Tryz.results65,go_sem,r0,r1,r2,g0,g1,g2]
      ·refine⟨⟨0,0,0,by rw[HE.out,errD_ne (by decide)]⟩,?_⟩
       repeat' (first|exact HB2.out|refine Below.setCell ?_ (by show w.heap.size≤w.heap.size+1;omega) _)
     ·have c4:7 < d:=by omega
      clear hbad
      go_enter Tryz.func65,Tryz.ntmps65
      go_upto_region 1 with fail
      rw[←EW.out];clear EW
      go_wp2_with fail
      refine HWk.out.mono ?_;rintro e w3 ⟨rfl,rfl⟩
      go_wp2_with fail
      refine bodyPost_ret (v:=.tuple #[.agg #[.int .i64 0,.int .i64 0,.int .i64 0],.iface 27 (.int .i64 1)]) ?_ rfl ?_
      ·simp[results,Tryz.results65,go_sem,r0,r1,r2,g0,g1,g2]
      ·refine⟨⟨0,0,0,by rw[HE.out,errD_ne (by decide)]⟩,?_⟩
       repeat' (first|exact HB2.out|refine Below.setCell ?_ (by show w.heap.size≤w.heap.size+1;omega) _)
  ·have HE:=hid (HE2.out hbad);clear HE1 HE2;have c1:¬(k < 1):=by omega
   have c2:¬(kk < k):=by omega
   have c3:¬(d < 1):=by omega
   have c4:¬(7 < d):=by omega
   clear hbad;have HOf:Hid (∀ W,Below W2.heap.size W2 W→Calls Tryz.prog 115 #[.int .i64 (f+7*(k - 1)+d - 1)] W fun e w'=>(∃ a b c:Int,e=.returned (.tuple #[.agg #[.int .i64 a,.int .i64 b,.int .i64 c],errD (ofE (f+7*(k - 1)+d - 1))]))∧Below W2.heap.size W2 w'):=hid fun W hW=>(dof_any _ W (by omega) (by omega) (HAW.out.below hW)).mono fun e w' h=>⟨h.1,hW.trans (h.2.mono hW.size)⟩
   generalize ofE (f+7*(k - 1)+d - 1)=oe at *;have HKr:Hid (∀ W,Below W2.heap.size W2 W→Blk W (w.heap.size+1) 62 #[.int .i64 0,.int .i64 0,.int .i64 0]):=hid fun W hW=>HR2.out.below hW HR2.out.lt;have HBz:Hid (∀ W,Below W2.heap.size W2 W→Below w.heap.size w W):=hid fun W hW=>HB2.out.trans (hW.mono HB2.out.size);have HFq:Hid (Calls Tryz.prog 68 #[.int .i64 y] W2.drew fun e w'=>e=.returned (.int .i64 f)∧W2.drew=w'):=hid ((HF.out W2.drew).mono fun e w' h=>⟨h.1,h.2.symm⟩);have HC:Hid (∀ W,Below (w.heap.size+1) W2 W→W.cell? ⟨w.heap.size,0,none⟩=some (.int .i64 y)∧W.cell? ⟨w.heap.size,1,none⟩=some (.int .i64 k)∧W.cell? ⟨w.heap.size,2,none⟩=some (.int .i64 d)):=hid fun W hW=>
    have k:=HD2.out.below hW (Nat.lt_succ_self _)
    ⟨(k.cell 0).trans rfl,(k.cell 1).trans rfl,(k.cell 2).trans rfl⟩
   have HZ2:Hid (w.heap.size+1≤W2.heap.size):=hid (Nat.le_of_lt HR2.out.lt);have a1:IntKind.i64.wrap (k - 1)=k - 1:=by rw[IntKind.wrap_i64];omega
   have a2:IntKind.i64.wrap (7*(k - 1))=7*(k - 1):=by rw[IntKind.wrap_i64];omega
   have a3:IntKind.i64.wrap (f+7*(k - 1))=f+7*(k - 1):=by rw[IntKind.wrap_i64];omega
   have a4:IntKind.i64.wrap (f+7*(k - 1)+d)=f+7*(k - 1)+d:=by rw[IntKind.wrap_i64];omega
   have a5:IntKind.i64.wrap (f+7*(k - 1)+d - 1)=f+7*(k - 1)+d - 1:=by rw[IntKind.wrap_i64];omega
   clear HAW HB2 HD2 HR2 r0 r1 r2 g0 g1 g2 HF
   go_enter Tryz.func65,Tryz.ntmps65
   go_upto_region 1 with fail
   rw[←EW.out];clear EW
   go_wp2_with fail
   refine HWk.out.mono ?_;rintro e w3 ⟨rfl,rfl⟩
   go_wp2_with fail
   obtain⟨x0,x1,x2⟩:=HC.out w3 (Below.refl _ _)
   go_region_held3 (fun w'=>w'.cell? ⟨w.heap.size,0,none⟩=some (.int .i64 y)∧w'.cell? ⟨w.heap.size,1,none⟩=some (.int .i64 k)∧w'.cell? ⟨w.heap.size,2,none⟩=some (.int .i64 d))
    (first|with_reducible exact hs5 _ _ _|with_reducible exact HC.out _ hm5|with_reducible exact HC.out _ (Below.refl _ _).drew)
    (first
      | (go_at_call 68
         with_reducible refine HFq.out.mono ?_
         rintro e w4 ⟨rfl,rfl⟩)
      | (go_at_call 115
         with_reducible refine(HOf.out _ ?_).mono ?_
         exact(Below.refl _ _).drew;rintro e w5 ⟨⟨a,b,c,rfl⟩,hb5⟩;have k5:=HKr.out w5 hb5;have hm5:=hb5.mono HZ2.out;have hs5:∀ va vb vc,(((w5.setCell ⟨w.heap.size+1,0,none⟩ va).setCell ⟨w.heap.size+1,1,none⟩ vb).setCell ⟨w.heap.size+1,2,none⟩ vc).cell? ⟨w.heap.size,0,none⟩=some (.int .i64 y)∧(((w5.setCell ⟨w.heap.size+1,0,none⟩ va).setCell ⟨w.heap.size+1,1,none⟩ vb).setCell ⟨w.heap.size+1,2,none⟩ vc).cell? ⟨w.heap.size,1,none⟩=some (.int .i64 k)∧(((w5.setCell ⟨w.heap.size+1,0,none⟩ va).setCell ⟨w.heap.size+1,1,none⟩ vb).setCell ⟨w.heap.size+1,2,none⟩ vc).cell? ⟨w.heap.size,2,none⟩=some (.int .i64 d):=fun va vb vc=>HC.out _ (((hm5.setCell (p:=⟨w.heap.size+1,0,none⟩) (Nat.le_refl _) va).setCell (p:=⟨w.heap.size+1,1,none⟩) (Nat.le_refl _) vb).setCell (p:=⟨w.heap.size+1,2,none⟩) (Nat.le_refl _) vc);have r0:=(k5.cell 0).trans (show _=some (.int .i64 0)from rfl);have r1:=(k5.cell 1).trans (show _=some (.int .i64 0)from rfl);have r2:=(k5.cell 2).trans (show _=some (.int .i64 0)from rfl);have g0:=k5.frozen 0;have g1:=k5.frozen 1;have g2:=k5.frozen 2))
   have HB5:=hid (HBz.out _ hb5);clear hb5 hm5 hs5 HKr HBz k5
   go_wp2_with fail
   refine bodyPost_ret (v:=.tuple #[.agg #[.int .i64 a,.int .i64 b,.int .i64 c],errD oe]) ?_ rfl ?_
   ·simp[results,Tryz.results65,go_sem,r0,r1,r2,g0,g1,g2]
   ·refine⟨⟨a,b,c,by rw[HE.out]⟩,?_⟩
    repeat' (first|exact HB5.out|refine Below.setCell ?_ (by show w.heap.size≤w.heap.size+1;omega) _)
def weekR (t:WeekV):Value:=if weekE t=0 then .tuple #[.string (str (weekT t)),.nilIface]else .tuple #[.string ⟨#[]⟩,.iface 27 (.int .i64 (weekE t))]
theorem weekE_good {t:WeekV} (h:weekE t=0):1≤t.y∧t.y≤9999∧1≤t.w∧t.w≤60∧1≤t.d∧t.d≤7:=by
 have h1:¬(t.y < 1∨9999 < t.y):=fun h1=>by rw[weekE_year h1]at h;cases h
 have h2:¬(t.w < 1∨(firstW (t.y+1) - firstW t.y) / 7 < t.w∨t.d < 1∨7 < t.d):=fun h2=>by rw[weekE_week h1 h2]at h;cases h
 have h3:=firstW_step t.y (by omega) (by omega)
 omega
theorem weekText_any (t:WeekV) (w:World) (hA:AheadV w) (hv:MV w) (y0: -1000000≤t.y∧t.y≤1000000) (w0: -1000000≤t.w∧t.w≤1000000) (d0: -1000000≤t.d∧t.d≤1000000):
 Calls Tryz.prog 34 #[t.v] w fun e w'=>e=.returned (weekR t)∧Below w.heap.size w w':=by
 have hgood:=weekE_good (t:=t);obtain⟨y,k,d⟩:=t;obtain⟨W1,eW1⟩:∃ W,W=w.alloc (.cells #[.int .i64 y,.int .i64 k,.int .i64 d] 68):=⟨_,rfl⟩;have hb1:Below w.heap.size w W1:=by rw[eW1];exact(Below.refl _ _).alloc (Nat.le_refl _) _
 have hk1:Blk W1 w.heap.size 68 #[.int .i64 y,.int .i64 k,.int .i64 d]:=by rw[eW1];exact Blk.new w _ _
 have HCk:=hid (weekDate_any ⟨y,k,d⟩ W1 (hA.below hb1) y0 w0 d0);have HB1:=hid hb1;have HK1:=hid hk1;have EW:=hid eW1;have x0:=(hk1.cell 0).trans (show _=some (.int .i64 y)from rfl);have x1:=(hk1.cell 1).trans (show _=some (.int .i64 k)from rfl);have x2:=(hk1.cell 2).trans (show _=some (.int .i64 d)from rfl);clear eW1 hb1 hk1 y0 w0 d0
 by_cases hok:weekE ⟨y,k,d⟩=0
 ·obtain⟨b1,b2,b3,b4,b5,b6⟩:=hgood hok;dsimp only at b1 b2 b3 b4 b5 b6;have HE:=hid hok;have HR:Hid (weekR ⟨y,k,d⟩=.tuple #[.string (str (padN y 4++[45,87]++padN k 2++[45]++padN d 1)),.nilIface]):=hid (if_pos hok);have HD:Hid (∀ n l:Int,0≤n→n≤1000000000→0≤l→l≤20→∀ W0,Below w.heap.size w W0→∀ W,Below W0.heap.size W0 W→Calls Tryz.prog 66 #[.int .i64 n,.int .i64 l] W fun e w'=>e=.returned (.string (str (padN n l)))∧Below W0.heap.size W0 w'):=hid fun n l n0 n1 l0 l1 W0 hW0 W hW=>(wdigits_any n l W n0 n1 l0 l1 (hv.below (hW0.trans (hW.mono hW0.size)))).mono fun e w' h=>⟨h.1,hW.trans (h.2.mono hW.size)⟩;have H1:=hid (HD.out y 4 (by omega) (by omega) (by omega) (by omega))
  have H2:=hid (HD.out k 2 (by omega) (by omega) (by omega) (by omega))
  have H3:=hid (HD.out d 1 (by omega) (by omega) (by omega) (by omega))
  have l1:=padN_len y 4 (by omega) (by omega) (by omega)
  have l2:=padN_len k 2 (by omega) (by omega) (by omega)
  have l3:=padN_len d 1 (by omega) (by omega) (by omega)
  have HS:Hid (str (padN y 4)++⟨#[45,87]⟩++str (padN k 2)++⟨#[45]⟩++str (padN d 1)=str (padN y 4++[45,87]++padN k 2++[45]++padN d 1)):=hid (by
   rw[show(⟨#[45]⟩:ByteArray)=str [45]from rfl,show(⟨#[45,87]⟩:ByteArray)=str [45,87]from rfl,str_app,str_app,str_app,str_app])
  rw[←str_size]at l1 l2 l3;generalize str (padN y 4++[45,87]++padN k 2++[45]++padN d 1)=Z at *;generalize str (padN y 4)=P1 at *;generalize str (padN k 2)=P2 at *;generalize str (padN d 1)=P3 at *;generalize weekE ⟨y,k,d⟩=er at *;generalize weekR ⟨y,k,d⟩=rr at *;have n1:¬(9223372036854775807 < P1.size+2):=by omega
  have n2:¬(9223372036854775807 < P1.size+2+P2.size):=by omega
  have n3:¬(9223372036854775807 < P1.size+2+P2.size+1):=by omega
  have n4:¬(9223372036854775807 < P1.size+2+P2.size+1+P3.size):=by omega
  clear hok hgood HD hA hv b1 b2 b3 b4 b5 b6 l1 l2 l3;unfold WeekV.v;dsimp only
  go_enter Tryz.func34,Tryz.ntmps34
  go_upto_region 1 with fail
  rw[←EW.out];clear EW
  go_wp2_with fail
  refine HCk.out.mono ?_;clear HCk x0 x1 x2;rintro e w2 ⟨⟨da,db,dc,rfl⟩,hb2⟩;rw[HE.out,errD_zero];obtain⟨W3,eW3⟩:∃ W,W=w2.alloc (.cells #[.int .i64 da,.int .i64 db,.int .i64 dc] 62):=⟨_,rfl⟩;have hb3:Below w2.heap.size w2 W3:=by rw[eW3];exact(Below.refl _ _).alloc (Nat.le_refl _) _
  have hB3:=(HB1.out.trans (hb2.mono HB1.out.size)).trans (hb3.mono (HB1.out.trans (hb2.mono HB1.out.size)).size);have HK3:=hid ((HK1.out.below hb2 HK1.out.lt).below hb3 (HK1.out.below hb2 HK1.out.lt).lt);have HC3:Hid (∀ W,Below W3.heap.size W3 W→W.cell? ⟨w.heap.size,0,none⟩=some (.int .i64 y)∧W.cell? ⟨w.heap.size,1,none⟩=some (.int .i64 k)∧W.cell? ⟨w.heap.size,2,none⟩=some (.int .i64 d)):=hid fun W hW=>
   have k:=HK3.out.below hW HK3.out.lt
   ⟨(k.cell 0).trans rfl,(k.cell 1).trans rfl,(k.cell 2).trans rfl⟩
  have G1:=hid (H1.out W3 hB3);have G2:=hid (H2.out W3 hB3);have G3:=hid (H3.out W3 hB3);have HB3:=hid hB3;have EW3:=hid eW3;clear hB3 hb2 hb3 HK3 H1 H2 H3 HB1 HK1 eW3
  go_upto_region 2 with fail
  rw[←EW3.out];clear EW3;obtain⟨x0,x1,x2⟩:=HC3.out W3 (Below.refl _ _)
  go_wp2_with fail
  go_region_held3 (fun w'=>w'.cell? ⟨w.heap.size,0,none⟩=some (.int .i64 y)∧w'.cell? ⟨w.heap.size,1,none⟩=some (.int .i64 k)∧w'.cell? ⟨w.heap.size,2,none⟩=some (.int .i64 d))
   (first|with_reducible exact HC3.out _ hb6|with_reducible exact HC3.out _ hb5|with_reducible exact HC3.out _ hb4|exact HC3.out _ (Below.refl _ _).drew)
   (first
     | (go_at_call 66
        with_reducible refine(G1.out _ ?_).mono ?_
        first|with_reducible exact hb6|with_reducible exact hb5|exact(Below.refl _ _).drew
        rintro e w4 ⟨rfl,hb4⟩)
     | (go_at_call 66
        with_reducible refine(G2.out _ ?_).mono ?_
        first|with_reducible exact hb6|with_reducible exact hb4|exact(Below.refl _ _).drew
        rintro e w5 ⟨rfl,hb5⟩)
     | (go_at_call 66
        with_reducible refine(G3.out _ ?_).mono ?_
        first|with_reducible exact hb5|with_reducible exact hb4|exact(Below.refl _ _).drew
        rintro e w6 ⟨rfl,hb6⟩))
  all_goals
   go_wp2_with fail
   go_ret2
   refine⟨by rw[HR.out,←HS.out];rfl,?_⟩
   first|with_reducible exact HB3.out.trans (hb6.mono HB3.out.size)|with_reducible exact HB3.out.trans (hb5.mono HB3.out.size)|with_reducible exact HB3.out.trans (hb4.mono HB3.out.size)
 ·have HR:Hid (weekR ⟨y,k,d⟩=.tuple #[.string ⟨#[]⟩,.iface 27 (.int .i64 (weekE ⟨y,k,d⟩))]):=hid (if_neg hok);rw[errD_ne hok]at HCk;generalize weekE ⟨y,k,d⟩=er at *;generalize weekR ⟨y,k,d⟩=rr at *;clear hok hgood hA hv;unfold WeekV.v;dsimp only
  go_enter Tryz.func34,Tryz.ntmps34
  go_upto_region 1 with fail
  rw[←EW.out];clear EW
  go_wp2_with fail
  refine HCk.out.mono ?_;clear HCk x0 x1 x2;rintro e w2 ⟨⟨da,db,dc,rfl⟩,hb2⟩;have HB2:=hid (HB1.out.trans (hb2.mono HB1.out.size));clear hb2
  go_wp2_with fail
  go_ret2
  exact⟨by rw[HR.out];rfl,HB2.out.alloc HB2.out.size _⟩
theorem cellsOf_at {l:List ByteArray} {N j:Nat} (hj:j < l.length):(Lib.cellsOf l N)[j]? =some (.string l[j]):=by
 unfold Lib.cellsOf;rw[List.getElem?_toArray,List.getElem?_append_left (by rw[List.length_map];exact hj),List.getElem?_map,List.getElem?_eq_getElem hj]
 rfl
def PcsAt (w w':World) (l:List ByteArray) (e:Ending):Prop:=
 ∃ c,e=.returned (.slice (some ⟨w.heap.size,0,none⟩) l.length c)∧l.length≤c∧w'.heap.size=w.heap.size+1∧Blk w' w.heap.size 9 (Lib.cellsOf l c)∧Below w.heap.size w w'
theorem PcsAt.made {w:World} {l:List ByteArray} {c:Nat} (h:l.length≤c):PcsAt w (w.alloc (.cells (Lib.cellsOf l c) 9)) l (.returned (.slice (some ⟨w.heap.size,0,none⟩) l.length c)):=
 ⟨c,rfl,h,by simp,Blk.new _ _ _,(Below.refl _ _).alloc (Nat.le_refl _) _⟩
theorem splitN3_any (s:ByteArray) (c:UInt8) (w:World) (hs:s.size≤1000000000) (hv:RV w):
 Calls Tryz.prog 14 #[.string s,.string ⟨#[c]⟩,.int .i64 3] w fun e w'=>PcsAt w w' (Lib.splitB ⟨#[c]⟩ 0 (min 3 (s.size+1) - 1) s) e:=by
 obtain⟨m,hm⟩:=hv.max;refine(Tryz.strings_SplitN s ⟨#[c]⟩ 3 m w (by omega) hm (Nat.le_refl 1) (by decide) (by decide)).mono ?_
 rintro e w' ⟨rfl,rfl⟩;refine PcsAt.made ?_;have:=Lib.splitB_length_le ⟨#[c]⟩ 0 (min 3 (s.size+1) - 1) s;omega
theorem splitNall_any (s:ByteArray) (c:UInt8) (w:World) (hs:s.size≤1000000000) (hv:RV w):
 Calls Tryz.prog 14 #[.string s,.string ⟨#[c]⟩,.int .i64 (-1)] w fun e w'=>PcsAt w w' (splitS s ⟨#[c]⟩) e:=by
 obtain⟨m,hm⟩:=hv.max;have hle:=Lib.countB_le ⟨#[c]⟩ (Nat.le_refl 1) s.size s (Nat.le_refl _);have hlen:=Lib.splitB_all ⟨#[c]⟩ (Nat.le_refl 1) 0 _ s rfl;have hg:=Tryz.strings_genSplit s ⟨#[c]⟩ 0 (-1) (Lib.countB s ⟨#[c]⟩+1) m w (by omega) hm (Nat.le_refl 1) (Nat.zero_le _) (by decide) (by decide) (by rw[if_pos (by decide)];omega)
 rw[Nat.add_sub_cancel]at hg;have HG:=hid hg;have HM:Hid (∀ w',w'=w.alloc (.cells (Lib.cellsOf (Lib.splitB ⟨#[c]⟩ 0 (Lib.countB s ⟨#[c]⟩) s) (Lib.countB s ⟨#[c]⟩+1)) 9)→PcsAt w w' (splitS s ⟨#[c]⟩) (.returned (.slice (some ⟨w.heap.size,0,none⟩) (Lib.splitB ⟨#[c]⟩ 0 (Lib.countB s ⟨#[c]⟩) s).length (Lib.countB s ⟨#[c]⟩+1)))):=hid fun w' h=>by
  subst h;exact PcsAt.made (l:=Lib.splitB ⟨#[c]⟩ 0 (Lib.countB s ⟨#[c]⟩) s) (by omega)
 generalize Lib.cellsOf (Lib.splitB ⟨#[c]⟩ 0 (Lib.countB s ⟨#[c]⟩) s) (Lib.countB s ⟨#[c]⟩+1)=cs at *;generalize (Lib.splitB ⟨#[c]⟩ 0 (Lib.countB s ⟨#[c]⟩) s).length=n at *;clear hle hlen hg hv hm
 go_enter Tryz.func14,Tryz.ntmps14
 go_wp2_with fail
 refine HG.out.mono ?_;clear HG;rintro e w' ⟨rfl,hw⟩;have HW:=hid hw;clear hw
 go_wp2_with fail
 go_ret
 exact HM.out _ HW.out
theorem splitN0_any (s:ByteArray) (c:UInt8) (w:World):Calls Tryz.prog 14 #[.string s,.string ⟨#[c]⟩,.int .i64 0] w fun e w'=>e=.returned (.slice none 0 0)∧w'=w:=by
 have HG:Hid (Calls Tryz.prog 10 #[.string s,.string ⟨#[c]⟩,.int .i64 0,.int .i64 0] w fun e w'=>e=.returned (.slice none 0 0)∧w'=w):=hid (by
  go_enter Tryz.func10,Tryz.ntmps10
  go_wp2_with fail
  go_ret
  exact⟨rfl,rfl⟩)
 go_enter Tryz.func14,Tryz.ntmps14
 go_wp2_with fail
 refine HG.out.mono ?_;rintro e w' ⟨rfl,rfl⟩
 go_wp2_with fail
 go_ret
 exact⟨rfl,rfl⟩
theorem pieces_size (sep:ByteArray) (save:Nat):∀(k:Nat) (s:ByteArray),∀ x∈Lib.splitB sep save k s,x.size≤s.size
 | 0,s,x,hx=>by
   rw[Lib.splitB_zero]at hx;rw[List.mem_singleton.1 hx];exact Nat.le_refl _
 | k+1,s,x,hx=>by
   unfold Lib.splitB at hx;split at hx
   ·rw[List.mem_singleton.1 hx];exact Nat.le_refl _
   ·rcases List.mem_cons.1 hx with rfl|hx
    ·rw[ByteArray.size_extract];omega
    ·have:=pieces_size sep save k _ x hx;rw[ByteArray.size_extract]at this;omega
end Go.Proofs.YtagfnpdoooachaaGreatDoor
