/- date.Check. -/
import Derived.Test.YtagfnpdoooachaaGreatDoorDskW
set_option linter.unusedSimpArgs false
set_option linter.unusedVariables false
namespace Go.Proofs.YtagfnpdoooachaaGreatDoor
open Go.RowKit
open Lib (hid)
def DayV.v (t:DayV):Value:=.agg #[.int .i64 t.y,.int .i64 t.m,.int .i64 t.d]
def dayE (t:DayV):Int:=if t.ok then 0 else 1
theorem AheadV.below {w w':World} (h:AheadV w) (hb:Below w.heap.size w w'):AheadV w':=fun k hk=>by
 have h0:=h k hk;have hl:6 < w.heap.size:=by
  have h1:=h 0 (by decide)
  exact cell_lt h1
 exact(hb.cell (p:=⟨6,k,none⟩) hl).trans h0
theorem AheadV.drewN {w:World} (h:AheadV w) (n:Nat):AheadV (w.drewN n):=h.below (below_drewN (Below.refl _ _) n)
theorem aheadD_bounds2:∀ k,k < 13→0≤aheadD k∧aheadD k≤365:=by decide
theorem beforeD_bounds (y m:Int) (m0:1≤m) (m1:m≤13):0≤beforeD y m∧beforeD y m≤366:=by
 have h:=aheadD_bounds2 (m - 1).toNat (by omega)
 unfold beforeD;split <;> omega
set_option maxHeartbeats 3200000 in
set_option maxRecDepth 100000 in
theorem dcheck_any (t:DayV) (w:World) (hA:AheadV w) (y0: -9223372036854775808≤t.y∧t.y≤9223372036854775807) (m0: -9223372036854775808≤t.m∧t.m≤9223372036854775807) (d0: -9223372036854775808≤t.d∧t.d≤9223372036854775807):
 Calls Tryz.prog 112 #[t.v] w fun e w'=>e=.returned (errD (dayE t))∧Below w.heap.size w w':=by
 obtain⟨y,m,d⟩:=t;have HY:Hid (DayV.ok ⟨y,m,d⟩→dayE ⟨y,m,d⟩=0):=hid fun h=>if_pos h;have HN:Hid (¬ DayV.ok ⟨y,m,d⟩→dayE ⟨y,m,d⟩=1):=hid fun h=>if_neg h;have HOk:Hid (DayV.ok ⟨y,m,d⟩↔1≤y∧y≤9999∧1≤m∧m≤12∧1≤d∧d≤beforeD y (m+1) - beforeD y m):=hid Iff.rfl;generalize dayE ⟨y,m,d⟩=r at *;unfold DayV.v;dsimp only at y0 m0 d0 ⊢;obtain⟨W1,eW1⟩:∃ W,W=w.alloc (.cells #[.int .i64 y,.int .i64 m,.int .i64 d] 62):=⟨_,rfl⟩;have hb1:Below w.heap.size w W1:=by rw[eW1];exact(Below.refl _ _).alloc (Nat.le_refl _) _
 have hk1:Blk W1 w.heap.size 62 #[.int .i64 y,.int .i64 m,.int .i64 d]:=by rw[eW1];exact Blk.new w _ _
 have HA1:=hid (hA.below hb1);have HB1:=hid hb1;have EW:=hid eW1;have x0:=(hk1.cell 0).trans (show _=some (.int .i64 y)from rfl);have x1:=(hk1.cell 1).trans (show _=some (.int .i64 m)from rfl);have x2:=(hk1.cell 2).trans (show _=some (.int .i64 d)from rfl);clear eW1 hb1 hk1 hA
 by_cases h0:y < 1
 ·have HR:=hid (HN.out (fun h=>by have:=HOk.out.1 h;omega))
  clear HY HN HOk;have bh0:decide (y < 1)=true:=decide_eq_true h0
  skip
  go_enter Tryz.func112,Tryz.ntmps112
  go_upto_region 1 with fail
  rw[←EW.out];clear EW
  go_wp2_with fail
  go_quiet (fail)
  go_wp2_with fail
  go_ret
  exact⟨by rw[HR.out];rfl,below_drewN HB1.out _⟩
 ·skip
  by_cases h1:9999 < y
  ·have HR:=hid (HN.out (fun h=>by have:=HOk.out.1 h;omega))
   clear HY HN HOk;have bh0:decide (y < 1)=false:=decide_eq_false h0;have bh1:decide (9999 < y)=true:=decide_eq_true h1;clear h0
   go_enter Tryz.func112,Tryz.ntmps112
   go_upto_region 1 with fail
   rw[←EW.out];clear EW
   go_wp2_with fail
   go_quiet (fail)
   go_wp2_with fail
   go_ret
   exact⟨by rw[HR.out];rfl,below_drewN HB1.out _⟩
  ·skip
   by_cases h2:m < 1
   ·have HR:=hid (HN.out (fun h=>by have:=HOk.out.1 h;omega))
    clear HY HN HOk;have bh0:decide (y < 1)=false:=decide_eq_false h0;have bh1:decide (9999 < y)=false:=decide_eq_false h1;have bh2:decide (m < 1)=true:=decide_eq_true h2;clear h0 h1
    go_enter Tryz.func112,Tryz.ntmps112
    go_upto_region 1 with fail
    rw[←EW.out];clear EW
    go_wp2_with fail
    go_quiet (fail)
    go_wp2_with fail
    go_ret
    exact⟨by rw[HR.out];rfl,below_drewN HB1.out _⟩
   ·skip
    by_cases h3:12 < m
    ·have HR:=hid (HN.out (fun h=>by have:=HOk.out.1 h;omega))
     clear HY HN HOk;have bh0:decide (y < 1)=false:=decide_eq_false h0;have bh1:decide (9999 < y)=false:=decide_eq_false h1;have bh2:decide (m < 1)=false:=decide_eq_false h2;have bh3:decide (12 < m)=true:=decide_eq_true h3;clear h0 h1 h2
     go_enter Tryz.func112,Tryz.ntmps112
     go_upto_region 1 with fail
     rw[←EW.out];clear EW
     go_wp2_with fail
     go_quiet (fail)
     go_wp2_with fail
     go_ret
     exact⟨by rw[HR.out];rfl,below_drewN HB1.out _⟩
    ·skip
     by_cases h4:d < 1
     ·have HR:=hid (HN.out (fun h=>by have:=HOk.out.1 h;omega))
      clear HY HN HOk;have bh0:decide (y < 1)=false:=decide_eq_false h0;have bh1:decide (9999 < y)=false:=decide_eq_false h1;have bh2:decide (m < 1)=false:=decide_eq_false h2;have bh3:decide (12 < m)=false:=decide_eq_false h3;have bh4:decide (d < 1)=true:=decide_eq_true h4;clear h0 h1 h2 h3
      go_enter Tryz.func112,Tryz.ntmps112
      go_upto_region 1 with fail
      rw[←EW.out];clear EW
      go_wp2_with fail
      go_quiet (fail)
      go_wp2_with fail
      go_ret
      exact⟨by rw[HR.out];rfl,below_drewN HB1.out _⟩
     ·skip
      have HBa:Hid (∀ n,Calls Tryz.prog 117 #[.int .i64 y,.int .i64 (m+1)] (W1.drewN n) fun e w'=>e=.returned (.int .i64 (beforeD y (m+1)))∧w'=W1.drewN n):=hid fun n=>before_any y (m+1) (W1.drewN n) (by omega) (by omega) (by omega) (by omega) (HA1.out.drewN n)
      have HBb:Hid (∀ n,Calls Tryz.prog 117 #[.int .i64 y,.int .i64 m] (W1.drewN n) fun e w'=>e=.returned (.int .i64 (beforeD y m))∧w'=W1.drewN n):=hid fun n=>before_any y m (W1.drewN n) (by omega) (by omega) (by omega) (by omega) (HA1.out.drewN n)
      have p1:=beforeD_bounds y (m+1) (by omega) (by omega)
      have p2:=beforeD_bounds y m (by omega) (by omega)
      generalize beforeD y (m+1)=u at *;generalize beforeD y m=v at*
      by_cases h5:u - v < d
      ·have HR:=hid (HN.out (fun h=>by have:=HOk.out.1 h;omega))
       clear HY HN HOk;have bh0:decide (y < 1)=false:=decide_eq_false h0;have bh1:decide (9999 < y)=false:=decide_eq_false h1;have bh2:decide (m < 1)=false:=decide_eq_false h2;have bh3:decide (12 < m)=false:=decide_eq_false h3;have bh4:decide (d < 1)=false:=decide_eq_false h4;have bh5:decide (u - v < d)=true:=decide_eq_true h5;have mw:m≤12:=by omega
       have mv:1≤m:=by omega
       go_enter Tryz.func112,Tryz.ntmps112
       go_upto_region 1 with fail
       rw[←EW.out];clear EW
       go_wp2_with fail
       go_quiet ((go_at_call 117;first|with_reducible exact Calls.quiet_of_same (HBa.out _)|with_reducible exact Calls.quiet_of_same (HBb.out _)))
       go_wp2_with fail
       go_ret
       exact⟨by rw[HR.out];rfl,below_drewN HB1.out _⟩
      ·have HR:=hid (HY.out (HOk.out.2 ⟨by omega,by omega,by omega,by omega,by omega,by omega⟩))
       clear HY HN HOk;have bh0:decide (y < 1)=false:=decide_eq_false h0;have bh1:decide (9999 < y)=false:=decide_eq_false h1;have bh2:decide (m < 1)=false:=decide_eq_false h2;have bh3:decide (12 < m)=false:=decide_eq_false h3;have bh4:decide (d < 1)=false:=decide_eq_false h4;have bh5:decide (u - v < d)=false:=decide_eq_false h5;have mw:m≤12:=by omega
       have mv:1≤m:=by omega
       go_enter Tryz.func112,Tryz.ntmps112
       go_upto_region 1 with fail
       rw[←EW.out];clear EW
       go_wp2_with fail
       go_quiet ((go_at_call 117;first|with_reducible exact Calls.quiet_of_same (HBa.out _)|with_reducible exact Calls.quiet_of_same (HBb.out _)))
       go_wp2_with fail
       go_ret
       exact⟨by rw[HR.out];rfl,below_drewN HB1.out _⟩
end Go.Proofs.YtagfnpdoooachaaGreatDoor
