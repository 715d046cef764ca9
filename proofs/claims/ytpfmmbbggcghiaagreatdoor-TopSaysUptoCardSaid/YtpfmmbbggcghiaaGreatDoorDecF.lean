/- dec.Add. -/
import Derived.Test.YtpfmmbbggcghiaaGreatDoorDecC
set_option linter.unusedSimpArgs false
set_option linter.unusedVariables false
set_option maxHeartbeats 6400000
set_option maxRecDepth 100000
namespace Go.Proofs.YtpfmmbbggcghiaaGreatDoor
open Go.RowKit
open Lib (hid)
theorem tdiv_bound {b u M:Int} (hu:0 < u) (h1: -M≤b) (h2:b≤M): -M≤Int.tdiv b u∧Int.tdiv b u≤M:=by
 rcases Int.le_total 0 b with hb|hb
 ·rw[Int.tdiv_eq_ediv_of_nonneg hb];have h3:=Int.ediv_le_self u hb;have h4:=Int.ediv_nonneg hb (Int.le_of_lt hu);omega
 ·obtain⟨c,rfl⟩:∃ c,b= -c:=⟨-b,by omega⟩
  have hc:0≤c:=by omega
  rw[Int.neg_tdiv,Int.tdiv_eq_ediv_of_nonneg hc];have h3:=Int.ediv_le_self u hc;have h4:=Int.ediv_nonneg hc (Int.le_of_lt hu);omega
theorem tmod_bound {b u:Int} (hu:0 < u): -u < Int.tmod b u∧Int.tmod b u < u:=by
 rcases Int.le_total 0 b with hb|hb
 ·rw[Int.tmod_eq_emod_of_nonneg hb];have h3:=Int.emod_nonneg b (by omega:u≠0)
  have h4:=Int.emod_lt_of_pos b hu;omega
 ·obtain⟨c,rfl⟩:∃ c,b= -c:=⟨-b,by omega⟩
  have hc:0≤c:=by omega
  rw[Int.neg_tmod,Int.tmod_eq_emod_of_nonneg hc];have h3:=Int.emod_nonneg c (by omega:u≠0)
  have h4:=Int.emod_lt_of_pos c hu;omega
theorem mul_bound {s u:Int} (hu:0 < u) (hu2:u≤1000000000) (h1:s≤Int.tdiv 2000000000000000 u+1) (h2:Int.tdiv (-2000000000000000) u - 1≤s): -3000000000000000≤s*u∧s*u≤3000000000000000:=by
 rw[Int.neg_tdiv]at h2;rw[Int.tdiv_eq_ediv_of_nonneg (by decide)]at h1 h2
 have h3:=Int.ediv_mul_le 2000000000000000 (by omega:u≠0)
 have h4:=Int.mul_le_mul_of_nonneg_right h1 (Int.le_of_lt hu);have h5:=Int.mul_le_mul_of_nonneg_right h2 (Int.le_of_lt hu);rw[Int.add_mul,Int.one_mul]at h4;rw[Int.sub_mul,Int.one_mul,Int.neg_mul]at h5;omega
def swapD (a b:DecV):DecV×DecV:=if b.scale < a.scale then(b,a)else(a,b)
def sumD (a b:DecV):Int:=a.coef+Int.tdiv b.coef (P10 (b.scale - a.scale).toNat)
def farD (a b:DecV):Bool:=decide (Int.tdiv 2000000000000000 (P10 (b.scale - a.scale).toNat)+1 < sumD a b) || decide (sumD a b < Int.tdiv (-2000000000000000) (P10 (b.scale - a.scale).toNat) - 1)
def totD (a b:DecV):Int:=sumD a b*P10 (b.scale - a.scale).toNat+Int.tmod b.coef (P10 (b.scale - a.scale).toNat)
def addO (a b:DecV):Option DecV:=if farD a b then none else if totD a b < -1000000000000000∨1000000000000000 < totD a b then none else some ⟨totD a b,b.scale⟩
def addD (a b:DecV):Option DecV:=if a.ok∧b.ok then addO (swapD a b).1 (swapD a b).2 else none
def resD (o:Option DecV):Value:=.tuple #[(o.getD ⟨0,0⟩).v,errD (if o.isSome then 0 else 1)]
theorem addD_any (a b:DecV) (w:World):Calls Tryz.prog 95 #[a.v,b.v] w fun e w'=>e=.returned (resD (addD a b))∧Below w.heap.size w w':=by
 have HA:Hid (∀ W,Calls Tryz.prog 88 #[a.v] W fun e w'=>e=.returned (errD (checkD a))∧Below W.heap.size W w'):=hid fun W=>checkD_any a W;have HB:Hid (∀ W,Calls Tryz.prog 88 #[b.v] W fun e w'=>e=.returned (errD (checkD b))∧Below W.heap.size W w'):=hid fun W=>checkD_any b W;have HNo:Hid (¬ a.ok∨¬ b.ok→addD a b=none):=hid fun h=>if_neg (by rintro⟨h1,h2⟩;rcases h with h|h;exact h h1;exact h h2)
 have HYes:Hid (a.ok→b.ok→addD a b=addO (swapD a b).1 (swapD a b).2):=hid fun h1 h2=>if_pos ⟨h1,h2⟩;have HSw:Hid ((b.scale < a.scale→swapD a b=(b,a))∧(¬ b.scale < a.scale→swapD a b=(a,b))):=hid ⟨fun h=>if_pos h,fun h=>if_neg h⟩;obtain⟨W2,eW2⟩:∃ W2,W2=((w.alloc (.cells #[.int .i64 a.coef,.int .i64 a.scale] 65)).alloc (.cells #[.int .i64 b.coef,.int .i64 b.scale] 65)).alloc (.cells #[.int .i64 0,.int .i64 0] 65):=⟨_,rfl⟩;have ma:Blk W2 w.heap.size 65 #[.int .i64 a.coef,.int .i64 a.scale]:=by rw[eW2];exact((Blk.new _ _ _).alloc _).alloc _
 have mb:Blk W2 (w.heap.size+1) 65 #[.int .i64 b.coef,.int .i64 b.scale]:=by
  rw[eW2];have:=Blk.new (w.alloc (.cells #[.int .i64 a.coef,.int .i64 a.scale] 65)) 65 #[.int .i64 b.coef,.int .i64 b.scale];rw[World.size_alloc]at this;exact this.alloc _
 have mr:Blk W2 (w.heap.size+2) 65 #[.int .i64 0,.int .i64 0]:=by
  rw[eW2];have:=Blk.new ((w.alloc (.cells #[.int .i64 a.coef,.int .i64 a.scale] 65)).alloc (.cells #[.int .i64 b.coef,.int .i64 b.scale] 65)) 65 #[.int .i64 0,.int .i64 0];rw[World.size_alloc,World.size_alloc]at this;exact this
 have hb2:Below w.heap.size w W2:=by rw[eW2];exact(((Below.refl _ _).alloc (Nat.le_refl _) _).alloc (by simp) _).alloc (by simp;omega) _
 have HB2:=hid hb2;have MA:=hid ma;have MB:=hid mb;have MR:=hid mr;have EW:=hid eW2;have k0:=(ma.cell 0).trans (show _=some (.int .i64 a.coef)from rfl);have k1:=(ma.cell 1).trans (show _=some (.int .i64 a.scale)from rfl);clear hb2 ma mb mr eW2;unfold DecV.v at HA HB ⊢
 go_enter Tryz.func95,Tryz.ntmps95
 go_upto_region 1 with fail
 rw[←EW.out];clear EW
 go_wp2_with fail
 refine(HA.out W2).mono ?_;clear HA;rintro e w3 ⟨rfl,hb3⟩;have HB3:=hid (HB2.out.trans (hb3.mono HB2.out.size));have MA3:=hid (MA.out.below hb3 MA.out.lt);have MB3:=hid (MB.out.below hb3 MB.out.lt);have MR3:=hid (MR.out.below hb3 MR.out.lt);clear MA MB MR k0 k1 hb3
 by_cases ha:a.ok
 ·rw[checkD_ok ha,errD_zero];have d0:=(MB3.out.cell 0).trans (show _=some (.int .i64 b.coef)from rfl);have d1:=(MB3.out.cell 1).trans (show _=some (.int .i64 b.scale)from rfl)
  go_wp2_with fail
  refine(HB.out w3).mono ?_;clear HB d0 d1;rintro e w4 ⟨rfl,hb4⟩;have HB4:=hid (HB3.out.trans (hb4.mono HB3.out.size));have MA4:=hid (MA3.out.below hb4 MA3.out.lt);have MB4:=hid (MB3.out.below hb4 MB3.out.lt);have MR4:=hid (MR3.out.below hb4 MR3.out.lt);clear MA3 MB3 MR3 hb4
  by_cases hb:b.ok
  ·rw[checkD_ok hb,errD_zero];have HY:=hid (HYes.out ha hb);have haK:=hid ha;have hbK:=hid hb;have k0:=(MA4.out.cell 0).trans (show _=some (.int .i64 a.coef)from rfl);have k1:=(MA4.out.cell 1).trans (show _=some (.int .i64 a.scale)from rfl);have d0:=(MB4.out.cell 0).trans (show _=some (.int .i64 b.coef)from rfl);have d1:=(MB4.out.cell 1).trans (show _=some (.int .i64 b.scale)from rfl);have fa0:=MA4.out.frozen 0;have fa1:=MA4.out.frozen 1;have fb0:=MB4.out.frozen 0;have fb1:=MB4.out.frozen 1;clear HYes HNo ha hb;have hOk:Hid ((swapD a b).1.ok∧(swapD a b).2.ok∧(swapD a b).1.scale≤(swapD a b).2.scale):=hid (by
    unfold swapD;split
    ·exact⟨hbK.out,haK.out,by dsimp only;omega⟩
    ·exact⟨haK.out,hbK.out,by dsimp only;omega⟩)
   go_upto_if 29 with fail
   go_cut [] (fun wx=>Below w.heap.size w wx∧Blk wx w.heap.size 65 #[.int .i64 (swapD a b).1.coef,.int .i64 (swapD a b).1.scale]∧Blk wx (w.heap.size+1) 65 #[.int .i64 (swapD a b).2.coef,.int .i64 (swapD a b).2.scale]∧Blk wx (w.heap.size+2) 65 #[.int .i64 0,.int .i64 0])
   case first=>
    clear HY hOk
    by_cases hs:b.scale < a.scale
    ·have HE:=hid (HSw.out.1 hs);clear HSw
     go_wp2_with fail
     go_meet
     case rel=>
      rw[HE.out];have q1:w.heap.size≠w.heap.size+1:=by omega
      have q2:w.heap.size+1≠w.heap.size:=by omega
      have q3:w.heap.size+2≠w.heap.size:=by omega
      have q4:w.heap.size+2≠w.heap.size+1:=by omega
      exact⟨(((HB4.out.setCell (p:=⟨_,_,none⟩) (Nat.le_refl _) _).setCell (p:=⟨_,_,none⟩) (Nat.le_refl _) _).setCell (p:=⟨_,_,none⟩) (Nat.le_succ _) _).setCell (p:=⟨_,_,none⟩) (Nat.le_succ _) _,
       (((MA4.out.set_ 0 _).set_ 1 _).far q1 _).far q1 _,(((MB4.out.far q2 _).far q2 _).set_ 0 _).set_ 1 _,(((MR4.out.far q3 _).far q3 _).far q4 _).far q4 _⟩
    ·have HE:=hid (HSw.out.2 (by first|exact hs|exact Int.not_lt.1 hs))
     clear HSw
     go_wp2_with fail
     go_meet
     case rel=>
      rw[HE.out];exact⟨HB4.out,MA4.out,MB4.out,MR4.out⟩
   case rest=>
    obtain⟨hbc,hma,hmb,hmr⟩:=hcut;clear k0 k1 d0 d1 fa0 fa1 fb0 fb1 haK hbK HSw HB4 MA4 MB4 MR4;generalize swapD a b=pr at *;obtain⟨⟨x,s⟩,⟨y,t⟩⟩:=pr;dsimp only at hOk hma hmb HY;obtain⟨⟨p0,p1,p2,p3⟩,⟨p4,p5,p6,p7⟩,p8⟩:=hOk.out;dsimp only at p0 p1 p2 p3 p4 p5 p6 p7 p8;obtain⟨k,hk⟩:∃ k:Nat,t - s=k:=⟨(t - s).toNat,by omega⟩
    have hk9:k≤9:=by omega
    have HP:Hid (∀ W,Calls Tryz.prog 141 #[.int .i64 k] W fun e w'=>e=.returned (.int .i64 (P10 k))∧w'=W):=hid fun W=>power_any k W hk9;have hu0:=P10_pos k;have hu1:=P10_le k hk9;have hek:(t - s).toNat=k:=by omega
    have HF:Hid (addO ⟨x,s⟩ ⟨y,t⟩=if(decide (Int.tdiv 2000000000000000 (P10 k)+1 < x+Int.tdiv y (P10 k)) || decide (x+Int.tdiv y (P10 k) < Int.tdiv (-2000000000000000) (P10 k) - 1))=true then none else
     if(x+Int.tdiv y (P10 k))*P10 k+Int.tmod y (P10 k) < -1000000000000000∨1000000000000000 < (x+Int.tdiv y (P10 k))*P10 k+Int.tmod y (P10 k)then none else some ⟨(x+Int.tdiv y (P10 k))*P10 k+Int.tmod y (P10 k),t⟩):=hid (by
     unfold addO farD totD sumD;dsimp only;rw[hek])
    rw[Int.neg_tdiv]at HF;have hw1:wrap64 (t - s)=k:=by rw[hk];unfold wrap64;omega
    generalize P10 k=u at *;have hu:(u == (0:Int))=false:=by rw[beq_eq_false_iff_ne];omega
    obtain⟨hd1,hd2⟩:=tdiv_bound (b:=y) (M:=1000000000000000) hu0 p6 p7;obtain⟨hm1,hm2⟩:=tmod_bound (b:=y) hu0;obtain⟨he1,he2⟩:=tdiv_bound (b:=2000000000000000) (M:=2000000000000000) hu0 (by decide) (by decide)
    have hmb2:Int.tdiv 2000000000000000 u+1≥x+Int.tdiv y u→ -Int.tdiv 2000000000000000 u - 1≤x+Int.tdiv y u→ -3000000000000000≤(x+Int.tdiv y u)*u∧(x+Int.tdiv y u)*u≤3000000000000000:=fun h1 h2=>mul_bound hu0 hu1 h1 (by rw[Int.neg_tdiv];exact h2)
    have HMb:=hid hmb2;have k0:=(hma.cell 0).trans (show _=some (.int .i64 x)from rfl);have k1:=(hma.cell 1).trans (show _=some (.int .i64 s)from rfl);have d0:=(hmb.cell 0).trans (show _=some (.int .i64 y)from rfl);have d1:=(hmb.cell 1).trans (show _=some (.int .i64 t)from rfl);have r0:=(hmr.cell 0).trans (show _=some (.int .i64 0)from rfl);have r1:=(hmr.cell 1).trans (show _=some (.int .i64 0)from rfl);have f0:=hmr.frozen 0;have f1:=hmr.frozen 1;have HBc:=hid hbc;clear hbc hma hmb hmr hOk hmb2 hk hek;have hw2:wrap64 (Int.tdiv y u)=Int.tdiv y u:=by unfold wrap64;omega
    have hw3:wrap64 (x+Int.tdiv y u)=x+Int.tdiv y u:=by unfold wrap64;omega
    have hw4:wrap64 (Int.tdiv 2000000000000000 u)=Int.tdiv 2000000000000000 u:=by unfold wrap64;omega
    have hw5:wrap64 (Int.tdiv 2000000000000000 u+1)=Int.tdiv 2000000000000000 u+1:=by unfold wrap64;omega
    have hw6:wrap64 (-Int.tdiv 2000000000000000 u)= -Int.tdiv 2000000000000000 u:=by unfold wrap64;omega
    have hw7:wrap64 (-Int.tdiv 2000000000000000 u - 1)= -Int.tdiv 2000000000000000 u - 1:=by unfold wrap64;omega
    have hun:¬(u=0):=by omega
    have HN0:=hid (And.intro hu0 hu1);have HN1:=hid hd1;have HN2:=hid hd2;have HN3:=hid hm1;have HN4:=hid hm2;clear p0 p1 p2 p3 p4 p5 p6 p7 p8 hk9 hu0 hu1 hd1 hd2 hm1 hm2 he1 he2
    go_wp2_with fail
    refine(HP.out _).mono ?_;clear HP;rintro e w5 ⟨rfl,rfl⟩
    go_wp2_with fail
    go_quiet (fail)
    generalize Int.tdiv y u=dv at *;generalize Int.tmod y u=md at *;have HZ0:Hid (addD a b=none∨¬(Int.tdiv 2000000000000000 u+1 < x+dv)∧¬(x+dv < -Int.tdiv 2000000000000000 u - 1)):=hid (by
     by_cases q:(decide (Int.tdiv 2000000000000000 u+1 < x+dv) || decide (x+dv < -Int.tdiv 2000000000000000 u - 1))=true
     ·exact .inl (by rw[HY.out,HF.out,if_pos q])
     ·exact .inr (by simpa using q))
    by_cases q1:Int.tdiv 2000000000000000 u+1 < x+dv
    ·have HZ:Hid (addD a b=none):=hid (by rw[HY.out,HF.out,if_pos (by rw[decide_eq_true q1];rfl)])
     clear HZ0 HF HY
     go_wp2_with fail
     refine bodyPost_ret (v:=.tuple #[.agg #[.int .i64 0,.int .i64 0],.iface 35 (.int .i64 1)]) ?_ rfl ?_
     ·simp[results,Tryz.results95,go_sem,r0,r1,f0,f1]
     ·exact⟨by rw[HZ.out];rfl,((below_drewN HBc.out _).setCell (p:=⟨_,_,none⟩) (by show w.heap.size≤w.heap.size+1+1;omega) _).setCell (p:=⟨_,_,none⟩) (by show w.heap.size≤w.heap.size+1+1;omega) _⟩
    ·have q1d:decide (Int.tdiv 2000000000000000 u+1 < x+dv)=false:=decide_eq_false q1
     by_cases q2:x+dv < -Int.tdiv 2000000000000000 u - 1
     ·have HZ:Hid (addD a b=none):=hid (by rw[HY.out,HF.out,if_pos (by rw[decide_eq_true q2];exact Bool.or_true _)])
      have q2d:decide (x+dv < -Int.tdiv 2000000000000000 u - 1)=true:=decide_eq_true q2;clear HZ0 HF HY q1 q2
      go_wp2_with fail
      refine bodyPost_ret (v:=.tuple #[.agg #[.int .i64 0,.int .i64 0],.iface 35 (.int .i64 1)]) ?_ rfl ?_
      ·simp[results,Tryz.results95,go_sem,r0,r1,f0,f1]
      ·exact⟨by rw[HZ.out];rfl,((below_drewN HBc.out _).setCell (p:=⟨_,_,none⟩) (by show w.heap.size≤w.heap.size+1+1;omega) _).setCell (p:=⟨_,_,none⟩) (by show w.heap.size≤w.heap.size+1+1;omega) _⟩
     ·have HF2:Hid (addD a b=if(x+dv)*u+md < -1000000000000000∨1000000000000000 < (x+dv)*u+md then none else some ⟨(x+dv)*u+md,t⟩):=hid (by rw[HY.out,HF.out,if_neg (by rw[decide_eq_false q1,decide_eq_false q2];decide)])
      obtain⟨g1,g2⟩:=HMb.out (by omega) (by omega)
      have hu9:=HN0.out;have hm1:=HN3.out;have hm2:=HN4.out;have q2d:decide (x+dv < -Int.tdiv 2000000000000000 u - 1)=false:=decide_eq_false q2;clear HF HY HZ0 q1 q2;generalize hsu:(x+dv)*u=su at *;have hw8:wrap64 su=su:=by unfold wrap64;omega
      have hw9:wrap64 (su+md)=su+md:=by unfold wrap64;omega
      have hsu2:wrap64 ((x+dv)*u)=su:=by rw[hsu];exact hw8
      clear hu9 hm1 hm2 g1 g2 hw8 hsu
      by_cases q3:su+md < -1000000000000000
      ·have HZ:Hid (addD a b=none):=hid (by rw[HF2.out,if_pos (.inl q3)])
       clear HF2
       go_wp2_with fail
       refine bodyPost_ret (v:=.tuple #[.agg #[.int .i64 0,.int .i64 0],.iface 35 (.int .i64 1)]) ?_ rfl ?_
       ·simp[results,Tryz.results95,go_sem,r0,r1,f0,f1]
       ·exact⟨by rw[HZ.out];rfl,((below_drewN HBc.out _).setCell (p:=⟨_,_,none⟩) (by show w.heap.size≤w.heap.size+1+1;omega) _).setCell (p:=⟨_,_,none⟩) (by show w.heap.size≤w.heap.size+1+1;omega) _⟩
      ·by_cases q4:1000000000000000 < su+md
       ·have HZ:Hid (addD a b=none):=hid (by rw[HF2.out,if_pos (.inr q4)])
        clear HF2
        go_wp2_with fail
        refine bodyPost_ret (v:=.tuple #[.agg #[.int .i64 0,.int .i64 0],.iface 35 (.int .i64 1)]) ?_ rfl ?_
        ·simp[results,Tryz.results95,go_sem,r0,r1,f0,f1]
        ·exact⟨by rw[HZ.out];rfl,((below_drewN HBc.out _).setCell (p:=⟨_,_,none⟩) (by show w.heap.size≤w.heap.size+1+1;omega) _).setCell (p:=⟨_,_,none⟩) (by show w.heap.size≤w.heap.size+1+1;omega) _⟩
       ·have HZ:Hid (addD a b=some ⟨su+md,t⟩):=hid (by rw[HF2.out,if_neg (by omega)])
        clear HF2
        go_wp2_with fail
        refine bodyPost_ret (v:=.tuple #[.agg #[.int .i64 (su+md),.int .i64 t],.nilIface]) ?_ rfl ?_
        ·simp[results,Tryz.results95,go_sem,r0,r1,f0,f1]
        ·exact⟨by rw[HZ.out];rfl,((below_drewN HBc.out _).setCell (p:=⟨_,_,none⟩) (by show w.heap.size≤w.heap.size+1+1;omega) _).setCell (p:=⟨_,_,none⟩) (by show w.heap.size≤w.heap.size+1+1;omega) _⟩
  ·rw[checkD_no hb,errD_ne (by decide)]
   have r0:=(MR4.out.cell 0).trans (show _=some (.int .i64 0)from rfl);have r1:=(MR4.out.cell 1).trans (show _=some (.int .i64 0)from rfl);have f0:=MR4.out.frozen 0;have f1:=MR4.out.frozen 1;have HE:=hid (HNo.out (.inr hb));clear HNo HYes HSw hb
   go_wp2_with fail
   refine bodyPost_ret (v:=.tuple #[.agg #[.int .i64 0,.int .i64 0],.iface 35 (.int .i64 1)]) ?_ rfl ?_
   ·simp[results,Tryz.results95,go_sem,r0,r1,f0,f1]
   ·exact⟨by rw[HE.out];rfl,(HB4.out.setCell (p:=⟨_,_,none⟩) (by show w.heap.size≤w.heap.size+1+1;omega) _).setCell (p:=⟨_,_,none⟩) (by show w.heap.size≤w.heap.size+1+1;omega) _⟩
 ·rw[checkD_no ha,errD_ne (by decide)]
  have r0:=(MR3.out.cell 0).trans (show _=some (.int .i64 0)from rfl);have r1:=(MR3.out.cell 1).trans (show _=some (.int .i64 0)from rfl);have f0:=MR3.out.frozen 0;have f1:=MR3.out.frozen 1;have HE:=hid (HNo.out (.inl ha));clear HNo HYes HSw HB ha
  go_wp2_with fail
  refine bodyPost_ret (v:=.tuple #[.agg #[.int .i64 0,.int .i64 0],.iface 35 (.int .i64 1)]) ?_ rfl ?_
  ·simp[results,Tryz.results95,go_sem,r0,r1,f0,f1]
  ·exact⟨by rw[HE.out];rfl,(HB3.out.setCell (p:=⟨_,_,none⟩) (by show w.heap.size≤w.heap.size+1+1;omega) _).setCell (p:=⟨_,_,none⟩) (by show w.heap.size≤w.heap.size+1+1;omega) _⟩
def absD (c:Int):Int:=if c < 0 then -c else c
def wholeD (d:DecV):Int:=Int.tdiv (absD d.coef) (P10 (d.scale - 3).toNat)
def restD (d:DecV):Int:=Int.tmod (absD d.coef) (P10 (d.scale - 3).toNat)
def upD (d:DecV):Int:=if nearE (wholeD d) (restD d) (P10 (d.scale - 3).toNat)then wholeD d+1 else wholeD d
def round3 (d:DecV):DecV:=⟨if d.coef < 0 then -upD d else upD d,3⟩
theorem upD_bound (d:DecV) (h:d.ok) (h3:3 < d.scale):0≤wholeD d∧wholeD d≤100000000000000∧0≤upD d∧upD d≤1000000000000000:=by
 unfold DecV.ok at h;obtain⟨h0,h1,h2,h4⟩:=h;have ha:0≤absD d.coef∧absD d.coef≤1000000000000000:=by unfold absD;split <;> omega
 have hp:10≤P10 (d.scale - 3).toNat:=by
  unfold P10;have:10 ^ 1≤10 ^ (d.scale - 3).toNat:=Nat.pow_le_pow_right (by decide) (by omega)
  omega
 have hw:0≤wholeD d∧wholeD d≤100000000000000:=by
  unfold wholeD;rw[Int.tdiv_eq_ediv_of_nonneg ha.1];have q1:=Int.ediv_nonneg ha.1 (Int.le_of_lt (P10_pos (d.scale - 3).toNat));generalize P10 (d.scale - 3).toNat=u at *;have q2:=Int.ediv_mul_le (absD d.coef) (by omega:u≠0)
  generalize absD d.coef / u=z at *;have q3:=Int.mul_le_mul_of_nonneg_left hp q1;omega
 refine⟨hw.1,hw.2,?_,?_⟩ <;> (unfold upD;split <;> omega)
theorem round3_ok (d:DecV) (h:d.ok) (h3:3 < d.scale):(round3 d).ok:=by
 obtain⟨_,_,q1,q2⟩:=upD_bound d h h3;unfold round3 DecV.ok;dsimp only;refine⟨by decide,by decide,?_,?_⟩ <;> (split <;> omega)
theorem round_any (d:DecV) (w:World) (hd:d.ok) (h3:3 < d.scale):Calls Tryz.prog 136 #[d.v,.int .i64 3,.int .i64 5] w fun e w'=>e=.returned (.tuple #[(round3 d).v,.nilIface])∧Below w.heap.size w w':=by
 have HA:Hid (∀ W,Calls Tryz.prog 88 #[d.v] W fun e w'=>e=.returned .nilIface∧Below W.heap.size W w'):=hid fun W=>by
  have h:=checkD_any d W;rwa[checkD_ok hd]at h
 obtain⟨q1,q2,q3,q4⟩:=upD_bound d hd h3;have HR:Hid (round3 d=⟨if d.coef < 0 then -upD d else upD d,3⟩):=hid rfl
 have HU:Hid (upD d=if nearE (wholeD d) (restD d) (P10 (d.scale - 3).toNat)then wholeD d+1 else wholeD d):=hid rfl
 have hrest:0≤restD d∧restD d≤1000000000:=by
  unfold restD;unfold DecV.ok at hd;have ha:0≤absD d.coef:=by unfold absD;split <;> omega
  rw[Int.tmod_eq_emod_of_nonneg ha];have h1:=P10_pos (d.scale - 3).toNat;have h2:=P10_le (d.scale - 3).toNat (by omega)
  have h3:=Int.emod_nonneg (absD d.coef) (by omega:P10 (d.scale - 3).toNat≠0)
  have h4:=Int.emod_lt_of_pos (absD d.coef) h1;omega
 have HNe:Hid (∀ W sg,Calls Tryz.prog 179 #[.int .i64 5,.int .i64 (wholeD d),.int .i64 (restD d),.int .i64 (P10 (d.scale - 3).toNat),.int .i64 sg] W fun e w'=>e=.returned (.bool (nearE (wholeD d) (restD d) (P10 (d.scale - 3).toNat)))∧w'=W):=hid fun W sg=>
  nearer_any _ _ _ sg W hrest.1 hrest.2
 have HWh:Hid (wholeD d=Int.tdiv (if d.coef < 0 then -d.coef else d.coef) (P10 (d.scale - 3).toNat)∧restD d=Int.tmod (if d.coef < 0 then -d.coef else d.coef) (P10 (d.scale - 3).toNat)):=hid ⟨rfl,rfl⟩
 generalize round3 d=rd at *;generalize upD d=up at *;generalize wholeD d=wh at *;generalize restD d=re at *;obtain⟨c,s⟩:=d;unfold DecV.ok at hd;obtain⟨s0,s1,c0,c1⟩:=hd;dsimp only at s0 s1 c0 c1 h3 HR HU HNe HWh;obtain⟨k,hk⟩:∃ k:Nat,s - 3=k:=⟨(s - 3).toNat,by omega⟩
 have hk9:k≤9:=by omega
 have hek:(s - 3).toNat=k:=by omega
 rw[hek]at HU HNe HWh;have HP:Hid (∀ W,Calls Tryz.prog 141 #[.int .i64 k] W fun e w'=>e=.returned (.int .i64 (P10 k))∧w'=W):=hid fun W=>power_any k W hk9;have hu0:=P10_pos k;generalize P10 k=u at *;generalize nearE wh re u=ne at *;have hun:¬(u=0):=by omega
 have hw1:wrap64 (s - 3)=k:=by rw[hk];unfold wrap64;omega
 have hw2:wrap64 (-c)= -c:=by unfold wrap64;omega
 have hw3:wrap64 (wh+1)=wh+1:=by unfold wrap64;omega
 have hw6:wrap64 wh=wh:=by unfold wrap64;omega
 have hw4:wrap64 (-up)= -up:=by unfold wrap64;omega
 have hw5:wrap64 up=up:=by unfold wrap64;omega
 have hs3:¬(s≤3):=by omega
 obtain⟨W2,eW2⟩:∃ W2,W2=(w.alloc (.cells #[.int .i64 c,.int .i64 s] 65)).alloc (.cells #[.int .i64 0,.int .i64 0] 65):=⟨_,rfl⟩;have ma:Blk W2 w.heap.size 65 #[.int .i64 c,.int .i64 s]:=by rw[eW2];exact(Blk.new _ _ _).alloc _
 have mr:Blk W2 (w.heap.size+1) 65 #[.int .i64 0,.int .i64 0]:=by
  rw[eW2];have:=Blk.new (w.alloc (.cells #[.int .i64 c,.int .i64 s] 65)) 65 #[.int .i64 0,.int .i64 0];rw[World.size_alloc]at this;exact this
 have hb2:Below w.heap.size w W2:=by rw[eW2];exact((Below.refl _ _).alloc (Nat.le_refl _) _).alloc (by simp) _
 have HB2:=hid hb2;have MA:=hid ma;have MR:=hid mr;have EW:=hid eW2;have k0:=(ma.cell 0).trans (show _=some (.int .i64 c)from rfl);have k1:=(ma.cell 1).trans (show _=some (.int .i64 s)from rfl);unfold DecV.v at HA ⊢;dsimp only at HA;clear hb2 ma mr eW2 hek hk hk9 s0 s1 c0 c1 q1 q2 q3 q4 hu0 hrest h3
 go_enter Tryz.func136,Tryz.ntmps136
 go_upto_region 1 with fail
 rw[←EW.out];clear EW
 go_wp2_with fail
 refine(HA.out W2).mono ?_;clear HA;rintro e w3 ⟨rfl,hb3⟩;have m3:=MA.out.below hb3 MA.out.lt;have n3:=MR.out.below hb3 MR.out.lt;have HB3:=hid (HB2.out.trans (hb3.mono HB2.out.size));have d0:=(m3.cell 0).trans (show _=some (.int .i64 c)from rfl);have d1:=(m3.cell 1).trans (show _=some (.int .i64 s)from rfl);have r0:=(n3.cell 0).trans (show _=some (.int .i64 0)from rfl);have r1:=(n3.cell 1).trans (show _=some (.int .i64 0)from rfl);have f0:=n3.frozen 0;have f1:=n3.frozen 1;clear m3 n3 hb3 k0 k1 MA MR HB2
 by_cases hc:c < 0
 ·have hc2:¬(0≤c):=by omega
  obtain⟨e1,e2⟩:=HWh.out;rw[if_pos hc]at e1 e2;rw[Int.neg_tdiv]at e1;rw[Int.neg_tmod]at e2;have E1:=hid e1.symm;have E2:=hid e2.symm;have HRd:Hid (rd=⟨-up,3⟩):=hid (by rw[HR.out,if_pos hc])
  clear e1 e2 HWh HR
  go_wp2_with fail
  go_quiet (fail)
  go_wp2_with fail
  refine(HP.out _).mono ?_;clear HP;rintro e w5 ⟨rfl,hW⟩;have d0':w5.cell? ⟨w.heap.size,0,none⟩=some (.int .i64 c):=by rw[hW];exact d0
  have d1':w5.cell? ⟨w.heap.size,1,none⟩=some (.int .i64 s):=by rw[hW];exact d1
  have r0':w5.cell? ⟨w.heap.size+1,0,none⟩=some (.int .i64 0):=by rw[hW];exact r0
  have r1':w5.cell? ⟨w.heap.size+1,1,none⟩=some (.int .i64 0):=by rw[hW];exact r1
  have f0':w5.frozen? ⟨w.heap.size+1,0,none⟩=false:=by rw[hW];exact f0
  have f1':w5.frozen? ⟨w.heap.size+1,1,none⟩=false:=by rw[hW];exact f1
  have HB5:Hid (Below w.heap.size w w5):=hid (by rw[hW];exact below_drewN HB3.out _)
  clear hW d0 d1 r0 r1 f0 f1 HB3
  go_wp2_with fail
  go_quiet (fail)
  rw[E1.out,E2.out];clear E1 E2 hw1 hw2 hw5 hs3 hun hc hc2 d0' d1'
  go_wp2_with fail
  refine(HNe.out _ _).mono ?_;clear HNe;rintro e w5 ⟨rfl,rfl⟩;cases ne with
  | true=>
    obtain rfl:up=wh+1:=by rw[HU.out,if_pos rfl]
    go_wp2_with fail
    refine bodyPost_ret (v:=.tuple #[.agg #[.int .i64 (-(wh+1)),.int .i64 3],.nilIface]) ?_ rfl ?_
    ·simp[results,Tryz.results136,go_sem,r0',r1',f0',f1']
    ·exact⟨by first|(rw[HRd.out];done)|(rw[HRd.out];rfl),((below_drewN HB5.out _).setCell (p:=⟨_,_,none⟩) (by show w.heap.size≤w.heap.size+1;omega) _).setCell (p:=⟨_,_,none⟩) (by show w.heap.size≤w.heap.size+1;omega) _⟩
  | false=>
    obtain rfl:up=wh:=by rw[HU.out,if_neg (by decide)]
    go_wp2_with fail
    refine bodyPost_ret (v:=.tuple #[.agg #[.int .i64 (-up),.int .i64 3],.nilIface]) ?_ rfl ?_
    ·simp[results,Tryz.results136,go_sem,r0',r1',f0',f1']
    ·exact⟨by first|(rw[HRd.out];done)|(rw[HRd.out];rfl),((below_drewN HB5.out _).setCell (p:=⟨_,_,none⟩) (by show w.heap.size≤w.heap.size+1;omega) _).setCell (p:=⟨_,_,none⟩) (by show w.heap.size≤w.heap.size+1;omega) _⟩
 ·have hc2:(0≤c):=by omega
  obtain⟨e1,e2⟩:=HWh.out;rw[if_neg hc]at e1 e2;rw[Int.tmod_eq_emod_of_nonneg hc2]at e2;have E1:=hid e1.symm;have E2:=hid e2.symm;have HRd:Hid (rd=⟨up,3⟩):=hid (by rw[HR.out,if_neg hc])
  clear e1 e2 HWh HR
  go_wp2_with fail
  go_quiet (fail)
  go_wp2_with fail
  refine(HP.out _).mono ?_;clear HP;rintro e w5 ⟨rfl,hW⟩;have d0':w5.cell? ⟨w.heap.size,0,none⟩=some (.int .i64 c):=by rw[hW];exact d0
  have d1':w5.cell? ⟨w.heap.size,1,none⟩=some (.int .i64 s):=by rw[hW];exact d1
  have r0':w5.cell? ⟨w.heap.size+1,0,none⟩=some (.int .i64 0):=by rw[hW];exact r0
  have r1':w5.cell? ⟨w.heap.size+1,1,none⟩=some (.int .i64 0):=by rw[hW];exact r1
  have f0':w5.frozen? ⟨w.heap.size+1,0,none⟩=false:=by rw[hW];exact f0
  have f1':w5.frozen? ⟨w.heap.size+1,1,none⟩=false:=by rw[hW];exact f1
  have HB5:Hid (Below w.heap.size w w5):=hid (by rw[hW];exact below_drewN HB3.out _)
  clear hW d0 d1 r0 r1 f0 f1 HB3
  go_wp2_with fail
  go_quiet (fail)
  rw[E1.out,E2.out];clear E1 E2 hw1 hw2 hw5 hs3 hun hc hc2 d0' d1'
  go_wp2_with fail
  refine(HNe.out _ _).mono ?_;clear HNe;rintro e w5 ⟨rfl,rfl⟩;cases ne with
  | true=>
    obtain rfl:up=wh+1:=by rw[HU.out,if_pos rfl]
    go_wp2_with fail
    refine bodyPost_ret (v:=.tuple #[.agg #[.int .i64 (wh+1),.int .i64 3],.nilIface]) ?_ rfl ?_
    ·simp[results,Tryz.results136,go_sem,r0',r1',f0',f1']
    ·exact⟨by first|(rw[HRd.out];done)|(rw[HRd.out];rfl),((below_drewN HB5.out _).setCell (p:=⟨_,_,none⟩) (by show w.heap.size≤w.heap.size+1;omega) _).setCell (p:=⟨_,_,none⟩) (by show w.heap.size≤w.heap.size+1;omega) _⟩
  | false=>
    obtain rfl:up=wh:=by rw[HU.out,if_neg (by decide)]
    go_wp2_with fail
    refine bodyPost_ret (v:=.tuple #[.agg #[.int .i64 up,.int .i64 3],.nilIface]) ?_ rfl ?_
    ·simp[results,Tryz.results136,go_sem,r0',r1',f0',f1']
    ·exact⟨by first|(rw[HRd.out];done)|(rw[HRd.out];rfl),((below_drewN HB5.out _).setCell (p:=⟨_,_,none⟩) (by show w.heap.size≤w.heap.size+1;omega) _).setCell (p:=⟨_,_,none⟩) (by show w.heap.size≤w.heap.size+1;omega) _⟩
def trimF:Nat→Int→Int×Nat
 | 0,c=>(c,0)
 | n+1,c=>if Int.tmod c 10=0 then trimF n (Int.tdiv c 10)else(c,n+1)
def trimD (d:DecV):DecV:=⟨(trimF d.scale.toNat d.coef).1,(trimF d.scale.toNat d.coef).2⟩
theorem trimF_ok:∀(n:Nat) (c:Int),-1000000000000000≤c→c≤1000000000000000→(trimF n c).2≤n∧ -1000000000000000≤(trimF n c).1∧(trimF n c).1≤1000000000000000
 | 0,c,h1,h2=>⟨Nat.le_refl _,h1,h2⟩
 | n+1,c,h1,h2=>by
   unfold trimF;split
   ·obtain⟨b1,b2⟩:=tdiv_bound (u:=10) (by decide) h1 h2
    obtain⟨q1,q2,q3⟩:=trimF_ok n _ b1 b2;exact⟨by omega,q2,q3⟩
   ·exact⟨Nat.le_refl _,h1,h2⟩
theorem trimD_ok (d:DecV) (h:d.ok):(trimD d).ok:=by
 obtain⟨h0,h1,h2,h3⟩:=h;obtain⟨q1,q2,q3⟩:=trimF_ok d.scale.toNat d.coef h2 h3;unfold trimD DecV.ok;dsimp only;exact⟨by omega,by omega,q2,q3⟩
theorem trimD_step (c:Int) (n:Nat) (h:Int.tmod c 10=0):trimD ⟨c,((n+1:Nat):Int)⟩=trimD ⟨Int.tdiv c 10,(n:Int)⟩:=by
 unfold trimD;dsimp only;have e1:(((n+1:Nat):Int)).toNat=n+1:=by omega
 have e2:((n:Int)).toNat=n:=by omega
 have e3:trimF (n+1) c=trimF n (Int.tdiv c 10):=if_pos h;rw[e1,e2,e3]
theorem trimD_stop (c s:Int) (hs:0≤s) (h:s=0∨Int.tmod c 10≠0):trimD ⟨c,s⟩=⟨c,s⟩:=by
 obtain⟨n,rfl⟩:∃ n:Nat,s=n:=⟨s.toNat,by omega⟩
 unfold trimD;dsimp only;have e2:((n:Int)).toNat=n:=by omega
 rw[e2];cases n with
 | zero=>rfl
 | succ n=>
   unfold trimF;rw[if_neg (by rcases h with h|h;omega;exact h)]
theorem trimmed_any (d:DecV) (w:World) (hd:d.ok):Calls Tryz.prog 135 #[d.v,.int .i64 0] w fun e w'=>e=.returned (trimD d).v∧Below w.heap.size w w':=by
 obtain⟨W2,eW2⟩:∃ W2,W2=(w.alloc (.cells #[.int .i64 d.coef,.int .i64 d.scale] 65)).alloc (.cells #[.int .i64 0,.int .i64 0] 65):=⟨_,rfl⟩;have ma:Blk W2 w.heap.size 65 #[.int .i64 d.coef,.int .i64 d.scale]:=by rw[eW2];exact(Blk.new _ _ _).alloc _
 have mr:Blk W2 (w.heap.size+1) 65 #[.int .i64 0,.int .i64 0]:=by
  rw[eW2];have:=Blk.new (w.alloc (.cells #[.int .i64 d.coef,.int .i64 d.scale] 65)) 65 #[.int .i64 0,.int .i64 0];rw[World.size_alloc]at this;exact this
 have hb2:Below w.heap.size w W2:=by rw[eW2];exact((Below.refl _ _).alloc (Nat.le_refl _) _).alloc (by simp) _
 have HB2:=hid hb2;have MA:=hid ma;have MR:=hid mr;have EW:=hid eW2;have HD:=hid hd;unfold DecV.v;clear hb2 ma mr eW2 hd
 go_enter Tryz.func135,Tryz.ntmps135
 go_wp2_with fail
 rw[←EW.out];clear EW
 go_loopw [] (fun wr=>∃(c:Int) (n:Nat),-1000000000000000≤c∧c≤1000000000000000∧n≤9∧Hid (trimD d=trimD ⟨c,(n:Int)⟩)∧Blk wr w.heap.size 65 #[.int .i64 c,.int .i64 (n:Int)]∧Blk wr (w.heap.size+1) 65 #[.int .i64 0,.int .i64 0]∧Below w.heap.size w wr) (fun wr=>match wr.cell? ⟨w.heap.size,1,none⟩with|some v=>(intOf v).toNat|none=>0)
 case atStart=>
  obtain⟨h0,h1,h2,h3⟩:=HD.out;obtain⟨n,hn⟩:∃ n:Nat,d.scale=n:=⟨d.scale.toNat,by omega⟩
  refine⟨d.coef,n,h2,h3,by omega,hid ?_,?_,MR.out,HB2.out⟩
  ·rw[←hn]
  ·rw[←hn];exact MA.out
 case round=>
  obtain⟨c,n,hc1,hc2,hn,HT,hma,hmr,hb⟩:=hrel;obtain⟨b1,b2⟩:=tdiv_bound (b:=c) (u:=10) (by decide) hc1 hc2
  have HB:=hid hb;have HMA:=hid hma;have HMR:=hid hmr;have k0:=(hma.cell 0).trans (show _=some (.int .i64 c)from rfl);have k1:=(hma.cell 1).trans (show _=some (.int .i64 (n:Int))from rfl);have f0:=hma.frozen 0;have f1:=hma.frozen 1;have hw1:wrap64 (Int.tdiv c 10)=Int.tdiv c 10:=by unfold wrap64;omega
  clear hb hma hmr MA MR HB2;cases n with
  | zero=>
    have HE:=hid (trimD_stop c ((0:Nat):Int) (by omega) (.inl rfl))
    have r0:=(HMR.out.cell 0).trans (show _=some (.int .i64 0)from rfl);have r1:=(HMR.out.cell 1).trans (show _=some (.int .i64 0)from rfl);have g0:=HMR.out.frozen 0;have g1:=HMR.out.frozen 1;clear hc1 hc2 b1 b2
    go_wp2_with fail
    refine bodyPost_ret (v:=.agg #[.int .i64 c,.int .i64 0]) ?_ rfl ?_
    ·simp[results,Tryz.results135,go_sem,r0,r1,g0,g1]
    ·exact⟨by first|(rw[HT.out,HE.out];done)|(rw[HT.out,HE.out];rfl),(HB.out.setCell (p:=⟨_,_,none⟩) (by show w.heap.size≤w.heap.size+1;omega) _).setCell (p:=⟨_,_,none⟩) (by show w.heap.size≤w.heap.size+1;omega) _⟩
  | succ n=>
    have i1:(0:Int) < ((n+1:Nat):Int):=by omega
    have i2:(0:Int) < (n:Int)+1:=by omega
    have hw2:wrap64 ((n:Int)+1 - 1)=(n:Int):=by unfold wrap64;omega
    by_cases h0:Int.tmod c 10=0
    ·have HS:=hid (trimD_step c n h0);have q0:(Int.tmod c 10 == 0)=true:=by rw[beq_iff_eq];exact h0
     have HC:=hid (And.intro b1 b2);clear hc1 hc2 b1 b2 h0
     go_wp2_with fail
     go_roundw
     case rel=>
      exact⟨Int.tdiv c 10,n,HC.out.1,HC.out.2,by omega,hid (by rw[HT.out,HS.out]),(HMA.out.set_ 0 _).set_ 1 _,(HMR.out.far (by show w.heap.size+1≠w.heap.size;omega) _).far (by show w.heap.size+1≠w.heap.size;omega) _,(HB.out.setCell (p:=⟨_,_,none⟩) (Nat.le_refl _) _).setCell (p:=⟨_,_,none⟩) (Nat.le_refl _) _⟩
     case measure=>
      have e1:=(((HMA.out.set_ 0 (.int .i64 (Int.tdiv c 10))).set_ 1 (.int .i64 (n:Int))).cell 1).trans (show _=some (.int .i64 (n:Int))from rfl);rw[e1];simp only[k1];simp[intOf]
    ·have HE:=hid (trimD_stop c ((n+1:Nat):Int) (by omega) (.inr h0))
     have q0:(Int.tmod c 10 == 0)=false:=by rw[beq_eq_false_iff_ne];exact h0
     have r0:=(HMR.out.cell 0).trans (show _=some (.int .i64 0)from rfl);have r1:=(HMR.out.cell 1).trans (show _=some (.int .i64 0)from rfl);have g0:=HMR.out.frozen 0;have g1:=HMR.out.frozen 1;clear hc1 hc2 b1 b2 h0
     go_wp2_with fail
     refine bodyPost_ret (v:=.agg #[.int .i64 c,.int .i64 ((n+1:Nat):Int)]) ?_ rfl ?_
     ·simp[results,Tryz.results135,go_sem,r0,r1,g0,g1]
     ·exact⟨by first|(rw[HT.out,HE.out];done)|(rw[HT.out,HE.out];rfl),(HB.out.setCell (p:=⟨_,_,none⟩) (by show w.heap.size≤w.heap.size+1;omega) _).setCell (p:=⟨_,_,none⟩) (by show w.heap.size≤w.heap.size+1;omega) _⟩
end Go.Proofs.YtpfmmbbggcghiaaGreatDoor
