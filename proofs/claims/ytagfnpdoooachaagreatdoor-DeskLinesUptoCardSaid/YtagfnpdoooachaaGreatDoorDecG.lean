/- dec.Round to three digits behind the point. -/
import Derived.Test.YtagfnpdoooachaaGreatDoorDecD
import Derived.Shelf.Strings.SlTrimAscii
import Derived.Lib.SmallJoins
import Derived.Lib.ItoaLen
import Derived.Test.YtagfnpdoooachaaGreatDoorDskE
set_option linter.unusedSimpArgs false
set_option linter.unusedVariables false
set_option maxHeartbeats 6400000
set_option maxRecDepth 100000
namespace Go.Proofs.YtagfnpdoooachaaGreatDoor
open Go.RowKit
open Lib (hid)
def absD (c:Int):Int:=if c < 0 then -c else c
def wholeD (d:DecV):Int:=Int.tdiv (absD d.coef) (P10 (d.scale - 3).toNat)
def restD (d:DecV):Int:=Int.tmod (absD d.coef) (P10 (d.scale - 3).toNat)
def upD (d:DecV):Int:=if nearE (wholeD d) (restD d) (P10 (d.scale - 3).toNat)then wholeD d+1 else wholeD d
def round3 (d:DecV):DecV:=⟨if d.coef < 0 then -upD d else upD d,3⟩
theorem upD_bound (d:DecV) (h:d.ok) (h3:3 < d.scale):0≤wholeD d∧wholeD d≤100000000000000∧0≤upD d∧upD d≤1000000000000000:=by
 unfold DecV.ok at h;obtain⟨h0,h1,h2,h4⟩:=h;have ha:0≤absD d.coef∧absD d.coef≤1000000000000000:=by unfold absD;split <;> omega
 have hp:10≤P10 (d.scale - 3).toNat:=by
  unfold P10;have:10 ^ 1≤10 ^ (d.scale - 3).toNat:=Nat.pow_le_pow_right (by decide) (by omega)
  omega
 have hw:0≤wholeD d∧wholeD d≤100000000000000:=by
  unfold wholeD;rw[Int.tdiv_eq_ediv_of_nonneg ha.1];have q1:=Int.ediv_nonneg ha.1 (Int.le_of_lt (P10_pos (d.scale - 3).toNat));generalize P10 (d.scale - 3).toNat=u at *;have q2:=Int.ediv_mul_le (absD d.coef) (by omega:u≠0)
  generalize absD d.coef / u=z at *;have q3:=Int.mul_le_mul_of_nonneg_left hp q1;omega
 refine⟨hw.1,hw.2,?_,?_⟩ <;> (unfold upD;split <;> omega)
theorem round3_ok (d:DecV) (h:d.ok) (h3:3 < d.scale):(round3 d).ok:=by
 obtain⟨_,_,q1,q2⟩:=upD_bound d h h3;unfold round3 DecV.ok;dsimp only;refine⟨by decide,by decide,?_,?_⟩ <;> (split <;> omega)
theorem round_any (d:DecV) (w:World) (hd:d.ok) (h3:3 < d.scale):Calls Tryz.prog 108 #[d.v,.int .i64 3,.int .i64 5] w fun e w'=>e=.returned (.tuple #[(round3 d).v,.nilIface])∧Below w.heap.size w w':=by
 have HA:Hid (∀ W,Calls Tryz.prog 53 #[d.v] W fun e w'=>e=.returned .nilIface∧Below W.heap.size W w'):=hid fun W=>by
  have h:=checkD_any d W;rwa[checkD_ok hd]at h
 obtain⟨q1,q2,q3,q4⟩:=upD_bound d hd h3;have HR:Hid (round3 d=⟨if d.coef < 0 then -upD d else upD d,3⟩):=hid rfl
 have HU:Hid (upD d=if nearE (wholeD d) (restD d) (P10 (d.scale - 3).toNat)then wholeD d+1 else wholeD d):=hid rfl
 have hrest:0≤restD d∧restD d≤1000000000:=by
  unfold restD;unfold DecV.ok at hd;have ha:0≤absD d.coef:=by unfold absD;split <;> omega
  rw[Int.tmod_eq_emod_of_nonneg ha];have h1:=P10_pos (d.scale - 3).toNat;have h2:=P10_le (d.scale - 3).toNat (by omega)
  have h3:=Int.emod_nonneg (absD d.coef) (by omega:P10 (d.scale - 3).toNat≠0)
  have h4:=Int.emod_lt_of_pos (absD d.coef) h1;omega
 have HNe:Hid (∀ W sg,Calls Tryz.prog 163 #[.int .i64 5,.int .i64 (wholeD d),.int .i64 (restD d),.int .i64 (P10 (d.scale - 3).toNat),.int .i64 sg] W fun e w'=>e=.returned (.bool (nearE (wholeD d) (restD d) (P10 (d.scale - 3).toNat)))∧w'=W):=hid fun W sg=>
  nearer_any _ _ _ sg W hrest.1 hrest.2
 have HWh:Hid (wholeD d=Int.tdiv (if d.coef < 0 then -d.coef else d.coef) (P10 (d.scale - 3).toNat)∧restD d=Int.tmod (if d.coef < 0 then -d.coef else d.coef) (P10 (d.scale - 3).toNat)):=hid ⟨rfl,rfl⟩
 generalize round3 d=rd at *;generalize upD d=up at *;generalize wholeD d=wh at *;generalize restD d=re at *;obtain⟨c,s⟩:=d;unfold DecV.ok at hd;obtain⟨s0,s1,c0,c1⟩:=hd;dsimp only at s0 s1 c0 c1 h3 HR HU HNe HWh;obtain⟨k,hk⟩:∃ k:Nat,s - 3=k:=⟨(s - 3).toNat,by omega⟩
 have hk9:k≤9:=by omega
 have hek:(s - 3).toNat=k:=by omega
 rw[hek]at HU HNe HWh;have HP:Hid (∀ W,Calls Tryz.prog 162 #[.int .i64 k] W fun e w'=>e=.returned (.int .i64 (P10 k))∧w'=W):=hid fun W=>power_any k W hk9;have hu0:=P10_pos k;generalize P10 k=u at *;generalize nearE wh re u=ne at *;have hun:¬(u=0):=by omega
 have hw1:wrap64 (s - 3)=k:=by rw[hk];unfold wrap64;omega
 have hw2:wrap64 (-c)= -c:=by unfold wrap64;omega
 have hw3:wrap64 (wh+1)=wh+1:=by unfold wrap64;omega
 have hw6:wrap64 wh=wh:=by unfold wrap64;omega
 have hw4:wrap64 (-up)= -up:=by unfold wrap64;omega
 have hw5:wrap64 up=up:=by unfold wrap64;omega
 have hs3:¬(s≤3):=by omega
 obtain⟨W2,eW2⟩:∃ W2,W2=(w.alloc (.cells #[.int .i64 c,.int .i64 s] 44)).alloc (.cells #[.int .i64 0,.int .i64 0] 44):=⟨_,rfl⟩;have ma:Blk W2 w.heap.size 44 #[.int .i64 c,.int .i64 s]:=by rw[eW2];exact(Blk.new _ _ _).alloc _
 have mr:Blk W2 (w.heap.size+1) 44 #[.int .i64 0,.int .i64 0]:=by
  rw[eW2];have:=Blk.new (w.alloc (.cells #[.int .i64 c,.int .i64 s] 44)) 44 #[.int .i64 0,.int .i64 0];rw[World.size_alloc]at this;exact this
 have hb2:Below w.heap.size w W2:=by rw[eW2];exact((Below.refl _ _).alloc (Nat.le_refl _) _).alloc (by simp) _
 have HB2:=hid hb2;have MA:=hid ma;have MR:=hid mr;have EW:=hid eW2;have k0:=(ma.cell 0).trans (show _=some (.int .i64 c)from rfl);have k1:=(ma.cell 1).trans (show _=some (.int .i64 s)from rfl);unfold DecV.v at HA ⊢;dsimp only at HA;clear hb2 ma mr eW2 hek hk hk9 s0 s1 c0 c1 q1 q2 q3 q4 hu0 hrest h3
 go_enter Tryz.func108,Tryz.ntmps108
 go_upto_region 1 with fail
 rw[←EW.out];clear EW
 go_wp2_with fail
 refine(HA.out W2).mono ?_;clear HA;rintro e w3 ⟨rfl,hb3⟩;have m3:=MA.out.below hb3 MA.out.lt;have n3:=MR.out.below hb3 MR.out.lt;have HB3:=hid (HB2.out.trans (hb3.mono HB2.out.size));have d0:=(m3.cell 0).trans (show _=some (.int .i64 c)from rfl);have d1:=(m3.cell 1).trans (show _=some (.int .i64 s)from rfl);have r0:=(n3.cell 0).trans (show _=some (.int .i64 0)from rfl);have r1:=(n3.cell 1).trans (show _=some (.int .i64 0)from rfl);have f0:=n3.frozen 0;have f1:=n3.frozen 1;clear m3 n3 hb3 k0 k1 MA MR HB2
 by_cases hc:c < 0
 ·have hc2:¬(0≤c):=by omega
  obtain⟨e1,e2⟩:=HWh.out;rw[if_pos hc]at e1 e2;rw[Int.neg_tdiv]at e1;rw[Int.neg_tmod]at e2;have E1:=hid e1.symm;have E2:=hid e2.symm;have HRd:Hid (rd=⟨-up,3⟩):=hid (by rw[HR.out,if_pos hc])
  clear e1 e2 HWh HR
  go_wp2_with fail
  go_quiet (fail)
  go_wp2_with fail
  refine(HP.out _).mono ?_;clear HP;rintro e w5 ⟨rfl,hW⟩;have d0':w5.cell? ⟨w.heap.size,0,none⟩=some (.int .i64 c):=by rw[hW];exact d0
  have d1':w5.cell? ⟨w.heap.size,1,none⟩=some (.int .i64 s):=by rw[hW];exact d1
  have r0':w5.cell? ⟨w.heap.size+1,0,none⟩=some (.int .i64 0):=by rw[hW];exact r0
  have r1':w5.cell? ⟨w.heap.size+1,1,none⟩=some (.int .i64 0):=by rw[hW];exact r1
  have f0':w5.frozen? ⟨w.heap.size+1,0,none⟩=false:=by rw[hW];exact f0
  have f1':w5.frozen? ⟨w.heap.size+1,1,none⟩=false:=by rw[hW];exact f1
  have HB5:Hid (Below w.heap.size w w5):=hid (by rw[hW];exact below_drewN HB3.out _)
  clear hW d0 d1 r0 r1 f0 f1 HB3
  go_wp2_with fail
  go_quiet (fail)
  rw[E1.out,E2.out];clear E1 E2 hw1 hw2 hw5 hs3 hun hc hc2 d0' d1'
  go_wp2_with fail
  refine(HNe.out _ _).mono ?_;clear HNe;rintro e w5 ⟨rfl,rfl⟩;cases ne with
  | true=>
    obtain rfl:up=wh+1:=by rw[HU.out,if_pos rfl]
    go_wp2_with fail
    refine bodyPost_ret (v:=.tuple #[.agg #[.int .i64 (-(wh+1)),.int .i64 3],.nilIface]) ?_ rfl ?_
    ·simp[results,Tryz.results108,go_sem,r0',r1',f0',f1']
    ·exact⟨by first|(rw[HRd.out];done)|(rw[HRd.out];rfl),((below_drewN HB5.out _).setCell (p:=⟨_,_,none⟩) (by show w.heap.size≤w.heap.size+1;omega) _).setCell (p:=⟨_,_,none⟩) (by show w.heap.size≤w.heap.size+1;omega) _⟩
  | false=>
    obtain rfl:up=wh:=by rw[HU.out,if_neg (by decide)]
    go_wp2_with fail
    refine bodyPost_ret (v:=.tuple #[.agg #[.int .i64 (-up),.int .i64 3],.nilIface]) ?_ rfl ?_
    ·simp[results,Tryz.results108,go_sem,r0',r1',f0',f1']
    ·exact⟨by first|(rw[HRd.out];done)|(rw[HRd.out];rfl),((below_drewN HB5.out _).setCell (p:=⟨_,_,none⟩) (by show w.heap.size≤w.heap.size+1;omega) _).setCell (p:=⟨_,_,none⟩) (by show w.heap.size≤w.heap.size+1;omega) _⟩
 ·have hc2:(0≤c):=by omega
  obtain⟨e1,e2⟩:=HWh.out;rw[if_neg hc]at e1 e2;rw[Int.tmod_eq_emod_of_nonneg hc2]at e2;have E1:=hid e1.symm;have E2:=hid e2.symm;have HRd:Hid (rd=⟨up,3⟩):=hid (by rw[HR.out,if_neg hc])
  clear e1 e2 HWh HR
  go_wp2_with fail
  go_quiet (fail)
  go_wp2_with fail
  refine(HP.out _).mono ?_;clear HP;rintro e w5 ⟨rfl,hW⟩;have d0':w5.cell? ⟨w.heap.size,0,none⟩=some (.int .i64 c):=by rw[hW];exact d0
  have d1':w5.cell? ⟨w.heap.size,1,none⟩=some (.int .i64 s):=by rw[hW];exact d1
  have r0':w5.cell? ⟨w.heap.size+1,0,none⟩=some (.int .i64 0):=by rw[hW];exact r0
  have r1':w5.cell? ⟨w.heap.size+1,1,none⟩=some (.int .i64 0):=by rw[hW];exact r1
  have f0':w5.frozen? ⟨w.heap.size+1,0,none⟩=false:=by rw[hW];exact f0
  have f1':w5.frozen? ⟨w.heap.size+1,1,none⟩=false:=by rw[hW];exact f1
  have HB5:Hid (Below w.heap.size w w5):=hid (by rw[hW];exact below_drewN HB3.out _)
  clear hW d0 d1 r0 r1 f0 f1 HB3
  go_wp2_with fail
  go_quiet (fail)
  rw[E1.out,E2.out];clear E1 E2 hw1 hw2 hw5 hs3 hun hc hc2 d0' d1'
  go_wp2_with fail
  refine(HNe.out _ _).mono ?_;clear HNe;rintro e w5 ⟨rfl,rfl⟩;cases ne with
  | true=>
    obtain rfl:up=wh+1:=by rw[HU.out,if_pos rfl]
    go_wp2_with fail
    refine bodyPost_ret (v:=.tuple #[.agg #[.int .i64 (wh+1),.int .i64 3],.nilIface]) ?_ rfl ?_
    ·simp[results,Tryz.results108,go_sem,r0',r1',f0',f1']
    ·exact⟨by first|(rw[HRd.out];done)|(rw[HRd.out];rfl),((below_drewN HB5.out _).setCell (p:=⟨_,_,none⟩) (by show w.heap.size≤w.heap.size+1;omega) _).setCell (p:=⟨_,_,none⟩) (by show w.heap.size≤w.heap.size+1;omega) _⟩
  | false=>
    obtain rfl:up=wh:=by rw[HU.out,if_neg (by decide)]
    go_wp2_with fail
    refine bodyPost_ret (v:=.tuple #[.agg #[.int .i64 up,.int .i64 3],.nilIface]) ?_ rfl ?_
    ·simp[results,Tryz.results108,go_sem,r0',r1',f0',f1']
    ·exact⟨by first|(rw[HRd.out];done)|(rw[HRd.out];rfl),((below_drewN HB5.out _).setCell (p:=⟨_,_,none⟩) (by show w.heap.size≤w.heap.size+1;omega) _).setCell (p:=⟨_,_,none⟩) (by show w.heap.size≤w.heap.size+1;omega) _⟩
def trimF:Nat→Int→Int×Nat
 | 0,c=>(c,0)
 | n+1,c=>if Int.tmod c 10=0 then trimF n (Int.tdiv c 10)else(c,n+1)
def trimD (d:DecV):DecV:=⟨(trimF d.scale.toNat d.coef).1,(trimF d.scale.toNat d.coef).2⟩
theorem trimF_ok:∀(n:Nat) (c:Int),-1000000000000000≤c→c≤1000000000000000→(trimF n c).2≤n∧ -1000000000000000≤(trimF n c).1∧(trimF n c).1≤1000000000000000
 | 0,c,h1,h2=>⟨Nat.le_refl _,h1,h2⟩
 | n+1,c,h1,h2=>by
   unfold trimF;split
   ·obtain⟨b1,b2⟩:=tdiv_bound (u:=10) (by decide) h1 h2
    obtain⟨q1,q2,q3⟩:=trimF_ok n _ b1 b2;exact⟨by omega,q2,q3⟩
   ·exact⟨Nat.le_refl _,h1,h2⟩
theorem trimD_ok (d:DecV) (h:d.ok):(trimD d).ok:=by
 obtain⟨h0,h1,h2,h3⟩:=h;obtain⟨q1,q2,q3⟩:=trimF_ok d.scale.toNat d.coef h2 h3;unfold trimD DecV.ok;dsimp only;exact⟨by omega,by omega,q2,q3⟩
theorem trimD_step (c:Int) (n:Nat) (h:Int.tmod c 10=0):trimD ⟨c,((n+1:Nat):Int)⟩=trimD ⟨Int.tdiv c 10,(n:Int)⟩:=by
 unfold trimD;dsimp only;have e1:(((n+1:Nat):Int)).toNat=n+1:=by omega
 have e2:((n:Int)).toNat=n:=by omega
 have e3:trimF (n+1) c=trimF n (Int.tdiv c 10):=if_pos h;rw[e1,e2,e3]
theorem trimD_stop (c s:Int) (hs:0≤s) (h:s=0∨Int.tmod c 10≠0):trimD ⟨c,s⟩=⟨c,s⟩:=by
 obtain⟨n,rfl⟩:∃ n:Nat,s=n:=⟨s.toNat,by omega⟩
 unfold trimD;dsimp only;have e2:((n:Int)).toNat=n:=by omega
 rw[e2];cases n with
 | zero=>rfl
 | succ n=>
   unfold trimF;rw[if_neg (by rcases h with h|h;omega;exact h)]
theorem trimmed_any (d:DecV) (w:World) (hd:d.ok):Calls Tryz.prog 107 #[d.v,.int .i64 0] w fun e w'=>e=.returned (trimD d).v∧Below w.heap.size w w':=by
 obtain⟨W2,eW2⟩:∃ W2,W2=(w.alloc (.cells #[.int .i64 d.coef,.int .i64 d.scale] 44)).alloc (.cells #[.int .i64 0,.int .i64 0] 44):=⟨_,rfl⟩;have ma:Blk W2 w.heap.size 44 #[.int .i64 d.coef,.int .i64 d.scale]:=by rw[eW2];exact(Blk.new _ _ _).alloc _
 have mr:Blk W2 (w.heap.size+1) 44 #[.int .i64 0,.int .i64 0]:=by
  rw[eW2];have:=Blk.new (w.alloc (.cells #[.int .i64 d.coef,.int .i64 d.scale] 44)) 44 #[.int .i64 0,.int .i64 0];rw[World.size_alloc]at this;exact this
 have hb2:Below w.heap.size w W2:=by rw[eW2];exact((Below.refl _ _).alloc (Nat.le_refl _) _).alloc (by simp) _
 have HB2:=hid hb2;have MA:=hid ma;have MR:=hid mr;have EW:=hid eW2;have HD:=hid hd;unfold DecV.v;clear hb2 ma mr eW2 hd
 go_enter Tryz.func107,Tryz.ntmps107
 go_wp2_with fail
 rw[←EW.out];clear EW
 go_loopw [] (fun wr=>∃(c:Int) (n:Nat),-1000000000000000≤c∧c≤1000000000000000∧n≤9∧Hid (trimD d=trimD ⟨c,(n:Int)⟩)∧Blk wr w.heap.size 44 #[.int .i64 c,.int .i64 (n:Int)]∧Blk wr (w.heap.size+1) 44 #[.int .i64 0,.int .i64 0]∧Below w.heap.size w wr) (fun wr=>match wr.cell? ⟨w.heap.size,1,none⟩with|some v=>(intOf v).toNat|none=>0)
 case atStart=>
  obtain⟨h0,h1,h2,h3⟩:=HD.out;obtain⟨n,hn⟩:∃ n:Nat,d.scale=n:=⟨d.scale.toNat,by omega⟩
  refine⟨d.coef,n,h2,h3,by omega,hid ?_,?_,MR.out,HB2.out⟩
  ·rw[←hn]
  ·rw[←hn];exact MA.out
 case round=>
  obtain⟨c,n,hc1,hc2,hn,HT,hma,hmr,hb⟩:=hrel;obtain⟨b1,b2⟩:=tdiv_bound (b:=c) (u:=10) (by decide) hc1 hc2
  have HB:=hid hb;have HMA:=hid hma;have HMR:=hid hmr;have k0:=(hma.cell 0).trans (show _=some (.int .i64 c)from rfl);have k1:=(hma.cell 1).trans (show _=some (.int .i64 (n:Int))from rfl);have f0:=hma.frozen 0;have f1:=hma.frozen 1;have hw1:wrap64 (Int.tdiv c 10)=Int.tdiv c 10:=by unfold wrap64;omega
  clear hb hma hmr MA MR HB2;cases n with
  | zero=>
    have HE:=hid (trimD_stop c ((0:Nat):Int) (by omega) (.inl rfl))
    have r0:=(HMR.out.cell 0).trans (show _=some (.int .i64 0)from rfl);have r1:=(HMR.out.cell 1).trans (show _=some (.int .i64 0)from rfl);have g0:=HMR.out.frozen 0;have g1:=HMR.out.frozen 1;clear hc1 hc2 b1 b2
    go_wp2_with fail
    refine bodyPost_ret (v:=.agg #[.int .i64 c,.int .i64 0]) ?_ rfl ?_
    ·simp[results,Tryz.results107,go_sem,r0,r1,g0,g1]
    ·exact⟨by first|(rw[HT.out,HE.out];done)|(rw[HT.out,HE.out];rfl),(HB.out.setCell (p:=⟨_,_,none⟩) (by show w.heap.size≤w.heap.size+1;omega) _).setCell (p:=⟨_,_,none⟩) (by show w.heap.size≤w.heap.size+1;omega) _⟩
  | succ n=>
    have i1:(0:Int) < ((n+1:Nat):Int):=by omega
    have i2:(0:Int) < (n:Int)+1:=by omega
    have hw2:wrap64 ((n:Int)+1 - 1)=(n:Int):=by unfold wrap64;omega
    by_cases h0:Int.tmod c 10=0
    ·have HS:=hid (trimD_step c n h0);have q0:(Int.tmod c 10 == 0)=true:=by rw[beq_iff_eq];exact h0
     have HC:=hid (And.intro b1 b2);clear hc1 hc2 b1 b2 h0
     go_wp2_with fail
     go_roundw
     case rel=>
      exact⟨Int.tdiv c 10,n,HC.out.1,HC.out.2,by omega,hid (by rw[HT.out,HS.out]),(HMA.out.set_ 0 _).set_ 1 _,(HMR.out.far (by show w.heap.size+1≠w.heap.size;omega) _).far (by show w.heap.size+1≠w.heap.size;omega) _,(HB.out.setCell (p:=⟨_,_,none⟩) (Nat.le_refl _) _).setCell (p:=⟨_,_,none⟩) (Nat.le_refl _) _⟩
     case measure=>
      have e1:=(((HMA.out.set_ 0 (.int .i64 (Int.tdiv c 10))).set_ 1 (.int .i64 (n:Int))).cell 1).trans (show _=some (.int .i64 (n:Int))from rfl);rw[e1];simp only[k1];simp[intOf]
    ·have HE:=hid (trimD_stop c ((n+1:Nat):Int) (by omega) (.inr h0))
     have q0:(Int.tmod c 10 == 0)=false:=by rw[beq_eq_false_iff_ne];exact h0
     have r0:=(HMR.out.cell 0).trans (show _=some (.int .i64 0)from rfl);have r1:=(HMR.out.cell 1).trans (show _=some (.int .i64 0)from rfl);have g0:=HMR.out.frozen 0;have g1:=HMR.out.frozen 1;clear hc1 hc2 b1 b2 h0
     go_wp2_with fail
     refine bodyPost_ret (v:=.agg #[.int .i64 c,.int .i64 ((n+1:Nat):Int)]) ?_ rfl ?_
     ·simp[results,Tryz.results107,go_sem,r0,r1,g0,g1]
     ·exact⟨by first|(rw[HT.out,HE.out];done)|(rw[HT.out,HE.out];rfl),(HB.out.setCell (p:=⟨_,_,none⟩) (by show w.heap.size≤w.heap.size+1;omega) _).setCell (p:=⟨_,_,none⟩) (by show w.heap.size≤w.heap.size+1;omega) _⟩
end Go.Proofs.YtagfnpdoooachaaGreatDoor
namespace Go.Proofs
open Go.Shelf
def Tryz.lays160_ren:Go.Shelf.Ren:=⟨fun|160=>176|232=>211|231=>210|227=>212|234=>214|233=>213|236=>216|235=>215|228=>231|271=>232|151=>200|197=>49|120=>240|152=>224|260=>88|137=>177|119=>237|224=>91|225=>90|217=>89|266=>137|n=>n,fun|9=>9|4=>4|3=>3|5=>5|117=>286|116=>285|0=>0|124=>289|21=>21|105=>88|46=>152|119=>205|139=>208|138=>207|n=>n,fun|3=>4|4=>5|n=>n⟩
theorem Tryz.lays160:Go.Proofs.Lays.n160 Tryz.prog Tryz.lays160_ren:= {
 mixed:=by kernel_rfl
 f119:=Tryz.func237.trans (congrArg some (by kernel_rfl))
 f120:=Tryz.func240.trans (congrArg some (by kernel_rfl))
 f137:=Tryz.func177.trans (congrArg some (by kernel_rfl))
 f151:=Tryz.func200.trans (congrArg some (by kernel_rfl))
 f152:=Tryz.func224.trans (congrArg some (by kernel_rfl))
 f160:=Tryz.func176.trans (congrArg some (by kernel_rfl))
 f197:=Tryz.func49.trans (congrArg some (by kernel_rfl))
 f217:=Tryz.func89.trans (congrArg some (by kernel_rfl))
 f224:=Tryz.func91.trans (congrArg some (by kernel_rfl))
 f225:=Tryz.func90.trans (congrArg some (by kernel_rfl))
 f227:=Tryz.func212.trans (congrArg some (by kernel_rfl))
 f228:=Tryz.func231.trans (congrArg some (by kernel_rfl))
 f231:=Tryz.func210.trans (congrArg some (by kernel_rfl))
 f232:=Tryz.func211.trans (congrArg some (by kernel_rfl))
 f233:=Tryz.func213.trans (congrArg some (by kernel_rfl))
 f234:=Tryz.func214.trans (congrArg some (by kernel_rfl))
 f235:=Tryz.func215.trans (congrArg some (by kernel_rfl))
 f236:=Tryz.func216.trans (congrArg some (by kernel_rfl))
 f260:=Tryz.func88.trans (congrArg some (by kernel_rfl))
 f266:=Tryz.func137.trans (congrArg some (by kernel_rfl))
 f271:=Tryz.func232.trans (congrArg some (by kernel_rfl))
 t0:=Tryz.underlying0
 a0:=Tryz.isAgg0
 z0:=Tryz.sizeOf0
 v0:=Tryz.zeroValue0
 t3:=Tryz.underlying3
 a3:=Tryz.isAgg3
 z3:=Tryz.sizeOf3
 v3:=Tryz.zeroValue3
 t4:=Tryz.underlying4
 a4:=Tryz.isAgg4
 z4:=Tryz.sizeOf4
 v4:=Tryz.zeroValue4
 t5:=Tryz.underlying5
 a5:=Tryz.isAgg5
 z5:=Tryz.sizeOf5
 v5:=Tryz.zeroValue5
 t9:=Tryz.underlying9
 a9:=Tryz.isAgg9
 z9:=Tryz.sizeOf9
 v9:=Tryz.zeroValue9
 t21:=Tryz.underlying21
 a21:=Tryz.isAgg21
 z21:=Tryz.sizeOf21
 v21:=Tryz.zeroValue21
 t46:=Tryz.underlying152
 a46:=Tryz.isAgg152
 z46:=Tryz.sizeOf152
 v46:=Tryz.zeroValue152
 t105:=Tryz.underlying88
 a105:=Tryz.isAgg88
 z105:=Tryz.sizeOf88
 v105:=Tryz.zeroValue88
 t116:=Tryz.underlying285
 a116:=Tryz.isAgg285
 z116:=Tryz.sizeOf285
 t117:=Tryz.underlying286
 a117:=Tryz.isAgg286
 z117:=Tryz.sizeOf286
 v117:=Tryz.zeroValue286
 t119:=Tryz.underlying205
 a119:=Tryz.isAgg205
 z119:=Tryz.sizeOf205
 t124:=Tryz.underlying289
 a124:=Tryz.isAgg289
 z124:=Tryz.sizeOf289
 v124:=Tryz.zeroValue289
 t138:=Tryz.underlying207
 a138:=Tryz.isAgg207
 z138:=Tryz.sizeOf207
 v138:=Tryz.zeroValue207
 t139:=Tryz.underlying208
 a139:=Tryz.isAgg208
 z139:=Tryz.sizeOf208
 v139:=Tryz.zeroValue208
 g3:=by kernel_rfl
 g4:=by kernel_rfl }
end Go.Proofs
namespace Go.Proofs.YtagfnpdoooachaaGreatDoor
open Go.RowKit
open Lib (hid)
theorem trim_any (s cs:ByteArray) (w:World) (hs:s.size≤9223372036854775807) (hcs:cs.size < 4294967281) (ha:∀(j:Nat) b,cs.data.toList[j]? =some b→b.toNat < 128):
 Calls Tryz.prog 176 #[.string s,.string cs] w fun e w'=>e=.returned (.string ⟨(Lib.trimS s.data.toList cs.data.toList).toArray⟩)∧Below w.heap.size w w':=
 Any.strings_Trim_laid Tryz.lays160 (by kernel_rfl) s cs w hs hcs ha
end Go.Proofs.YtagfnpdoooachaaGreatDoor
namespace Go.Proofs.YtagfnpdoooachaaGreatDoor
open Go.RowKit Go.Sort
open Lib (hid)
def kindsB:List ByteArray:=[⟨#[122,101,114,111]⟩,⟨#[111,110,101]⟩,⟨#[116,119,111]⟩,⟨#[102,101,119]⟩,⟨#[109,97,110,121]⟩,⟨#[111,116,104,101,114]⟩]
structure MV (w:World):Prop where
 syn:∃ tp p,w.var? Tryz.prog "strconv.ErrSyntax" =some #[.iface tp p]
 rng:∃ tp p,w.var? Tryz.prog "strconv.ErrRange" =some #[.iface tp p]
 tab:Lib.TabIs Tryz.prog w "internal/strconv.uint64pow10" .u64 Lib.pow10Tab
 kin:∃ b o c,6≤c∧b < w.heap.size∧w.cell? ⟨10,0,none⟩=some (.slice (some ⟨b,o,none⟩) 6 c)∧∀ j (h:j < kindsB.length),w.cell? ⟨b,o+j,none⟩=some (.string kindsB[j])
theorem cellLt {w:World} {g o:Nat} {v:Value} (h:w.cell? ⟨g,o,none⟩=some v):g < w.heap.size:=by
 unfold World.cell? at h;cases ho:w.heap[g]? with
 | none=>simp[ho]at h
 | some o=>exact(Array.getElem?_eq_some_iff.1 ho).1
theorem MV.below {w w':World} (h:MV w) (hb:Below w.heap.size w w'):MV w':=by
 obtain⟨t1,p1,h1⟩:=h.syn;obtain⟨t2,p2,h2⟩:=h.rng;obtain⟨b,o,c,k1,k2,k3,k4⟩:=h.kin;exact⟨⟨t1,p1,Joins.var_stays (g:=7) (by kernel_rfl) h1 hb (Nat.le_refl _)⟩,⟨t2,p2,Joins.var_stays (g:=8) (by kernel_rfl) h2 hb (Nat.le_refl _)⟩,Joins.tab_stays (g:=9) (by kernel_rfl) h.tab hb (Nat.le_refl _),
  b,o,c,k1,Nat.lt_of_lt_of_le k2 hb.size,(hb.cell (p:=⟨_,0,none⟩) (cellLt k3)).trans k3,fun j hj=>(hb.cell (p:=⟨b,o+j,none⟩) k2).trans (k4 j hj)⟩
def atoiO (l:List UInt8):Option Int:=match Lib.atoiAll l with| .ok v=>some v|_=>none
theorem atoi_any (s:ByteArray) (w:World) (hs:s.size≤1000000000) (hv:MV w):
 Calls Tryz.prog 52 #[.string s] w fun e w'=>((∃ v,e=.returned (.tuple #[.int .i64 v,.nilIface])∧atoiO (bts s)=some v)∨∃ v t p,e=.returned (.tuple #[.int .i64 v,.iface t p])∧atoiO (bts s)=none)∧Below w.heap.size w w':=by
 obtain⟨t1,p1,h1⟩:=hv.syn;obtain⟨t2,p2,h2⟩:=hv.rng;cases h:Lib.atoiAll s.data.toList with
 | ok v=>
   refine(Tryz.strconv_Atoi_ok s (by omega) v h w).mono ?_
   rintro e w' ⟨rfl,hw⟩;refine⟨.inl ⟨v,rfl,by unfold atoiO bts;rw[h]⟩,?_⟩
   rcases hw with rfl|⟨t,rfl⟩
   ·exact Below.refl _ _
   ·exact Lib.bytesWorld_below _ _ _
 | range=>
   refine(Tryz.strconv_Atoi_range_var s (by omega) h t2 p2 w h2).mono ?_
   rintro e w' ⟨N,rfl,_,_,hb⟩;exact⟨.inr ⟨_,_,_,rfl,by unfold atoiO bts;rw[h]⟩,hb⟩
 | _ =>
   refine(Tryz.strconv_Atoi_syntax_var s (by omega) h t1 p1 w h1).mono ?_
   rintro e w' ⟨N,rfl,_,_,hb⟩;exact⟨.inr ⟨0,_,_,rfl,by unfold atoiO bts;rw[h]⟩,hb⟩
theorem itoaM_any (n:Int) (w:World) (h0:0≤n) (h1:n≤1000000) (hv:MV w):Calls Tryz.prog 62 #[.int .i64 n] w fun e w'=>e=.returned (.string (str (Lib.itoa n)))∧Below w.heap.size w w':=
 (Tryz.strconv_Itoa n (by omega) (by omega) w hv.tab).mono fun e w' ⟨he,k,os,hw⟩=>⟨he,by rw[hw];exact⟨rfl,rfl,rfl,by simp[grow,World.drewN],fun i hi=>heap_grow_old (w.drewN k) os hi⟩⟩
theorem containsS_any (l:List ByteArray) (v:Value) (x:ByteArray) (lo hi:Nat) (w:World) (hl:ListOk Enc.str w lo hi v l) (hn:l.length≤1000000000):
 Calls Tryz.prog 120 #[v,.string x] w fun e w'=>e=.returned (.bool (l.any (eqs · x)))∧w'=w:=by
 obtain⟨A,c,rfl,_⟩:=hl.form
 by_cases h0:l.length=0
 ·obtain rfl:=List.length_eq_zero_iff.1 h0;exact Tryz.slices_Contains_string_empty A c x w
 ·obtain⟨b,o,rfl,_,_,_⟩:=hl.strAt 0 (by omega)
  have hcs:∀ q,q < l.length→w.cell? ⟨b,o+q,none⟩=some (.string (l.getD q ByteArray.empty)):=fun q hq=>by
   obtain⟨b',o',he,_,_,hc'⟩:=hl.strAt q hq;injection he with he;injection he with e1 e2;subst e1;subst e2;rw[hc',List.getD_eq_getElem?_getD,List.getElem?_eq_getElem hq];rfl
  have h:=Tryz.slices_Contains_string b o l.length c l x w (Nat.le_refl _) (by omega) hcs
  rw[List.take_length]at h;have:l.any (eqs · x)=Lib.containsS l x:=by
   rw[Bool.eq_iff_iff,List.any_eq_true,Lib.containsS_iff]
   constructor
   ·rintro⟨y,hy,he⟩;rw[←(eqs_iff _ _).1 he];exact hy
   ·intro hx;exact⟨_,hx,eqs_self _⟩
  rw[this];exact h
def nameChars:ByteArray:=⟨#[97,98,99,100,101,102,103,104,105,106,107,108,109,110,111,112,113,114,115,116,117,118,119,120,121,122,48,49,50,51,52,53,54,55,56,57,95]⟩
def firstChars:ByteArray:=⟨#[97,98,99,100,101,102,103,104,105,106,107,108,109,110,111,112,113,114,115,116,117,118,119,120,121,122]⟩
def trimName (s:ByteArray):ByteArray:=⟨(Lib.trimS s.data.toList nameChars.data.toList).toArray⟩
def headOf (s:ByteArray):Int:=Lib.indexByte firstChars.data.toList ((bts s).headD 0)
def nameR (s:ByteArray):Bool:= !(s.size == 0) && decide (s.size≤20) && (trimName s).toList.isEmpty && decide (0≤headOf s)
theorem asciiName:∀(j:Nat) b,nameChars.data.toList[j]? =some b→b.toNat < 128:=by
 intro j b h;have h1:nameChars.data.toList.all (fun b=>decide (b.toNat < 128))=true:=by decide +kernel
 exact of_decide_eq_true (List.all_eq_true.1 h1 b (List.mem_of_getElem? h))
theorem head_of {s:ByteArray} (h:0 < s.size):(s[0]'h)=(bts s).headD 0:=by
 obtain⟨⟨l⟩⟩:=s;cases l with
 | nil=>exact absurd h (by decide)
 | cons a l=>rfl
theorem head_byte (c:UInt8):((c.toNat:Nat):Int).toNat.toUInt8=c:=by simp
theorem name_any (s:ByteArray) (w:World):Calls Tryz.prog 129 #[.string s] w fun e w'=>e=.returned (.bool (nameR s))∧Below w.heap.size w w':=by
 have HR:Hid (nameR s=(!(s.size == 0) && decide (s.size≤20) && (trimName s).toList.isEmpty && decide (0≤headOf s))):=hid rfl
 by_cases h0:s.size=0
 ·obtain rfl:s=ByteArray.empty:=ByteArray.size_eq_zero_iff.1 h0;have HE:Hid (nameR ByteArray.empty=false):=hid (by rw[HR.out];rfl)
  clear HR h0
  go_enter Tryz.func129,Tryz.ntmps129
  go_wp2_with fail
  go_ret
  exact⟨by rw[HE.out];rfl,Below.refl _ _⟩
 have hq:s.toList.isEmpty=false:=by
  rw[List.isEmpty_eq_false_iff];intro e;rw[ByteArray.toList_eq]at e;exact h0 (by have:=congrArg List.length e;simpa using this)
 by_cases h1:s.size≤20
 ·have HT:Hid (∀ W,Calls Tryz.prog 176 #[.string s,.string nameChars] W fun e w'=>e=.returned (.string (trimName s))∧Below W.heap.size W w'):=hid fun W=>trim_any s nameChars W (by omega) (by decide) asciiName
  have hi:(0:Int) < (s.size:Int):=by omega
  have hpos:0 < s.size:=by omega
  have hhd:=head_of hpos;have HIx:Hid (∀ W,Calls Tryz.prog 177 #[.string firstChars,.int .u8 (s[0]'hpos).toNat] W fun e w'=>e=.returned (.int .i64 (headOf s))∧w'=W):=hid fun W=>by
   have h:=Tryz.strings_IndexByte firstChars ((s[0]'hpos).toNat:Int) W;rw[head_byte,hhd]at h;rw[hhd];exact h
  have h1':decide (s.size≤20)=true:=decide_eq_true h1;have h0':(s.size == 0)=false:=by rw[beq_eq_false_iff_ne];exact h0
  rw[h0',h1']at HR;have h20:(s.size:Int)≤20:=by omega
  have HT1:=hid (HT.out w);clear h0' h1' HT hhd;obtain⟨X,hX⟩:∃ X,X=(trimName s).toList.isEmpty:=⟨_,rfl⟩;have hX':(trimName s).toList.isEmpty=X:=hX.symm;rw[←hX]at HR;generalize trimName s=T at *;unfold nameChars firstChars at*
  go_enter Tryz.func129,Tryz.ntmps129
  go_wp2_with fail
  refine HT1.out.mono ?_;clear HT1;rintro e w1 ⟨rfl,hb1⟩;have HB1:=hid hb1;have HI1:=hid (HIx.out w1);clear hb1 HIx hX;cases X with
  | false=>
    have HE:Hid (nameR s=false):=hid (by rw[HR.out];simp)
    clear HR
    go_wp2_with fail
    go_ret
    exact⟨by rw[HE.out];rfl,HB1.out⟩
  | true=>
    have HE:Hid (nameR s=decide (0≤headOf s)):=hid (by rw[HR.out];simp)
    clear HR
    go_wp2_with fail
    refine HI1.out.mono ?_;clear HI1;rintro e w2 ⟨rfl,rfl⟩
    go_wp2_with fail
    go_ret
    exact⟨by rw[HE.out];rfl,HB1.out⟩
 ·have h20:¬((s.size:Int)≤20):=by omega
  have h1':decide (s.size≤20)=false:=decide_eq_false h1;have HE:Hid (nameR s=false):=hid (by rw[HR.out,h1'];simp)
  clear HR h1'
  go_enter Tryz.func129,Tryz.ntmps129
  go_wp2_with fail
  go_ret
  exact⟨by rw[HE.out];rfl,Below.refl _ _⟩
theorem str_appD (a b:List UInt8):str (a++b)=str a++str b:=bts_inj (by simp[bts,str,ByteArray.data_append])
theorem extractD (l:List UInt8) (i j:Nat):(str l).extract i j=str ((l.take j).drop i):=bts_inj (by rw[bts_extract];rfl)
theorem itoaD_any (n:Int) (w:World) (h0: -9223372036854775808≤n) (h1:n≤9223372036854775807) (hv:MV w):Calls Tryz.prog 62 #[.int .i64 n] w fun e w'=>e=.returned (.string (str (Lib.itoa n)))∧Below w.heap.size w w':=
 (Tryz.strconv_Itoa n h0 h1 w hv.tab).mono fun e w' ⟨he,k,os,hw⟩=>⟨he,by rw[hw];exact⟨rfl,rfl,rfl,by simp[grow,World.drewN],fun i hi=>heap_grow_old (w.drewN k) os hi⟩⟩
def digD (c:Int):List UInt8:=Lib.trimPrefix (Lib.itoa c) [45]
theorem digD_len (c:Int) (h0: -9223372036854775808≤c) (h1:c≤9223372036854775807):(digD c).length≤21:=by
 have h:=Lib.itoa_length_le c h0 h1;unfold digD Lib.trimPrefix;split
 ·rw[List.length_drop];omega
 ·exact h
def sgnD (c:Int):List UInt8:=if c < 0 then [45]else []
def padD (d:DecV):List UInt8:=Lib.repeatL [48] (d.scale+1 - (digD d.coef).length).toNat++digD d.coef
def textD (d:DecV):List UInt8:=if d.scale≤0 then sgnD d.coef++digD d.coef else sgnD d.coef++(padD d).take ((padD d).length - d.scale.toNat)++[46]++(padD d).drop ((padD d).length - d.scale.toNat)
theorem padD_len (d:DecV) (h:d.ok):d.scale.toNat < (padD d).length∧(padD d).length≤40:=by
 obtain⟨h0,h1,h2,h3⟩:=h;have h4:=digD_len d.coef (by omega) (by omega)
 unfold padD;rw[List.length_append,Lib.repeatL_length,List.length_singleton];omega
theorem textD_len (d:DecV) (h:d.ok):(textD d).length≤50:=by
 have hp:=padD_len d h;obtain⟨h0,h1,h2,h3⟩:=h;have h4:=digD_len d.coef (by omega) (by omega)
 have h5:(sgnD d.coef).length≤1:=by unfold sgnD;split <;> decide
 unfold textD;split
 ·rw[List.length_append];omega
 ·simp only[List.length_append,List.length_take,List.length_drop,List.length_singleton];omega
theorem textD_any (d:DecV) (w:World) (hd:d.ok) (hv:MV w):Calls Tryz.prog 54 #[d.v] w fun e w'=>e=.returned (.string (str (textD d)))∧Below w.heap.size w w':=by
 have hpl:=padD_len d hd;obtain⟨h0,h1,h2,h3⟩:=hd;have hdl:=digD_len d.coef (by omega) (by omega)
 have HI:Hid (∀ W,Below w.heap.size w W→Calls Tryz.prog 62 #[.int .i64 d.coef] W fun e w'=>e=.returned (.string (str (Lib.itoa d.coef)))∧Below W.heap.size W w'):=hid fun W hW=>itoaD_any d.coef W (by omega) (by omega) (hv.below hW)
 have HTp:Hid (∀ W,Calls Tryz.prog 95 #[.string (str (Lib.itoa d.coef)),.string ⟨#[45]⟩] W fun e w'=>e=.returned (.string (str (digD d.coef)))∧w'=W):=hid fun W=>Tryz.strings_TrimPrefix (str (Lib.itoa d.coef)) ⟨#[45]⟩ W;have HR:Hid (∀ W,Calls Tryz.prog 96 #[.string ⟨#[48]⟩,.int .i64 ((d.scale+1 - (digD d.coef).length).toNat:Nat)] W fun e w'=>e=.returned (.string (str (Lib.repeatL [48] (d.scale+1 - (digD d.coef).length).toNat)))∧Below W.heap.size W w'):=hid fun W=>
  Tryz.strings_Repeat ⟨#[48]⟩ (d.scale+1 - (digD d.coef).length).toNat W (by omega) (by
   show 1*_≤_;omega)
 have HP:Hid (padD d=Lib.repeatL [48] (d.scale+1 - (digD d.coef).length).toNat++digD d.coef):=hid rfl;have HT:Hid (textD d=if d.scale≤0 then sgnD d.coef++digD d.coef else sgnD d.coef++(padD d).take ((padD d).length - d.scale.toNat)++[46]++(padD d).drop ((padD d).length - d.scale.toNat)):=hid rfl
 have HSg:Hid (sgnD d.coef=if d.coef < 0 then [45]else []):=hid rfl
 have hsl:(sgnD d.coef).length≤1:=by unfold sgnD;split <;> decide
 have hmx:max (0:Int) (d.scale+1 - ((digD d.coef).length:Int))=((d.scale+1 - (digD d.coef).length).toNat:Nat):=by omega
 have hrl:(Lib.repeatL [48] (d.scale+1 - (digD d.coef).length).toNat).length≤20:=by rw[Lib.repeatL_length,List.length_singleton];omega
 generalize Lib.itoa d.coef=it at *;generalize textD d=td at *;generalize padD d=pd at *;generalize digD d.coef=dg at *;generalize sgnD d.coef=sg at *;generalize hp:(d.scale+1 - (dg.length:Int)).toNat=p at *;generalize Lib.repeatL [48] p=rl at *;obtain⟨c,s⟩:=d;dsimp only at h0 h1 h2 h3 HI HTp HR HP HT HSg hmx hpl;have HB:Hid (Below w.heap.size w (w.alloc (.cells #[.int .i64 c,.int .i64 s] 44))):=hid ((Below.refl _ _).alloc (Nat.le_refl _) _);have MA:Hid (Blk (w.alloc (.cells #[.int .i64 c,.int .i64 s] 44)) w.heap.size 44 #[.int .i64 c,.int .i64 s]):=hid (Blk.new _ _ _);have HI2:=hid (HI.out _ HB.out);have EX:=hid (extractD (rl++dg) 0 ((rl++dg).length - s.toNat));have EY:=hid (extractD (rl++dg) ((rl++dg).length - s.toNat) (rl++dg).length);have EA:=hid (str_appD rl dg);clear hv HI hp;unfold DecV.v;dsimp only;generalize eW1:w.alloc (.cells #[.int .i64 c,.int .i64 s] 44)=W1 at *;have EW:=hid eW1;have k0:=(MA.out.cell 0).trans (show _=some (.int .i64 c)from rfl);clear eW1
 go_enter Tryz.func54,Tryz.ntmps54
 go_upto_if 8 with fail
 rw[EW.out]
 go_cut [3] (fun v wx=>v=.string (str sg)∧wx=W1)
 case first=>
  by_cases hc:c < 0
  ·have hc2:¬(0≤c):=by omega
   go_wp2_with fail
   go_meet
   case rel=>exact⟨by rw[HSg.out,if_pos hc];rfl,rfl⟩
  ·have hc2:0≤c:=by omega
   go_wp2_with fail
   go_meet
   case rel=>exact⟨by rw[HSg.out,if_neg (by omega)];rfl,rfl⟩
 case rest=>
  obtain⟨rfl,hwc⟩:=hcut;subst hwc;clear EW
  go_wp2_with fail
  refine HI2.out.mono ?_;clear HI2;rintro e w2 ⟨rfl,hb2⟩;have HB2:=hid (HB.out.trans (hb2.mono HB.out.size));have MA2:=hid (MA.out.below hb2 MA.out.lt);have d1:=(MA2.out.cell 1).trans (show _=some (.int .i64 s)from rfl);clear hb2 HB MA k0
  go_wp2_with fail
  refine(HTp.out _).mono ?_;clear HTp;rintro e w3 ⟨rfl,rfl⟩;have hz1:(str sg).size=sg.length:=str_size sg;have hz2:(str dg).size=dg.length:=str_size dg;have hz3:(str rl).size=rl.length:=str_size rl
  by_cases hs:s≤0
  ·have HE:Hid (str td=str sg++str dg):=hid (by rw[HT.out,if_pos hs,str_appD])
   have q1:¬(9223372036854775807 < (str sg).size+(str dg).size):=by omega
   clear HT HP HR hmx EX EY EA hz1 hz2 hz3;generalize str sg=SG at *;generalize str dg=DG at*
   go_wp2_with fail
   go_ret
   exact⟨by rw[HE.out];rfl,HB2.out⟩
  ·have hpd:pd=rl++dg:=HP.out;have hpl2:pd.length=rl.length+dg.length:=by rw[hpd,List.length_append]
   obtain⟨kk,hkk⟩:∃ kk:Nat,kk=pd.length - s.toNat:=⟨_,rfl⟩;have HE:Hid (str td=str sg++(str rl++str dg).extract 0 kk++(⟨#[46]⟩:ByteArray)++(str rl++str dg).extract kk (rl.length+dg.length)):=hid (by
    rw[HT.out,if_neg hs,←str_appD,extractD,extractD,←hkk,str_appD,str_appD,str_appD,hpd,List.drop_zero,List.take_of_length_le (l:=rl++dg) (i:=rl.length+dg.length) (by rw[List.length_append];exact Nat.le_refl _)]
    rfl)
   have hs2:0 < s:=by omega
   rw[←hz2]at hmx;have w1:wrap64 (s+1)=s+1:=by unfold wrap64;omega
   have w2:wrap64 (s+1 - ((str dg).size:Int))=s+1 - ((str dg).size:Int):=by unfold wrap64;omega
   have w3:wrap64 (((str rl).size:Int)+((str dg).size:Int) - s)=(kk:Int):=by unfold wrap64;omega
   have q1:¬(9223372036854775807 < (str rl).size+(str dg).size):=by omega
   have q2:kk≤(str rl).size+(str dg).size:=by omega
   have q3:(0:Int)≤(kk:Int):=Int.natCast_nonneg kk;have q4:(kk:Int)≤((str rl).size:Int)+((str dg).size:Int):=by omega
   have eq5:rl.length+dg.length=(str rl).size+(str dg).size:=by omega
   rw[eq5]at HE;have hsg:(str sg).size≤1:=by omega
   have hrg:(str rl).size≤20:=by omega
   have hdg:(str dg).size≤21:=by omega
   clear HT HP EX EY EA hz1 hz2 hz3 hpd hpl2 hkk eq5 hpl hsl hrl hdl hs h0 h1 h2 h3 HSg;generalize str sg=SG at *;generalize str dg=DG at *;generalize str rl=RL at*
   go_wp2_with fail
   refine(HR.out _).mono ?_;clear HR;rintro e w4 ⟨rfl,hb4⟩;have HB4:=hid (HB2.out.trans (hb4.mono HB2.out.size));have MA4:=MA2.out.below hb4 MA2.out.lt;have g1:=(MA4.cell 1).trans (show _=some (.int .i64 s)from rfl);clear hb4 MA4 MA2 d1 hmx w1 w2;have hx1:((RL++DG).extract 0 kk).size≤41:=by rw[ByteArray.size_extract,ByteArray.size_append];omega
   have hx2:((RL++DG).extract kk (RL.size+DG.size)).size≤41:=by rw[ByteArray.size_extract,ByteArray.size_append];omega
   go_upto_region 9 with fail
   generalize ex1:(RL++DG).extract 0 kk=X1 at *;generalize ex2:(RL++DG).extract kk (RL.size+DG.size)=X2 at *;have r1:¬(9223372036854775807 < SG.size+X1.size):=by omega
   have r2:¬(9223372036854775807 < SG.size+X1.size+1):=by omega
   have r3:¬(9223372036854775807 < SG.size+X1.size+1+X2.size):=by omega
   go_quiet (fail)
   go_wp2_with fail
   go_ret
   exact⟨by rw[HE.out];first|rfl|(rw[ex1,ex2];rfl)|done,below_drewN HB4.out _⟩
end Go.Proofs.YtagfnpdoooachaaGreatDoor
