/- rule.Text and rule.Holds. -/
import Derived.Test.YtagfnpdoooachaaGreatDoorRuleH
import Derived.Sort.CutIn
set_option linter.unusedSimpArgs false
set_option linter.unusedVariables false
set_option maxHeartbeats 6400000
set_option maxRecDepth 100000
namespace Go.Proofs.YtagfnpdoooachaaGreatDoor
open Go.RowKit
open Lib (hid)
structure RuIn (w:World) (lo:Nat) (v:Value) (R:List (List Rl)):Prop where
 ok:ListOk (Enc.list Enc.rl) w lo w.heap.size v R
 len:R.length≤10000000
 part:∀ p∈R,p.length≤10000000
 rng:∀ p∈R,∀ r∈p,r.rng.length≤1049000
theorem RuIn.below {w w':World} {lo:Nat} {v:Value} {R:List (List Rl)} (h:RuIn w lo v R) (hb:Below w.heap.size w w'):RuIn w' lo v R:=
 ⟨(h.ok.below (Enc.list_laws Enc.rl_laws) hb).mono (Enc.list_laws Enc.rl_laws) (Nat.le_refl _) hb.size,h.len,h.part,h.rng⟩
theorem checkIn_any {R:List (List Rl)} {v:Value} {lo:Nat} {w:World} (h:RuIn w lo v R):Calls Tryz.prog 100 #[v] w fun e w'=>e=.returned (errR (checkR R))∧Below w.heap.size w w':=
 rcheck_any R v lo w h.ok h.len h.part fun p hp r hr=>Nat.le_trans (h.rng p hp r hr) (by decide)
theorem errR_ne {n:Int} (h:n≠0):errR n=.iface 27 (.int .i64 n):=if_neg h
theorem errR_zero:errR 0=.nilIface:=rfl
theorem Text_any (R:List (List Rl)) (v:Value) (lo:Nat) (w:World) (h:RuIn w lo v R) (hv:RV w):
 Calls Tryz.prog 99 #[v] w fun e w'=>e=.returned (.tuple #[.string (if checkR R=0 then str (textR R)else ByteArray.empty),errR (checkR R)])∧Below w.heap.size w w':=by
 have HC:=hid (checkIn_any h)
 by_cases h0:checkR R=0
 ·have HJ:Hid (∀ W,Below w.heap.size w W→Calls Tryz.prog 150 #[v,.string (str [32,111,114,32]),.func (.func 151) #[] #[]] W fun e w'=>e=.returned (.string (str (textR R)))∧Below W.heap.size W w'):=hid fun W hW=>by
   have hb:=h.below hW;have hl:=text_len h0 h.rng;obtain⟨_,hf,_⟩:=checkR_zero h0;refine joinedL_any R v [32,111,114,32] partR lo W hb.ok hb.len hl (hid fun p hp W' hW' V' hV'=> ?_);exact textPart_any p V' lo W' (fun r hr=>⟨(hf p hp).2 r hr,Nat.le_trans (h.rng p hp r hr) (by decide)⟩) hV' (h.part p hp) (Nat.le_trans (mem_join_le partR [32,111,114,32] hp) hl) ((hv.below hW).below hW')
  rw[h0,if_pos rfl,errR_zero];rw[h0,errR_zero]at HC;clear h hv h0;generalize str (textR R)=T at*
  go_enter Tryz.func99,Tryz.ntmps99
  go_wp2_with fail
  refine HC.out.mono ?_;clear HC;rintro e w1 ⟨rfl,hb1⟩;have HB1:=hid hb1;have HJ1:=hid (HJ.out w1 hb1);clear hb1 HJ
  go_wp2_with fail
  refine HJ1.out.mono ?_;clear HJ1;rintro e w2 ⟨rfl,hb2⟩;have HB2:=hid (HB1.out.trans (hb2.mono HB1.out.size));clear hb2
  go_wp2_with fail
  go_ret2
  exact⟨rfl,HB2.out⟩
 ·rw[if_neg h0,errR_ne h0];rw[errR_ne h0]at HC;generalize checkR R=n at *;clear h hv h0
  go_enter Tryz.func99,Tryz.ntmps99
  go_wp2_with fail
  refine HC.out.mono ?_;clear HC;rintro e w1 ⟨rfl,hb1⟩;have HB1:=hid hb1;clear hb1
  go_wp2_with fail
  go_ret2
  exact⟨rfl,HB1.out⟩
theorem Holds_any (R:List (List Rl)) (v:Value) (o:OpV) (lo:Nat) (w:World) (h:RuIn w lo v R) (ho:o.Ok):
 Calls Tryz.prog 59 #[v,.agg #[.int .i64 o.i,.int .i64 o.v,.int .i64 o.w,.int .i64 o.f,.int .i64 o.t]] w fun e w'=>e=.returned (.tuple #[.bool (if checkR R=0 then holdR o R else false),errR (checkR R)])∧Below w.heap.size w w':=by
 obtain⟨W1,eW1⟩:∃ W1,W1=w.alloc (.cells #[.int .i64 o.i,.int .i64 o.v,.int .i64 o.w,.int .i64 o.f,.int .i64 o.t] 97):=⟨_,rfl⟩;have hb1:Below w.heap.size w W1:=by rw[eW1];exact(Below.refl _ _).alloc (Nat.le_refl _) _
 have m1:Blk W1 w.heap.size 97 #[.int .i64 o.i,.int .i64 o.v,.int .i64 o.w,.int .i64 o.f,.int .i64 o.t]:=by rw[eW1];exact Blk.new _ _ _
 have HC:=hid (checkIn_any (h.below hb1));have HB1:=hid hb1;have HW1:=hid eW1
 by_cases h0:checkR R=0
 ·have HJ:Hid (∀ W,Below W1.heap.size W1 W→Calls Tryz.prog 101 #[v,.func (.func 102) #[] #[.pointer (some ⟨w.heap.size,0,none⟩)]] W fun e w'=>e=.returned (.bool (holdR o R))∧Below W.heap.size W w'):=hid fun W hW=>by
   have hb:=(h.below hb1).below hW;have hm:=m1.below hW m1.lt;obtain⟨_,hf,_⟩:=checkR_zero h0;refine containsL_any R v w.heap.size (holdP o) lo W hb.ok (by have:=hb.len;omega) (hid fun p hp W' hW' V' hV'=> ?_)
   exact holdPart_any p V' o w.heap.size lo W' ho (fun r hr=>by
    obtain⟨f1,f2,_,_,_⟩:=fineR_all ((hf p hp).2 r hr);exact⟨f1,f2,Nat.le_trans (h.rng p hp r hr) (by decide)⟩) hV' (h.part p hp) (hm.below hW' hm.lt)
  rw[h0,if_pos rfl,errR_zero];rw[h0,errR_zero]at HC;clear h ho h0 hb1 m1 eW1;generalize holdR o R=X at*
  go_enter Tryz.func59,Tryz.ntmps59
  go_upto_region 1 with fail
  rw[←HW1.out];clear HW1
  go_wp2_with fail
  refine HC.out.mono ?_;clear HC;rintro e w1 ⟨rfl,hb1⟩;have HB2:=hid (HB1.out.trans (hb1.mono HB1.out.size));have HJ1:=hid (HJ.out w1 hb1);clear hb1 HJ
  go_wp2_with fail
  refine HJ1.out.mono ?_;clear HJ1;rintro e w2 ⟨rfl,hb2⟩;have HB3:=hid (HB2.out.trans (hb2.mono HB2.out.size));clear hb2
  go_wp2_with fail
  go_ret2
  exact⟨rfl,HB3.out⟩
 ·rw[if_neg h0,errR_ne h0];rw[errR_ne h0]at HC;generalize checkR R=n at *;clear h ho h0 hb1 m1 eW1
  go_enter Tryz.func59,Tryz.ntmps59
  go_upto_region 1 with fail
  rw[←HW1.out];clear HW1
  go_wp2_with fail
  refine HC.out.mono ?_;clear HC;rintro e w1 ⟨rfl,hb1⟩;have HB2:=hid (HB1.out.trans (hb1.mono HB1.out.size));clear hb1
  go_wp2_with fail
  go_ret2
  exact⟨rfl,HB2.out⟩
def opsF (d:DecV):Int:=Int.tmod (absD d.coef) (P10 d.scale.toNat)
def opsV (d:DecV):OpV:=⟨Int.tdiv (absD d.coef) (P10 d.scale.toNat),d.scale,((trimF d.scale.toNat (opsF d)).2:Int),opsF d,(trimF d.scale.toNat (opsF d)).1⟩
def opsO (d:DecV):OpV:=if d.ok then opsV d else⟨0,0,0,0,0⟩
def OpV.val (o:OpV):Value:=.agg #[.int .i64 o.i,.int .i64 o.v,.int .i64 o.w,.int .i64 o.f,.int .i64 o.t]
theorem ops_bound (d:DecV) (h:d.ok):0≤absD d.coef∧absD d.coef≤1000000000000000∧0≤opsF d∧opsF d≤1000000000∧0≤Int.tdiv (absD d.coef) (P10 d.scale.toNat)∧Int.tdiv (absD d.coef) (P10 d.scale.toNat)≤1000000000000000:=by
 obtain⟨h0,h1,h2,h3⟩:=h;have ha:0≤absD d.coef∧absD d.coef≤1000000000000000:=by unfold absD;split <;> omega
 have p0:=P10_pos d.scale.toNat;have p1:=P10_le d.scale.toNat (by omega)
 have hf:0≤opsF d∧opsF d≤1000000000:=by
  unfold opsF;rw[Int.tmod_eq_emod_of_nonneg ha.1];have h3:=Int.emod_nonneg (absD d.coef) (by omega:P10 d.scale.toNat≠0)
  have h4:=Int.emod_lt_of_pos (absD d.coef) p0;omega
 obtain⟨t1,t2⟩:=tdiv_bound (b:=absD d.coef) (M:=1000000000000000) p0 (by omega) ha.2
 refine⟨ha.1,ha.2,hf.1,hf.2,?_,t2⟩;rw[Int.tdiv_eq_ediv_of_nonneg ha.1];exact Int.ediv_nonneg ha.1 (Int.le_of_lt p0)
theorem opsOf_any (d:DecV) (w:World):Calls Tryz.prog 56 #[d.v] w fun e w'=>e=.returned (.tuple #[(opsO d).val,errD (checkD d)])∧Below w.heap.size w w':=by
 have HA:Hid (∀ W,Calls Tryz.prog 53 #[d.v] W fun e w'=>e=.returned (errD (checkD d))∧Below W.heap.size W w'):=hid fun W=>checkD_any d W;obtain⟨W2,eW2⟩:∃ W2,W2=(w.alloc (.cells #[.int .i64 d.coef,.int .i64 d.scale] 44)).alloc (.cells #[.int .i64 0,.int .i64 0,.int .i64 0,.int .i64 0,.int .i64 0] 97):=⟨_,rfl⟩;have ma:Blk W2 w.heap.size 44 #[.int .i64 d.coef,.int .i64 d.scale]:=by rw[eW2];exact(Blk.new _ _ _).alloc _
 have mr:Blk W2 (w.heap.size+1) 97 #[.int .i64 0,.int .i64 0,.int .i64 0,.int .i64 0,.int .i64 0]:=by
  rw[eW2];have:=Blk.new (w.alloc (.cells #[.int .i64 d.coef,.int .i64 d.scale] 44)) 97 #[.int .i64 0,.int .i64 0,.int .i64 0,.int .i64 0,.int .i64 0];rw[World.size_alloc]at this;exact this
 have hb2:Below w.heap.size w W2:=by rw[eW2];exact((Below.refl _ _).alloc (Nat.le_refl _) _).alloc (by simp) _
 have HB2:=hid hb2;have MA:=hid ma;have MR:=hid mr;have EW:=hid eW2;have k0:=(ma.cell 0).trans (show _=some (.int .i64 d.coef)from rfl);have k1:=(ma.cell 1).trans (show _=some (.int .i64 d.scale)from rfl);unfold DecV.v at HA ⊢;clear hb2 ma mr eW2
 go_enter Tryz.func56,Tryz.ntmps56
 go_upto_region 1 with fail
 rw[←EW.out];clear EW
 go_wp2_with fail
 refine(HA.out W2).mono ?_;clear HA;rintro e w3 ⟨rfl,hb3⟩;have HB3:=hid (HB2.out.trans (hb3.mono HB2.out.size));have MA3:=hid (MA.out.below hb3 MA.out.lt);have MR3:=hid (MR.out.below hb3 MR.out.lt);clear k0 k1 hb3 MA MR HB2
 by_cases hd:d.ok
 ·have HO:Hid (opsO d=opsV d∧errD (checkD d)=.nilIface):=hid ⟨if_pos hd,by rw[checkD_ok hd];rfl⟩
  rw[checkD_ok hd,errD_zero];obtain⟨b0,b1,b2,b3,b4,b5⟩:=ops_bound d hd;obtain⟨h0,h1,h2,h3⟩:=hd;obtain⟨n,hn⟩:∃ n:Nat,d.scale=n:=⟨d.scale.toNat,by omega⟩
  have hn9:n≤9:=by omega
  have HV:Hid (opsV d=⟨Int.tdiv (absD d.coef) (P10 n),(n:Int),((trimF n (Int.tmod (absD d.coef) (P10 n))).2:Int),Int.tmod (absD d.coef) (P10 n),(trimF n (Int.tmod (absD d.coef) (P10 n))).1⟩):=hid (by
   unfold opsV opsF;rw[hn];have e:((n:Int)).toNat=n:=by omega
   rw[e])
  have d0:=(MA3.out.cell 0).trans (show _=some (.int .i64 d.coef)from rfl);have d1:=(MA3.out.cell 1).trans (show _=some (.int .i64 d.scale)from rfl);rw[hn]at d1;rw[hn]at MA3;have HD:Hid (d.coef= -(-d.coef)∧absD d.coef=if d.coef < 0 then -d.coef else d.coef):=hid ⟨by omega,rfl⟩
  have hmx:max d.coef (-d.coef)=absD d.coef:=by unfold absD;split <;> omega
  have hwn:wrap64 (-d.coef)= -d.coef:=by unfold wrap64;omega
  have HBd:=hid (And.intro b0 (And.intro b1 (And.intro b4 b5)));have hfb:0≤Int.tmod (absD d.coef) (P10 n)∧Int.tmod (absD d.coef) (P10 n)≤1000000000:=by
   have e:((n:Int)).toNat=n:=by omega
   have h:=And.intro b2 b3;unfold opsF at h;rwa[hn,e]at h
  have htb:0≤Int.tdiv (absD d.coef) (P10 n)∧Int.tdiv (absD d.coef) (P10 n)≤1000000000000000:=by
   have e:((n:Int)).toNat=n:=by omega
   have h:=And.intro b4 b5;rwa[hn,e]at h
  generalize absD d.coef=ab at *;clear h0 h1 h2 h3 hn b0 b1 b2 b3 b4 b5
  go_wp2_with fail
  go_loopw [5,16] (fun o i wr=>∃ j:Nat,j≤n∧i=.int .i64 (j:Int)∧o=.int .i64 (P10 j)∧wr=w3) (fun _ i _=>n - (intOf i).toNat)
  case atStart=>exact⟨0,Nat.zero_le _,rfl,rfl,rfl⟩
  case round=>
   obtain⟨j,hj,rfl,rfl,rfl⟩:=hrel
   by_cases hlt:j < n
   ·have i1:(0:Int)≤(j:Int):=Int.natCast_nonneg j;have i2:(j:Int) < (n:Int):=by omega
    have hS:=hid (P10_succ j);have h1:=P10_le j (by omega)
    have h2:=P10_pos j;clear hmx hwn hfb htb d0 d1;generalize P10 j=p at *;have hw:wrap64 (p*10)=p*10:=by unfold wrap64;omega
    go_wp2_with fail
    go_roundw
    case rel=>exact⟨j+1,by omega,by go_num,by rw[hS.out],by first|rfl|trivial⟩
    case measure=>simp[intOf];omega
   ·obtain rfl:j=n:=by omega
    have hu0:=P10_pos j;have HUn:Hid (0 < P10 j):=hid hu0;generalize P10 j=u at *;have hun:¬(u=0):=by omega
    have hwt:wrap64 (Int.tdiv ab u)=Int.tdiv ab u:=by unfold wrap64;omega
    have ha0:(wr.alloc (.cells #[.int .i64 0,.int .i64 0,.int .i64 0,.int .i64 0,.int .i64 0] 97)).drew.cell? ⟨w.heap.size,1,none⟩=some (.int .i64 (j:Int)):=((MA3.out.alloc (.cells #[.int .i64 0,.int .i64 0,.int .i64 0,.int .i64 0,.int .i64 0] 97)).cell 1).trans rfl;clear hu0 hlt hj
    go_wp2_with fail
    go_region
    go_wp2_with fail
    rw[Int.tmod_eq_emod_of_nonneg HBd.out.1]at HV hfb;have HFb:=hid hfb;generalize hii:Int.tdiv ab u=II at *;generalize hff:ab % u=FF at *;have MR5:Hid (Blk (wr.alloc (.cells #[.int .i64 II,.int .i64 (j:Int),.int .i64 (j:Int),.int .i64 FF,.int .i64 FF] 97)).drew (w.heap.size+1) 97 #[.int .i64 0,.int .i64 0,.int .i64 0,.int .i64 0,.int .i64 0]):=hid (MR3.out.alloc _);have MB5:Hid (Blk (wr.alloc (.cells #[.int .i64 II,.int .i64 (j:Int),.int .i64 (j:Int),.int .i64 FF,.int .i64 FF] 97)).drew wr.heap.size 97 #[.int .i64 II,.int .i64 (j:Int),.int .i64 (j:Int),.int .i64 FF,.int .i64 FF]):=hid (Blk.new _ _ _);have HB5:Hid (Below w.heap.size w (wr.alloc (.cells #[.int .i64 II,.int .i64 (j:Int),.int .i64 (j:Int),.int .i64 FF,.int .i64 FF] 97)).drew):=hid ((HB3.out.alloc HB3.out.size _).drew);have hlt1:=MR3.out.lt;have hsz3:=HB3.out.size;clear hfb hii hff ha0 hwt hun HUn hmx hwn MA3 MR3 HD HBd htb d0 d1
    go_loopw [] (fun wq=>∃(c:Int) (m:Nat),Hid (0≤c∧c≤1000000000)∧m≤9∧Hid (trimF j FF=trimF m c)∧Blk wq wr.heap.size 97 #[.int .i64 II,.int .i64 (j:Int),.int .i64 (m:Int),.int .i64 FF,.int .i64 c]∧Blk wq (w.heap.size+1) 97 #[.int .i64 0,.int .i64 0,.int .i64 0,.int .i64 0,.int .i64 0]∧Below w.heap.size w wq) (fun wq=>match wq.cell? ⟨wr.heap.size,2,none⟩with|some v=>(intOf v).toNat|none=>0)
    case atStart=>exact⟨FF,j,HFb,hn9,hid rfl,MB5.out,MR5.out,HB5.out⟩
    case round=>
     clear MR5 MB5 HB5 HB3
     rename_i wq
     obtain⟨c,m,HCb,hm,HTm,hmb,hmr,hb⟩:=hrel;have HB:=hid hb;have HMB:=hid hmb;have HMR:=hid hmr;have k2:=(hmb.cell 2).trans (show _=some (.int .i64 (m:Int))from rfl);have k4:=(hmb.cell 4).trans (show _=some (.int .i64 c)from rfl);have f2:=hmb.frozen 2;have f4:=hmb.frozen 4;have k0:=(hmb.cell 0).trans (show _=some (.int .i64 II)from rfl);have k1:=(hmb.cell 1).trans (show _=some (.int .i64 (j:Int))from rfl);have k3:=(hmb.cell 3).trans (show _=some (.int .i64 FF)from rfl);have hwc:wrap64 (Int.tdiv c 10)=Int.tdiv c 10:=by
      obtain⟨t1,t2⟩:=tdiv_bound (b:=c) (u:=10) (M:=1000000000) (by decide) (by have:=HCb.out;omega) HCb.out.2
      unfold wrap64;omega
     clear hb hmb hmr HFb;cases m with
     | zero=>
       have HE:Hid (trimF 0 c=(c,0)):=hid rfl;have r0:=(HMR.out.cell 0).trans (show _=some (.int .i64 0)from rfl);have r1:=(HMR.out.cell 1).trans (show _=some (.int .i64 0)from rfl);have r2:=(HMR.out.cell 2).trans (show _=some (.int .i64 0)from rfl);have r3:=(HMR.out.cell 3).trans (show _=some (.int .i64 0)from rfl);have r4:=(HMR.out.cell 4).trans (show _=some (.int .i64 0)from rfl);have g0:=HMR.out.frozen 0;have g1:=HMR.out.frozen 1;have g2:=HMR.out.frozen 2;have g3:=HMR.out.frozen 3;have g4:=HMR.out.frozen 4;clear HMR HMB hwc f2 f4
       go_wp2_with fail
       refine bodyPost_ret (v:=.tuple #[.agg #[.int .i64 II,.int .i64 (j:Int),.int .i64 0,.int .i64 FF,.int .i64 c],.nilIface]) ?_ rfl ?_
       ·simp[results,Tryz.results56,go_sem,r0,r1,r2,r3,r4,g0,g1,g2,g3,g4]
       ·refine⟨by rw[HO.out.1,HO.out.2,HV.out,HTm.out,HE.out];rfl,?_⟩
        repeat' (first|exact HB.out|refine Below.setCell ?_ (by show w.heap.size≤w.heap.size+1;omega) _)
     | succ m=>
       have i1:(0:Int) < (m:Int)+1:=by omega
       have i2:(0:Int) < ((m+1:Nat):Int):=by omega
       have hw2:wrap64 ((m:Int)+1 - 1)=(m:Int):=by unfold wrap64;omega
       by_cases h0:Int.tmod c 10=0
       ·have q0:(Int.tmod c 10 == 0)=true:=by rw[beq_iff_eq];exact h0
        have HE:Hid (trimF (m+1) c=trimF m (Int.tdiv c 10)):=hid (if_pos h0);have HCn:Hid (0≤Int.tdiv c 10∧Int.tdiv c 10≤1000000000):=hid (by
         obtain⟨c0,c1⟩:=HCb.out;have:=(tdiv_bound (b:=c) (u:=10) (M:=1000000000) (by decide) (by omega) c1).2
         rw[Int.tdiv_eq_ediv_of_nonneg c0]at this ⊢;exact⟨Int.ediv_nonneg c0 (by decide),this⟩)
        clear h0
        go_wp2_with fail
        go_roundw
        case rel=>
         exact⟨Int.tdiv c 10,m,HCn,by omega,hid (by rw[HTm.out,HE.out]),(HMB.out.set_ 2 _).set_ 4 _,(HMR.out.far (Nat.ne_of_lt hlt1) _).far (Nat.ne_of_lt hlt1) _,(HB.out.setCell (p:=⟨_,_,none⟩) hsz3 _).setCell (p:=⟨_,_,none⟩) hsz3 _⟩
        case measure=>
         have e1:=(((HMB.out.set_ 2 (.int .i64 (m:Int))).set_ 4 (.int .i64 (Int.tdiv c 10))).cell 2).trans (show _=some (.int .i64 (m:Int))from rfl);rw[e1];simp only[k2];simp[intOf]
       ·have q0:(Int.tmod c 10 == 0)=false:=by rw[beq_eq_false_iff_ne];exact h0
        have HE:Hid (trimF (m+1) c=(c,m+1)):=hid (if_neg h0);have r0:=(HMR.out.cell 0).trans (show _=some (.int .i64 0)from rfl);have r1:=(HMR.out.cell 1).trans (show _=some (.int .i64 0)from rfl);have r2:=(HMR.out.cell 2).trans (show _=some (.int .i64 0)from rfl);have r3:=(HMR.out.cell 3).trans (show _=some (.int .i64 0)from rfl);have r4:=(HMR.out.cell 4).trans (show _=some (.int .i64 0)from rfl);have g0:=HMR.out.frozen 0;have g1:=HMR.out.frozen 1;have g2:=HMR.out.frozen 2;have g3:=HMR.out.frozen 3;have g4:=HMR.out.frozen 4;clear HMR HMB hwc f2 f4 h0
        go_wp2_with fail
        refine bodyPost_ret (v:=.tuple #[.agg #[.int .i64 II,.int .i64 (j:Int),.int .i64 ((m+1:Nat):Int),.int .i64 FF,.int .i64 c],.nilIface]) ?_ rfl ?_
        ·simp[results,Tryz.results56,go_sem,r0,r1,r2,r3,r4,g0,g1,g2,g3,g4]
        ·refine⟨by rw[HO.out.1,HO.out.2,HV.out,HTm.out,HE.out];rfl,?_⟩
         repeat' (first|exact HB.out|refine Below.setCell ?_ (by show w.heap.size≤w.heap.size+1;omega) _)
 ·have HO:Hid (opsO d=⟨0,0,0,0,0⟩∧errD (checkD d)=.iface 27 (.int .i64 1)):=hid ⟨if_neg hd,by rw[checkD_no hd];rfl⟩
  rw[checkD_no hd,errD_ne (by decide)]
  have r0:=(MR3.out.cell 0).trans (show _=some (.int .i64 0)from rfl);have r1:=(MR3.out.cell 1).trans (show _=some (.int .i64 0)from rfl);have r2:=(MR3.out.cell 2).trans (show _=some (.int .i64 0)from rfl);have r3:=(MR3.out.cell 3).trans (show _=some (.int .i64 0)from rfl);have r4:=(MR3.out.cell 4).trans (show _=some (.int .i64 0)from rfl);have f0:=MR3.out.frozen 0;have f1:=MR3.out.frozen 1;have f2:=MR3.out.frozen 2;have f3:=MR3.out.frozen 3;have f4:=MR3.out.frozen 4;clear hd
  go_wp2_with fail
  refine bodyPost_ret (v:=.tuple #[.agg #[.int .i64 0,.int .i64 0,.int .i64 0,.int .i64 0,.int .i64 0],.iface 27 (.int .i64 1)]) ?_ rfl ?_
  ·simp[results,Tryz.results56,go_sem,r0,r1,r2,r3,r4,f0,f1,f2,f3,f4]
  ·refine⟨by rw[HO.out.1,HO.out.2];rfl,?_⟩
   repeat' (first|exact HB3.out|refine Below.setCell ?_ (by show w.heap.size≤w.heap.size+1;omega) _)
end Go.Proofs.YtagfnpdoooachaaGreatDoor
namespace Go.Proofs.YtagfnpdoooachaaGreatDoor
open Go.RowKit Go.Shelf
open Lib (hid)
theorem cutR_any (s sep:List UInt8) (w:World) (hs:s.length≤2000000000) (hv:RV w):
 Calls Tryz.prog 12 #[.string (str s),.string (str sep)] w fun e w'=>e=.returned (.tuple #[.string (str (Lib.cut s sep).1),.string (str (Lib.cut s sep).2.1),.bool (Lib.cut s sep).2.2])∧Below w.heap.size w w':=by
 obtain⟨m,hm⟩:=hv.max;have h:=Tryz.strings_Cut (str s) (str sep) m w (by rw[str_size];omega) hm
 have e1:(str s).data.toList=s:=bts_str s;have e2:(str sep).data.toList=sep:=bts_str sep;rw[e1,e2]at h;refine h.mono ?_;rintro e w' ⟨rfl,n,rfl⟩;exact⟨rfl,below_drewN (Below.refl _ _) n⟩
theorem splitSeq_any (s sep:List UInt8) (w:World):
 Calls Tryz.prog 148 #[.string (str s),.string (str sep),.int .i64 0] w fun e w'=>e=.returned (.func (.func 197) #[] #[.pointer (some ⟨w.heap.size+1,0,none⟩),.pointer (some ⟨w.heap.size,0,none⟩),.pointer (some ⟨w.heap.size+2,0,none⟩)])∧
  w'=((w.alloc (.cells #[.string (str s)] 9)).alloc (.cells #[.string (str sep)] 9)).alloc (.cells #[.int .i64 0] 3):=by
 go_enter Tryz.func148,Tryz.ntmps148
 go_wp2_with fail
 go_ret
 exact⟨rfl,rfl⟩
theorem SplitSeq_any (s sep:List UInt8) (w:World) (hv:RV w):
 Calls Tryz.prog 97 #[.string (str s),.string (str sep)] w fun e w'=>e=.returned (.func (.func 197) #[] #[.pointer (some ⟨w.heap.size+1,0,none⟩),.pointer (some ⟨w.heap.size,0,none⟩),.pointer (some ⟨w.heap.size+2,0,none⟩)])∧
  Below w.heap.size w w'∧w'.heap.size=w.heap.size+3∧SqB w' w.heap.size s sep:=by
 have H:=hid (splitSeq_any s sep w);have HM:Hid (RV w):=hid hv;clear hv
 go_enter Tryz.func97,Tryz.ntmps97
 go_wp2_with fail
 refine H.out.mono ?_;clear H;rintro e w1 ⟨rfl,e1⟩;have hb:Below w.heap.size w w1:=by rw[e1];exact(((Below.refl _ _).alloc (Nat.le_refl _) _).alloc (by simp) _).alloc (by simp;omega) _
 have hz:w1.heap.size=w.heap.size+3:=by rw[e1];simp
 have hq:SqB w1 w.heap.size s sep:=by
  refine⟨?_,?_,?_,(HM.out.below hb).max⟩
  ·rw[e1];exact((Blk.new w _ _).alloc _).alloc _
  ·rw[e1];have:=(Blk.new (w.alloc (.cells #[.string (str s)] 9)) 9 #[.string (str sep)]).alloc (.cells #[.int .i64 0] 3);rwa[World.size_alloc]at this
  ·rw[e1];have:=Blk.new ((w.alloc (.cells #[.string (str s)] 9)).alloc (.cells #[.string (str sep)] 9)) 3 #[.int .i64 0];rwa[World.size_alloc,World.size_alloc]at this
 have HA:Hid (Below w.heap.size w w1∧w1.heap.size=w.heap.size+3∧SqB w1 w.heap.size s sep):=hid ⟨hb,hz,hq⟩;clear e1 hb hz hq
 go_wp2_with fail
 go_ret
 exact⟨rfl,HA.out⟩
variable {F:Fence} {n:Nat} {P:Program}
theorem range_outer1 {α:Type} {g:Operand} {p:Tmp} {assign body:Code} {Q:Exit→Act→World→Prop} {a:Act} {w:World}
 (hro:F.round=none) (h1:1≤n) {gf:Nat} {lb:Array Value} (hg:a.eval g=.func (.func gf) #[] lb) (hFg:F.fn gf) (eg:∀ args w,(callFunc gf args).run P w=.ok (.enter gf args) w)
 {enc:α→Value} {xs:List α} {St Kp:World→World→Prop} {w0:World} (hseq:SeqT F (n - 1) P gf lb enc xs St Kp w0)
 (hK0:Kp w0 w) (hKr:∀ A:World,Kp A A) (hKt:∀ {A B C:World},Kp A B→Kp B C→Kp A C) (hKa:∀(W:World) (o:Obj),w.heap.size≤W.heap.size→Kp W (W.alloc o)) (hKb:∀(W:World) (l:Nat) (o o':Obj),w.heap.size≤l→W.heap[l]? =some o→o.isCells=false→o.isWalk=false→Kp W (W.putObj l o'))
 (hSt:∀ A B,St A B→∀ i,w.heap.size≤i→B.heap[i]? =A.heap[i]?)
 (I:Nat→World→Prop) (hI:OwnFrom w.heap.size I) (hIs:∀ k A B,I k A→St A B→I k B) (h0:I 0 w) (d:Nat)
 (hassign:∀(l:Nat) (v:Value) (W:World) (K:Act→World→Prop),K { tmps:=(a.tmps.setIfInBounds p v).setIfInBounds d v,defers:=[] } W→
   assign.wpIn (F.inRound l) (n - 1 - 1) P (Exit.then K (fun _ _ _=>False)) { tmps:=a.tmps.setIfInBounds p v,defers:=[] } W)
 (hbody:∀(l k:Nat) (hk:k < xs.length) (W:World),(∃ r,W.heap[l]? =some (.loop r))→I k W→body.wpIn (F.inRound l) (n - 1 - 1) P (roundT w.heap.size Kp I (k+1) W) { tmps:=(a.tmps.setIfInBounds p (enc xs[k])).setIfInBounds d (enc xs[k]),defers:=[] } W)
 (hdone:∀(D:Nat) (W:World),w.heap.size≤D→I xs.length W→W.heap[D]? =some (.deferred (some []))→Q .normal { a with defers:= { target:=.collected D,args:=#[] }::a.defers } W):
 (Code.rangeFunc g #[p] assign body).wpIn F n P Q a w:=
 range_outer hro h1 hg hFg eg hseq hK0 hKt hKa hKb hSt I hI hIs h0
  (fun k a' _=>∀ hk:k < xs.length,a'= { tmps:=(a.tmps.setIfInBounds p (enc xs[k])).setIfInBounds d (enc xs[k]),defers:=[] })
  (fun _ _ _ _ _ _ hs _ _=>hs)
  (fun l _ _ W K hi hK=>hassign l _ W K (hK _ W (KeepsFrom.refl _ _) (hKr _) hi fun _=>rfl))
  (fun l k hk a' W _ hl hi ha=>by rw[ha hk];exact hbody l k hk W hl hi)
  hdone
theorem range_inner1 {α:Type} {g:Operand} {p:Tmp} {assign body:Code} {Q:Exit→Act→World→Prop} {a:Act} {w:World}
 {l₀:Nat} {r₀:Loop} (hro:F.round=some l₀) (hl₀:w.heap[l₀]? =some (.loop r₀)) (h1:1≤n) {gf:Nat} {lb:Array Value} (hg:a.eval g=.func (.func gf) #[] lb) (hFg:F.fn gf) (eg:∀ args w,(callFunc gf args).run P w=.ok (.enter gf args) w)
 {enc:α→Value} {xs:List α} {St Kp:World→World→Prop} {w0:World} (hseq:SeqT F (n - 1) P gf lb enc xs St Kp w0)
 (hK0:Kp w0 w) (hKr:∀ A:World,Kp A A) (hKt:∀ {A B C:World},Kp A B→Kp B C→Kp A C) (hKa:∀(W:World) (o:Obj),w.heap.size≤W.heap.size→Kp W (W.alloc o)) (hKb:∀(W:World) (l:Nat) (o o':Obj),w.heap.size≤l→W.heap[l]? =some o→o.isCells=false→o.isWalk=false→Kp W (W.putObj l o'))
 (hSt:∀ A B,St A B→∀ i,w.heap.size≤i→B.heap[i]? =A.heap[i]?)
 (I:Nat→World→Prop) (hI:OwnFrom w.heap.size I) (hIs:∀ k A B,I k A→St A B→I k B) (h0:I 0 w) (d:Nat)
 (hassign:∀(l:Nat) (v:Value) (W:World) (K:Act→World→Prop),K { tmps:=(a.tmps.setIfInBounds p v).setIfInBounds d v,defers:=[] } W→
   assign.wpIn (F.inRound l) (n - 1 - 1) P (Exit.then K (fun _ _ _=>False)) { tmps:=a.tmps.setIfInBounds p v,defers:=[] } W)
 (hbody:∀(l k:Nat) (hk:k < xs.length) (W:World),(∃ r,W.heap[l]? =some (.loop r))→I k W→body.wpIn (F.inRound l) (n - 1 - 1) P (roundT w.heap.size Kp I (k+1) W) { tmps:=(a.tmps.setIfInBounds p (enc xs[k])).setIfInBounds d (enc xs[k]),defers:=[] } W)
 (hdone:∀(W:World),I xs.length W→Q .normal a W):
 (Code.rangeFunc g #[p] assign body).wpIn F n P Q a w:=
 range_inner hro hl₀ h1 hg hFg eg hseq hK0 hKt hKa hKb hSt I hI hIs h0
  (fun k a' _=>∀ hk:k < xs.length,a'= { tmps:=(a.tmps.setIfInBounds p (enc xs[k])).setIfInBounds d (enc xs[k]),defers:=[] })
  (fun _ _ _ _ _ _ hs _ _=>hs)
  (fun l _ _ W K hi hK=>hassign l _ W K (hK _ W (KeepsFrom.refl _ _) (hKr _) hi fun _=>rfl))
  (fun l k hk a' W _ hl hi ha=>by rw[ha hk];exact hbody l k hk W hl hi)
  hdone
theorem blk_nc {W W':World} {g:Nat} {t:TypeId} {cs:Array Value} {row:Option Nat} (h:Blk W g t cs) (hg:W.grownBy W' row) (hr:∀ r,row=some r→∃ o:Obj,W.heap[r]? =some o∧o.isCells=false):Blk W' g t cs:=
 blkGrown h hg fun e=>by
  obtain⟨o,ho,hc⟩:=hr g e.symm;unfold Blk at h;rw[h]at ho;injection ho with ho;subst ho;cases hc
theorem own_nc {W W':World} {base:Nat} {e:TypeId} {size:Nat} {v:Value} {m:Nat} {xs:List Value} {row:Option Nat} (h:W.ownsRow base e size v m xs) (hg:W.grownBy W' row) (hr:∀ r,row=some r→∃ o:Obj,W.heap[r]? =some o∧o.isCells=false):W'.ownsRow base e size v m xs:=by
 obtain⟨h1,h2|⟨g,cap,cur,hv,hb,hh,r⟩⟩:=h
 ·exact⟨h1,.inl h2⟩
 ·exact⟨h1,.inr ⟨g,cap,cur,hv,hb,blk_nc (t:=e) (cs:=cur) hh hg hr,r⟩⟩
theorem below_nc {W W' w0:World} {B:Nat} {row:Option Nat} (h:Below B w0 W) (hB:B≤w0.heap.size) (hg:W.grownBy W' row) (hr:∀ r,row=some r→B≤r):Below B w0 W':=
 h.grown hg (Nat.le_trans hB h.size) hr
theorem own_blkR {w:World} {base:Nat} {e t:TypeId} {size:Nat} {v:Value} {m:Nat} {xs:List Value} {g:Nat} {cs:Array Value} (h:w.ownsRow base e size v m xs) (k:Blk w g t cs) (hne:e≠t):v.ownBlock≠some g:=by
 intro hg;obtain⟨_,⟨h2,_⟩|⟨g',cap,cur,hv,hb,hh,r⟩⟩:=h
 ·rw[h2]at hg;cases hg
 ·rw[hv]at hg;injection hg with hg;subst hg;unfold Blk at k;rw[hh]at k;injection k with k;injection k with _ k;exact hne k
theorem sqk_alloc {B:Nat} (W:World) (o:Obj) (h:B+3≤W.heap.size) (hg:3 < W.heap.size):SqK B W (W.alloc o):=
 ⟨by simp,fun i hi hl=>Below.heap_alloc _ _ _ hl⟩
theorem sqk_put {B N:Nat} (W:World) (l:Nat) (o':Obj) (hB:B+3≤N) (hG:3 < B) (hl:N≤l):SqK B W (W.putObj l o'):=
 ⟨by simp[World.putObj],fun i hi _=>World.putObj_heap_other (by rcases hi with rfl|⟨_,h⟩ <;> omega)⟩
theorem sqk_below {B:Nat} {W W':World} (h:Below W.heap.size W W'):SqK B W W':=⟨h.size,fun i _ hl=>h.block i hl⟩
theorem sqk_grown {B:Nat} {W W':World} {row:Option Nat} (hg:W.grownBy W' row) (hr:∀ r,row=some r→B+3≤r) (hG:3 < B):SqK B W W':=
 ⟨hg.size,fun i hi hl=>hg.block i hl fun e=>by
   have:=hr i e.symm;rcases hi with rfl|⟨_,h⟩ <;> omega⟩
theorem sqk_set {B:Nat} (W:World) (q o:Nat) (v:Value) (hq:q≠3) (h:q < B∨B+3≤q):SqK B W (W.setCell ⟨q,o,none⟩ v):=
 ⟨by simp[World.setCell],fun i hi _=>Below.heap_setCell _ _ _ _ (by show i≠q;rcases hi with rfl|⟨h1,h2⟩ <;> omega)⟩
theorem kf_below {N:Nat} {W W':World} (h:Below W.heap.size W W'):KeepsFrom N W W':=⟨h.size,fun k o _ hk _=>(h.block k (Array.getElem?_eq_some_iff.1 hk).1).trans hk⟩
theorem kf_grown {N:Nat} {W W':World} {row:Option Nat} (hg:W.grownBy W' row) (hr:∀ r,row=some r→∃(cs:Array Value) (t:TypeId),Blk W r t cs):KeepsFrom N W W':=
 ⟨hg.size,fun k o _ hk ho=>(hg.block k (Array.getElem?_eq_some_iff.1 hk).1 fun e=>by
   obtain⟨cs,t,hb⟩:=hr k e.symm;unfold Blk at hb;rw[hb]at hk;injection hk with hk;subst hk;cases ho).trans hk⟩
theorem kf_set {N:Nat} (W:World) (q o:Nat) (v:Value) {t:TypeId} {cs:Array Value} (h:Blk W q t cs):KeepsFrom N W (W.setCell ⟨q,o,none⟩ v):=
 ⟨by simp[World.setCell],fun k ob _ hk ho=>(Below.heap_setCell _ _ _ _ (by
   intro (e:k=q);subst e;unfold Blk at h;rw[h]at hk;injection hk with hk;subst hk;cases ho)).trans hk⟩
theorem own_row {W:World} {base:Nat} {e:TypeId} {size:Nat} {v:Value} {m:Nat} {xs:List Value} (h:W.ownsRow base e size v m xs):∀ r,v.ownBlock=some r→∃(cs:Array Value) (t:TypeId),Blk W r t cs:=by
 intro r hr;obtain⟨_,⟨h2,_⟩|⟨g,cap,cur,hv,hb,hh,_⟩⟩:=h
 ·rw[h2]at hr;cases hr
 ·rw[hv]at hr;injection hr with hr;subst hr;exact⟨_,_,hh⟩
end Go.Proofs.YtagfnpdoooachaaGreatDoor
namespace Go.Proofs.YtagfnpdoooachaaGreatDoor
open Go.RowKit
open Lib (hid)
variable {P:Program} {n l:Nat}
theorem opIn_round {o:Oper} {a:Act} {w:World} {K:Act→World→Prop} {Q:Exit→Act→World→Prop} (hd:∀ c,o.op≠.defer c) (h:Oper.wpIn Fence.wide n P o a w K Q):Oper.wpIn (Fence.wide.inRound l) n P o a w K Q:=by
 obtain⟨h1,h2⟩:=h;refine⟨h1,?_⟩;rw[Oper.semAt_eq _ _ _ hd]at h2 ⊢;generalize (execOp a.eval o).run P w=r at h2 ⊢;cases r with
 | ok x w'=>cases x <;> exact h2
 | halt x w'=>cases x <;> exact h2
theorem opAtIn_round {ops:Array Oper} {Q:Exit→Act→World→Prop} (hd:∀(i:Nat) o,ops[i]? =some o→∀ c,o.op≠.defer c) {i:Nat} {K K':Act→World→Prop} {a:Act} {w:World} (hK:∀ a w,K a w→K' a w)
 (h:wpOpIn Fence.wide n P ops Q i K a w):wpOpIn (Fence.wide.inRound l) n P ops Q i K' a w:=by
 have h':=wpOpIn_mono hK h;unfold wpOpIn at h' ⊢;cases ho:ops[i]? with
 | none=>simpa[ho]using h'
 | some o=>
   simp only[ho]at h' ⊢;split
   ·rename_i hw
    simp only[hw,if_true]at h';exact opIn_round (hd i o ho) h'
   ·rename_i hw
    simp only[hw]at h';exact h'
theorem anyIn_round {md:Region.Mode} {ops:Array Oper} {Q:Exit→Act→World→Prop} (hd:∀(i:Nat) o,ops[i]? =some o→∀ c,o.op≠.defer c):∀(fuel:Nat) (listed:Array Bool) (a:Act) (w:World),
 wpAnyIn Fence.wide n P md ops Q fuel listed a w→wpAnyIn (Fence.wide.inRound l) n P md ops Q fuel listed a w
 | 0,_,_,_,h=>h
 | fuel+1,listed,a,w,h=>⟨h.1,fun i hi=>opAtIn_round hd (fun a w=>anyIn_round hd fuel _ a w) (h.2 i hi)⟩
theorem noDefer {ops:Array Oper} (h:ops.toList.all (fun o=>match o.op with| .defer _=>false|_=>true)=true):∀(i:Nat) o,ops[i]? =some o→∀ c,o.op≠.defer c:=by
 intro i o ho c hc;have:=List.all_eq_true.1 h o (by have:=Array.mem_of_getElem? ho;simpa using this)
 rw[hc]at this;cases this
theorem regionIn_round {id:Nat} {ops:Array Oper} {Q:Exit→Act→World→Prop} {a:Act} {w:World} (hm:P.follows .mixedOrders=true) (hd:ops.toList.all (fun o=>match o.op with| .defer _=>false|_=>true)=true)
 (h:wpAnyIn Fence.wide n P .any ops Q ops.size (Array.replicate ops.size false) a w.drew):(Code.region id ops true).wpIn (Fence.wide.inRound l) n P Q a w:=
 wpIn_region_any hm (anyIn_round (noDefer hd) _ _ _ _ h)
theorem stepIn_append_own {F:Fence} {n:Nat} {P:Program} (w:World) {ops:Array Oper} {o:Oper} {a:Act} {K:Act→World→Prop} {Q:Exit→Act→World→Prop} {E:Prop}
 (hg:o.guard=none) (s x:Operand) (t:TypeId) (hop:o.op=Op.call { callee:=Callee.builtin Builtin.append,args:=#[s,x],argTypes:=#[t,t] })
 (base:Nat) (e:TypeId) (i:TypeInfo) (z:Value) (size bytes:Nat) (h1:P.underlying t=some (.slice e)) (h2:P.info? e=some i) (h3:i.zero=some z) (h4:i.size=size) (h5:i.bytes=bytes) (h6:z.cells.size=size) (h7:0 < size)
 (v:Value) (k:Nat) (xs:List Value) (hs:a.eval s=v) (hown:w.ownsRow base e size v k xs) (ad:Addr) (m c:Nat) (news:List Value) (hx:a.eval x=.slice (some ad) m c) (hn:news.length=m*size)
 (hc:∀ j u,news[j]? =some u→w.cell? (ad.add j)=some u) (h1c:∀ u∈news,u.oneCell'=true) (b1:k+m≤maxLen) (b2:(k+m)*bytes≤140737488355328) (b3:base≤w.heap.size)
 (hK:∀ v' w',w'.ownsRow base e size v' (k+m) (xs++news)→w.grownBy w' v.ownBlock→K (a.put o.dst v') w'):
 if Region.wanted o (yielded ops a.tmps)=true then Oper.wpIn F n P o a w K Q else E:=by
 have hw:Region.wanted o (yielded ops a.tmps)=true:=by simp[Region.wanted,hg]
 rw[if_pos hw];obtain⟨v',w',hrun,r1,r2,_⟩:=run_append_own (P:=P) w base t o.type e i z size bytes h1 h2 h3 h4 h5 h6 h7 v k xs hown ad m c news hn hc h1c b1 b2 b3;unfold Oper.wpIn;refine⟨?_,?_⟩
 ·simp[Oper.about,hop,resolve,Target.leads,Sem.run_pure]
 ·rw[Oper.semAt_plain F _ _ (by rw[hop];intro c hc';cases hc')]
  simp[execOp,hop,resolve,invoke,builtin,hs,hx,hrun,Result.andThen];exact hK v' w' r1 r2
section
variable {F:Fence} {md:Region.Mode} {ops:Array Oper} {Q:Exit→Act→World→Prop} {St:World→Prop}
theorem put_commR (b:Act) {d d':Tmp} (v v':Value) (h:d≠d'):(b.put (some d') v').put (some d) v=(b.put (some d) v).put (some d') v':=by
 unfold Act.put;simp only;rw[Array.setIfInBounds_comm _ _ (Ne.symm h)]
theorem any_float {m fuel i:Nat} {oi:Oper} {di:Tmp} {vi:Value} {a0:Act} {w0:World} (N:Nat) (c:Nat→Nat) (d:Nat→Tmp) (L:Nat→Array Bool) (C:Act→Nat→Act→World→Prop)
 (hi:ops[i]? =some oi) (ei:oi.dst=some di)
 (hc:∀ t,t < N→ops[c t]? =some ((ops[c t]?).getD oi)∧((ops[c t]?).getD oi).dst=some (d t)∧i≠c t∧di≠d t∧L (t+1)=(L t).setIfInBounds (c t) true∧Region.ready md ops (L t)=[i,c t]∧Region.ready md ops ((L t).setIfInBounds i true)=[c t])
 (hn:Region.ready md ops (L N)=[i])
 (load:∀ t,t≤N→∀(a:Act) (w:World) (K:Act→World→Prop),C a0 t a w→K (a.put oi.dst vi) w→if Region.wanted oi (yielded ops a.tmps)=true then Oper.wpIn F m P oi a w K Q else(∀ f,oi.about P w a.eval=some f→F.fn f)∧K (a.put oi.dst undef) w)
 (step:∀ t,t < N→∀(a:Act) (w:World) (b:Act) (K:Act→World→Prop),C a0 t a w→(b=a∨b=a.put (some di) vi)→(∀ v w',C a0 (t+1) (a.put (some (d t)) v) w'→K (b.put ((ops[c t]?).getD oi).dst v) w')→
   if Region.wanted ((ops[c t]?).getD oi) (yielded ops b.tmps)=true then Oper.wpIn F m P ((ops[c t]?).getD oi) b w K Q else(∀ f,((ops[c t]?).getD oi).about P w b.eval=some f→F.fn f)∧K (b.put ((ops[c t]?).getD oi).dst undef) w)
 (tail:∀ a w,C a0 N a w→wpAnyIn F m P md ops Q fuel ((L N).setIfInBounds i true) (a.put (some di) vi) w)
 (h0:C a0 0 a0 w0):wpAnyIn F m P md ops Q (fuel+N+1) (L 0) a0 w0:=by
 have main:∀ k t,t+k=N→(∀ a w,C a0 t a w→wpAnyIn F m P md ops Q (fuel+k+1) (L t) a w)∧(∀ a w,C a0 t a w→wpAnyIn F m P md ops Q (fuel+k) ((L t).setIfInBounds i true) (a.put (some di) vi) w):=by
  intro k
  induction k with
  | zero=>
    intro t ht;obtain rfl:t=N:=by omega
    refine⟨fun a w h=> ?_,tail⟩;exact wpAnyIn_ready hn (by simp) (AllReadyIn.cons hi (fun K hK=>load t (Nat.le_refl _) a w K h (hK _ _ (by rw[ei];exact tail a w h))) AllReadyIn.nil)
  | succ k ih=>
    intro t ht;obtain⟨c1,c2,c3,c4,c5,c6,c7⟩:=hc t (by omega)
    obtain⟨ih1,ih2⟩:=ih (t+1) (by omega)
    have second:∀ a w,C a0 t a w→wpAnyIn F m P md ops Q (fuel+(k+1)) ((L t).setIfInBounds i true) (a.put (some di) vi) w:=fun a w h=>
     wpAnyIn_ready c7 (by simp) (AllReadyIn.cons c1 (fun K hK=>step t (by omega) a w _ K h (.inr rfl) fun v w' h'=>hK _ _ (by
      rw[c2,Array.setIfInBounds_comm _ _ c3,←c5,put_commR _ _ _ (Ne.symm c4)];exact ih2 _ _ h')) AllReadyIn.nil)
    refine⟨fun a w h=> ?_,second⟩;exact wpAnyIn_ready c6 (by simp) (AllReadyIn.cons hi (fun K hK=>load t (by omega) a w K h (hK _ _ (by rw[ei];exact second a w h)))
     (AllReadyIn.cons c1 (fun K hK=>step t (by omega) a w _ K h (.inl rfl) fun v w' h'=>hK _ _ (by rw[c2,←c5];exact ih1 _ _ h')) AllReadyIn.nil))
 exact(main N 0 (by omega)).1 a0 w0 h0
end
end Go.Proofs.YtagfnpdoooachaaGreatDoor
