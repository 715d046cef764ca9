/- rule.holds: the map literal, the remainder, the ranges. -/
import Derived.Test.YtpfmmbbggcghiaaGreatDoorRuleC
set_option linter.unusedSimpArgs false
set_option linter.unusedVariables false
set_option maxHeartbeats 6400000
set_option maxRecDepth 100000
namespace Go.Proofs.YtpfmmbbggcghiaaGreatDoor
open Go.RowKit Go.Maps
open Lib (hid)
theorem wpList_insert_own {H:Type} {P:Program} (w:World) {ops:Array Oper} {rest:List Oper} {o:Oper} {a:Act} {Q:Exit→Act→World→Prop}
 (hg:o.guard=none) (m x v:Operand) (t:TypeId) (hop:o.op=Op.insert t m x v)
 (k e:TypeId) (K:Keyed P k) (ht:P.underlying t=some (.map k e)) (R:Value→Option (DataW H×List MemPlace)) (b n:Nat) (D:DataW H)
 (hm:a.eval m=.map (some b)) (hown:w.ownsMap P k R b n D) (hn:n < maxLen) (key val:Value) (kl:Lit) (hx:a.eval x=key) (hv:a.eval v=val) (hkey:keyOf P k key=some kl)
 (d:DataW H) (ps:List MemPlace) (hval:R val=some (d,ps))
 (hK:∀ w',w'.ownsMap P k R b (n+1) (D.put kl d)→w.grownBy w' (some b)→wpList P ops Q rest (a.put o.dst undef) w'):
 wpList P ops Q (o::rest) a w:=by
 refine wpList_plain hg fun K' hK'=> ?_;obtain⟨w',hrun,r1,r2⟩:=hown.update K ht hn hkey hval;unfold Oper.wp;simp[execOp,hop,hm,hx,hv,hrun,Result.andThen];exact hK' _ _ (hK w' r1 r2)
theorem blkGrown {w w':World} {g:Nat} {t:TypeId} {cs:Array Value} {row:Option Nat} (h:Blk w g t cs) (hg:w.grownBy w' row) (hne:some g≠row):Blk w' g t cs:=(hg.block g h.lt hne).trans h
theorem lawB:Keyed Tryz.prog 5:=int_keyed Tryz.underlying5
theorem keyB (n:UInt8):keyOf Tryz.prog 5 (.int .u8 n.toNat)=some (.int .u8 n.toNat):=by
 have:=n.toNat_lt;simp[keyOf,mapKey,Tryz.underlying5,Lit.wf,IntKind.min,IntKind.max,IntKind.signed,IntKind.bits];omega
structure OpV.Ok (o:OpV):Prop where
 i:(Lit.int .i64 o.i).wf=true
 v:(Lit.int .i64 o.v).wf=true
 w:(Lit.int .i64 o.w).wf=true
 f:(Lit.int .i64 o.f).wf=true
 t:(Lit.int .i64 o.t).wf=true
def mapO (o:OpV):DataW Unit:=(((((((DataW.map []:DataW Unit)).put (.int .u8 110) (.lit (.int .i64 o.i))).put (.int .u8 105) (.lit (.int .i64 o.i))).put (.int .u8 118) (.lit (.int .i64 o.v))).put (.int .u8 119) (.lit (.int .i64 o.w))).put (.int .u8 102) (.lit (.int .i64 o.f))).put (.int .u8 116) (.lit (.int .i64 o.t))
theorem mapO_at (o:OpV) {c:UInt8} (h:c∈opsR):(mapO o).atKey (.int .u8 c.toNat) (.lit (.int .i64 0))=.lit (.int .i64 (valR o c)):=by
 unfold opsR at h;simp at h;rcases h with h|h|h|h|h|h <;> rw[h] <;> rfl
theorem zero_intB (w:World):(zeroValue 3).run Tryz.prog w=.ok (.int .i64 0) w:=by kernel_rfl
theorem holds1_any (p:Int×Int) (x:Int) (q0:Nat) (w:World) (hq:w.cell? ⟨q0,0,none⟩=some (.int .i64 x)):
 Calls Tryz.prog 220 #[.agg #[.int .i64 p.1,.int .i64 p.2],.pointer (some ⟨q0,0,none⟩)] w fun e w'=>e=.returned (.bool (inR x p))∧Below w.heap.size w w':=by
 obtain⟨a,b⟩:=p;have hR:inR x (a,b)=(decide (a≤x) && decide (x≤b)):=rfl;obtain⟨W1,eW1⟩:∃ W1,W1=w.alloc (.cells #[.int .i64 a,.int .i64 b] 327):=⟨_,rfl⟩;have hb1:Below w.heap.size w W1:=by rw[eW1];exact(Below.refl _ _).alloc (Nat.le_refl _) _
 have m1:Blk W1 w.heap.size 327 #[.int .i64 a,.int .i64 b]:=by rw[eW1];exact Blk.new _ _ _
 have k0:W1.cell? ⟨w.heap.size,0,none⟩=some (.int .i64 a):=(m1.cell 0).trans rfl;have k1:W1.cell? ⟨w.heap.size,1,none⟩=some (.int .i64 b):=(m1.cell 1).trans rfl;have kq:W1.cell? ⟨q0,0,none⟩=some (.int .i64 x):=(hb1.cell (p:=⟨q0,0,none⟩) (cell_lt hq)).trans hq;have HB1:=hid hb1;have HW1:=hid eW1;rw[hR];clear hR hq eW1 m1 hb1;dsimp only
 go_enter Tryz.func220,Tryz.ntmps220
 go_upto_region 1 with fail
 rw[←HW1.out];clear HW1
 by_cases h1:a≤x
 ·have g1:decide (a≤x)=true:=decide_eq_true h1
  go_wp2_with fail
  go_ret
  exact⟨by rw[g1];rfl,HB1.out⟩
 ·have g1:decide (a≤x)=false:=decide_eq_false h1
  go_wp2_with fail
  go_ret
  exact⟨rfl,HB1.out⟩
theorem holds_any (r:Rl) (V:Value) (o:OpV) (lo:Nat) (w:World) (ho:o.Ok) (hop:r.op∈opsR) (hm0:0≤r.mod) (hV:ListOk Enc.pair w lo w.heap.size V r.rng) (hn:r.rng.length≤10000000):
 Calls Tryz.prog 193 #[.agg #[.int .u8 r.op.toNat,.int .i64 r.mod,.bool r.neg,V],.agg #[.int .i64 o.i,.int .i64 o.v,.int .i64 o.w,.int .i64 o.f,.int .i64 o.t]] w fun e w'=>e=.returned (.bool (hold1 o r))∧Below w.heap.size w w':=by
 obtain⟨VA,Vc,rfl,_⟩:=hV.form;obtain⟨r0,r1,r2,r3⟩:=r;dsimp only at hop hm0 hV hn ⊢;have HVl:=hid hV;have HOp:=hid hop;obtain⟨WL,eWL⟩:∃ WL,WL=(w.alloc (.cells #[.int .u8 r0.toNat,.int .i64 r1,.bool r2,.slice VA r3.length Vc] 307)).alloc (.cells #[.int .i64 o.i,.int .i64 o.v,.int .i64 o.w,.int .i64 o.f,.int .i64 o.t] 249):=⟨_,rfl⟩;have hs:WL.heap.size=w.heap.size+2:=by rw[eWL];simp
 have HBl:Hid (Below w.heap.size w WL):=hid (by rw[eWL];exact((Below.refl _ _).alloc (Nat.le_refl _) _).alloc (by simp) _)
 have MR:Hid (Blk WL w.heap.size 307 #[.int .u8 r0.toNat,.int .i64 r1,.bool r2,.slice VA r3.length Vc]):=hid (by rw[eWL];exact(Blk.new _ _ _).alloc _)
 have MO:Hid (Blk WL (w.heap.size+1) 249 #[.int .i64 o.i,.int .i64 o.v,.int .i64 o.w,.int .i64 o.f,.int .i64 o.t]):=hid (by
  rw[eWL];have:=Blk.new (w.alloc (.cells #[.int .u8 r0.toNat,.int .i64 r1,.bool r2,.slice VA r3.length Vc] 307)) 249 #[.int .i64 o.i,.int .i64 o.v,.int .i64 o.w,.int .i64 o.f,.int .i64 o.t];rwa[World.size_alloc]at this)
 have HO0:Hid ((WL.alloc (.map #[] 0)).ownsMap Tryz.prog 5 (plainElem (H:=Unit) Tryz.prog 3) (w.heap.size+2) 0 (.map [])):=hid (by
  have:=World.ownsMap_made (H:=Unit) WL Tryz.prog 5 (plainElem (H:=Unit) Tryz.prog 3);rwa[hs]at this)
 have HWL:=hid eWL;have k00:=(MO.out.alloc (.map #[] 0)).cell 0;have k0:(WL.alloc (.map #[] 0)).cell? ⟨w.heap.size+1,0,none⟩=some (.int .i64 o.i):=k00.trans rfl;have hlen:∀ n:Nat,n < 10→n < maxLen:=fun n hn=>by unfold maxLen;omega
 clear eWL hV hop k00;have hmm:=@run_makeMap Tryz.prog
 go_enter Tryz.func193,Tryz.ntmps193
 go_upto_region 1 with fail
 rw[←HWL.out];clear HWL;have E0:=hid (plainElem_int (H:=Unit) (P:=Tryz.prog) Tryz.underlying3 ho.i);have Ky0:=hid (keyB 110)
 go_wp2_with (refine wpList_insert_own _ rfl _ _ _ 334 rfl 5 3 lawB Tryz.underlying334 (plainElem (H:=Unit) Tryz.prog 3) (w.heap.size+2) 0 _ rfl HO0.out (hlen 0 (by omega)) _ _ _ rfl rfl Ky0.out _ [] E0.out ?_)
 intro w1 hown1 hgrow1;have HB1:Hid (Below w.heap.size w w1):=hid ((HBl.out.alloc (by omega) _).grown hgrow1 (by simp;omega) (fun k hk=>by cases hk;omega))
 have MR1:Hid (Blk w1 w.heap.size 307 #[.int .u8 r0.toNat,.int .i64 r1,.bool r2,.slice VA r3.length Vc]):=hid (blkGrown (MR.out.alloc _) hgrow1 (by simp))
 have MO1:Hid (Blk w1 (w.heap.size+1) 249 #[.int .i64 o.i,.int .i64 o.v,.int .i64 o.w,.int .i64 o.f,.int .i64 o.t]):=hid (blkGrown (MO.out.alloc _) hgrow1 (by simp))
 clear MR MO k0 HO0;have k1:w1.cell? ⟨w.heap.size+1,0,none⟩=some (.int .i64 o.i):=(MO1.out.cell 0).trans rfl;have HO1:=hid hown1;clear hown1 hgrow1;have E1:=hid (plainElem_int (H:=Unit) (P:=Tryz.prog) Tryz.underlying3 ho.i);have Ky1:=hid (keyB 105)
 go_wp2_with (refine wpList_insert_own _ rfl _ _ _ 334 rfl 5 3 lawB Tryz.underlying334 (plainElem (H:=Unit) Tryz.prog 3) (w.heap.size+2) 1 _ rfl HO1.out (hlen 1 (by omega)) _ _ _ rfl rfl Ky1.out _ [] E1.out ?_)
 intro w2 hown2 hgrow2;have HB2:Hid (Below w.heap.size w w2):=hid (HB1.out.grown hgrow2 HB1.out.size (fun k hk=>by cases hk;omega))
 have MR2:Hid (Blk w2 w.heap.size 307 #[.int .u8 r0.toNat,.int .i64 r1,.bool r2,.slice VA r3.length Vc]):=hid (blkGrown MR1.out hgrow2 (by simp))
 have MO2:Hid (Blk w2 (w.heap.size+1) 249 #[.int .i64 o.i,.int .i64 o.v,.int .i64 o.w,.int .i64 o.f,.int .i64 o.t]):=hid (blkGrown MO1.out hgrow2 (by simp))
 clear HB1 MR1 MO1 HO1 k1;have k2:w2.cell? ⟨w.heap.size+1,1,none⟩=some (.int .i64 o.v):=(MO2.out.cell 1).trans rfl;have HO2:=hid hown2;clear hown2 hgrow2;have E2:=hid (plainElem_int (H:=Unit) (P:=Tryz.prog) Tryz.underlying3 ho.v);have Ky2:=hid (keyB 118)
 go_wp2_with (refine wpList_insert_own _ rfl _ _ _ 334 rfl 5 3 lawB Tryz.underlying334 (plainElem (H:=Unit) Tryz.prog 3) (w.heap.size+2) 2 _ rfl HO2.out (hlen 2 (by omega)) _ _ _ rfl rfl Ky2.out _ [] E2.out ?_)
 intro w3 hown3 hgrow3;have HB3:Hid (Below w.heap.size w w3):=hid (HB2.out.grown hgrow3 HB2.out.size (fun k hk=>by cases hk;omega))
 have MR3:Hid (Blk w3 w.heap.size 307 #[.int .u8 r0.toNat,.int .i64 r1,.bool r2,.slice VA r3.length Vc]):=hid (blkGrown MR2.out hgrow3 (by simp))
 have MO3:Hid (Blk w3 (w.heap.size+1) 249 #[.int .i64 o.i,.int .i64 o.v,.int .i64 o.w,.int .i64 o.f,.int .i64 o.t]):=hid (blkGrown MO2.out hgrow3 (by simp))
 clear HB2 MR2 MO2 HO2 k2;have k3:w3.cell? ⟨w.heap.size+1,2,none⟩=some (.int .i64 o.w):=(MO3.out.cell 2).trans rfl;have HO3:=hid hown3;clear hown3 hgrow3;have E3:=hid (plainElem_int (H:=Unit) (P:=Tryz.prog) Tryz.underlying3 ho.w);have Ky3:=hid (keyB 119)
 go_wp2_with (refine wpList_insert_own _ rfl _ _ _ 334 rfl 5 3 lawB Tryz.underlying334 (plainElem (H:=Unit) Tryz.prog 3) (w.heap.size+2) 3 _ rfl HO3.out (hlen 3 (by omega)) _ _ _ rfl rfl Ky3.out _ [] E3.out ?_)
 intro w4 hown4 hgrow4;have HB4:Hid (Below w.heap.size w w4):=hid (HB3.out.grown hgrow4 HB3.out.size (fun k hk=>by cases hk;omega))
 have MR4:Hid (Blk w4 w.heap.size 307 #[.int .u8 r0.toNat,.int .i64 r1,.bool r2,.slice VA r3.length Vc]):=hid (blkGrown MR3.out hgrow4 (by simp))
 have MO4:Hid (Blk w4 (w.heap.size+1) 249 #[.int .i64 o.i,.int .i64 o.v,.int .i64 o.w,.int .i64 o.f,.int .i64 o.t]):=hid (blkGrown MO3.out hgrow4 (by simp))
 clear HB3 MR3 MO3 HO3 k3;have k4:w4.cell? ⟨w.heap.size+1,3,none⟩=some (.int .i64 o.f):=(MO4.out.cell 3).trans rfl;have HO4:=hid hown4;clear hown4 hgrow4;have E4:=hid (plainElem_int (H:=Unit) (P:=Tryz.prog) Tryz.underlying3 ho.f);have Ky4:=hid (keyB 102)
 go_wp2_with (refine wpList_insert_own _ rfl _ _ _ 334 rfl 5 3 lawB Tryz.underlying334 (plainElem (H:=Unit) Tryz.prog 3) (w.heap.size+2) 4 _ rfl HO4.out (hlen 4 (by omega)) _ _ _ rfl rfl Ky4.out _ [] E4.out ?_)
 intro w5 hown5 hgrow5;have HB5:Hid (Below w.heap.size w w5):=hid (HB4.out.grown hgrow5 HB4.out.size (fun k hk=>by cases hk;omega))
 have MR5:Hid (Blk w5 w.heap.size 307 #[.int .u8 r0.toNat,.int .i64 r1,.bool r2,.slice VA r3.length Vc]):=hid (blkGrown MR4.out hgrow5 (by simp))
 have MO5:Hid (Blk w5 (w.heap.size+1) 249 #[.int .i64 o.i,.int .i64 o.v,.int .i64 o.w,.int .i64 o.f,.int .i64 o.t]):=hid (blkGrown MO4.out hgrow5 (by simp))
 clear HB4 MR4 MO4 HO4 k4;have k5:w5.cell? ⟨w.heap.size+1,4,none⟩=some (.int .i64 o.t):=(MO5.out.cell 4).trans rfl;have HO5:=hid hown5;clear hown5 hgrow5;have E5:=hid (plainElem_int (H:=Unit) (P:=Tryz.prog) Tryz.underlying3 ho.t);have Ky5:=hid (keyB 116)
 go_wp2_with (refine wpList_insert_own _ rfl _ _ _ 334 rfl 5 3 lawB Tryz.underlying334 (plainElem (H:=Unit) Tryz.prog 3) (w.heap.size+2) 5 _ rfl HO5.out (hlen 5 (by omega)) _ _ _ rfl rfl Ky5.out _ [] E5.out ?_)
 intro w6 hown6 hgrow6;have HB6:Hid (Below w.heap.size w w6):=hid (HB5.out.grown hgrow6 HB5.out.size (fun k hk=>by cases hk;omega))
 have MR6:Hid (Blk w6 w.heap.size 307 #[.int .u8 r0.toNat,.int .i64 r1,.bool r2,.slice VA r3.length Vc]):=hid (blkGrown MR5.out hgrow6 (by simp))
 have MO6:Hid (Blk w6 (w.heap.size+1) 249 #[.int .i64 o.i,.int .i64 o.v,.int .i64 o.w,.int .i64 o.f,.int .i64 o.t]):=hid (blkGrown MO5.out hgrow6 (by simp))
 clear HB5 MR5 MO5 HO5 k5;have HO6:=hid hown6;clear hown6 hgrow6;have k6:w6.cell? ⟨w.heap.size,0,none⟩=some (.int .u8 r0.toNat):=(MR6.out.cell 0).trans rfl;have Kr:=hid (keyB r0);have HAt:=hid (mapO_at o HOp.out)
 go_wp2_with (at_lookup;refine wpList_lookup_own_int _ rfl _ _ 334 rfl 5 3 .i64 lawB Tryz.underlying334 Tryz.underlying3 (zero_intB _) (w.heap.size+2) 6 _ rfl HO6.out _ _ rfl Kr.out ?_)
 intro c hat hwc;obtain rfl:c=valR o r0:=by
  have h:=hat.symm.trans HAt.out;injection h with h;injection h
 clear hat hwc HAt Kr HO6 k6;have k1:(w6.alloc (.cells #[.int .i64 (valR o r0)] 3)).cell? ⟨w.heap.size,1,none⟩=some (.int .i64 r1):=((MR6.out.alloc _).cell 1).trans rfl;have MR7:=hid (MR6.out.alloc (.cells #[.int .i64 (valR o r0)] 3));have MO7:=hid (MO6.out.alloc (.cells #[.int .i64 (valR o r0)] 3));have MX7:=hid (Blk.new w6 3 #[.int .i64 (valR o r0)]);have HB7:=hid (HB6.out.alloc HB6.out.size (.cells #[.int .i64 (valR o r0)] 3));have hs6:=HB6.out.size;have hs6':=MO6.out.lt;clear MR6 MO6 HB6;obtain⟨W7,eW7⟩:∃ W7,W7=w6.alloc (.cells #[.int .i64 (valR o r0)] 3):=⟨_,rfl⟩;obtain⟨Q0,eQ0⟩:∃ Q0,Q0=w6.heap.size:=⟨_,rfl⟩;have hr0:=r0.toNat_lt
 go_upto_if 26 with fail
 rw[←eW7]at MR7 MO7 MX7 HB7 k1 ⊢;rw[←eQ0]at MX7 hs6 hs6' ⊢;clear eW7 eQ0;have kx:W7.cell? ⟨Q0,0,none⟩=some (.int .i64 (valR o r0)):=(MX7.out.cell 0).trans rfl;have fx:=MX7.out.frozen 0;obtain⟨Z,hZ⟩:∃ Z,Z=(r1 != 0):=⟨_,rfl⟩;rw[←hZ];have HX:Hid (xR o ⟨r0,r1,r2,r3⟩=if r1=0 then valR o r0 else Int.tmod (valR o r0) r1):=hid rfl
 go_cut []from 31 (fun wx=>Below w.heap.size w wx∧Blk wx w.heap.size 307 #[.int .u8 r0.toNat,.int .i64 r1,.bool r2,.slice VA r3.length Vc]∧Blk wx (w.heap.size+1) 249 #[.int .i64 o.i,.int .i64 o.v,.int .i64 o.w,.int .i64 o.f,.int .i64 o.t]∧Blk wx Q0 3 #[.int .i64 (xR o ⟨r0,r1,r2,r3⟩)])
 case first=>
  by_cases h0:r1=0
  ·obtain rfl:Z=false:=by rw[hZ];simp[h0]
   rw[if_pos h0]at HX;clear h0 hZ
   go_wp2_with fail
   go_meet
   case rel=>exact⟨HB7.out,MR7.out,MO7.out,by rw[HX.out];exact MX7.out⟩
  ·obtain rfl:Z=true:=by rw[hZ];simp[h0]
   rw[if_neg h0]at HX;have hz:(r1 == 0)=false:=by rw[beq_eq_false_iff_ne];exact h0
   clear hZ
   go_wp2_with fail
   go_meet
   case rel=>
    refine⟨HB7.out.setCell (by show w.heap.size≤Q0;omega) _,MR7.out.far (by show w.heap.size≠Q0;omega) _,MO7.out.far (by show w.heap.size+1≠Q0;omega) _,?_⟩
    rw[HX.out];exact MX7.out.set_ 0 _
 case rest=>
  obtain⟨hbc,mrc,moc,mxc⟩:=hcut;have HBc:=hid hbc;have MRc:=hid mrc;have MOc:=hid moc;have HE:Hid (hold1 o ⟨r0,r1,r2,r3⟩=((r3.any (inR (xR o ⟨r0,r1,r2,r3⟩)) && (r0 != 110 || o.t == 0)) != r2)):=hid rfl;generalize xR o ⟨r0,r1,r2,r3⟩=x at *;have HC:=hid (containsH_any r3 (.slice VA r3.length Vc) Q0 (inR x) lo wc ((HVl.out.below Enc.pair_laws hbc).mono Enc.pair_laws (Nat.le_refl _) hbc.size) (by omega) (hid fun p _ W hW=>holds1_any p x Q0 W ((hW.cell (p:=⟨Q0,0,none⟩) mxc.lt).trans ((mxc.cell 0).trans rfl))))
  have c3:wc.cell? ⟨w.heap.size,3,none⟩=some (.slice VA r3.length Vc):=(mrc.cell 3).trans rfl;generalize r3.any (inR x)=X at *;clear HX MX7 MO7 MR7 HB7 kx fx k1 hbc mrc moc mxc HVl
  go_wp2_with fail
  refine HC.out.mono ?_;clear HC;rintro e wd ⟨rfl,hbd⟩;have HBd:=hid (HBc.out.trans (hbd.mono HBc.out.size));have d0:wd.cell? ⟨w.heap.size,0,none⟩=some (.int .u8 r0.toNat):=((MRc.out.below hbd MRc.out.lt).cell 0).trans rfl;have d2:wd.cell? ⟨w.heap.size,2,none⟩=some (.bool r2):=((MRc.out.below hbd MRc.out.lt).cell 2).trans rfl;have d4:wd.cell? ⟨w.heap.size+1,4,none⟩=some (.int .i64 o.t):=((MOc.out.below hbd MOc.out.lt).cell 4).trans rfl;clear hbd c3 HBc MRc MOc;cases X with
  | false=>
    have HE2:Hid (hold1 o ⟨r0,r1,r2,r3⟩=r2):=hid (by rw[HE.out,Bool.false_and];cases r2 <;> rfl)
    clear HE
    go_wp2_with fail
    go_ret
    exact⟨by rw[HE2.out];rfl,HBd.out⟩
  | true=>
    by_cases hn:r0=110
    ·have hn':(((r0.toNat:Nat):Int) != 110)=false:=by rw[hn];rfl
     have HE2:Hid (hold1 o ⟨r0,r1,r2,r3⟩=((o.t == 0) != r2)):=hid (by rw[HE.out,hn];simp)
     clear HE hn
     go_wp2_with fail
     go_ret
     exact⟨by rw[HE2.out];rfl,HBd.out⟩
    ·have hn':(((r0.toNat:Nat):Int) != 110)=true:=by
      rw[bne_iff_ne];intro h;exact hn (UInt8.toNat_inj.1 (by show r0.toNat=110;omega))
     have hn2:(r0 != 110)=true:=by rw[bne_iff_ne];exact hn
     have HE2:Hid (hold1 o ⟨r0,r1,r2,r3⟩= !r2):=hid (by rw[HE.out,hn2];cases r2 <;> rfl)
     clear hn2;clear HE hn
     go_wp2_with fail
     go_ret
     exact⟨by rw[HE2.out];rfl,HBd.out⟩
theorem notHolds_any (r:Rl) (V:Value) (o:OpV) (q0 lo:Nat) (w:World) (ho:o.Ok) (hop:r.op∈opsR) (hm0:0≤r.mod) (hV:ListOk Enc.pair w lo w.heap.size V r.rng) (hn:r.rng.length≤10000000) (hq:Blk w q0 249 #[.int .i64 o.i,.int .i64 o.v,.int .i64 o.w,.int .i64 o.f,.int .i64 o.t]):
 Calls Tryz.prog 192 #[.agg #[.int .u8 r.op.toNat,.int .i64 r.mod,.bool r.neg,V],.pointer (some ⟨q0,0,none⟩)] w fun e w'=>e=.returned (.bool (!hold1 o r))∧Below w.heap.size w w':=by
 obtain⟨VA,Vc,rfl,_⟩:=hV.form;obtain⟨W1,eW1⟩:∃ W1,W1=w.alloc (.cells #[.int .u8 r.op.toNat,.int .i64 r.mod,.bool r.neg,.slice VA r.rng.length Vc] 307):=⟨_,rfl⟩;have hb1:Below w.heap.size w W1:=by rw[eW1];exact(Below.refl _ _).alloc (Nat.le_refl _) _
 have m1:Blk W1 w.heap.size 307 #[.int .u8 r.op.toNat,.int .i64 r.mod,.bool r.neg,.slice VA r.rng.length Vc]:=by rw[eW1];exact Blk.new _ _ _
 have HC:=hid (holds_any r _ o lo W1 ho hop hm0 ((hV.below Enc.pair_laws hb1).mono Enc.pair_laws (Nat.le_refl _) hb1.size) hn);have mq:Blk W1 q0 249 #[.int .i64 o.i,.int .i64 o.v,.int .i64 o.w,.int .i64 o.f,.int .i64 o.t]:=hq.below hb1 hq.lt;have a0:W1.cell? ⟨w.heap.size,0,none⟩=some (.int .u8 r.op.toNat):=(m1.cell 0).trans rfl;have a1:W1.cell? ⟨w.heap.size,1,none⟩=some (.int .i64 r.mod):=(m1.cell 1).trans rfl;have a2:W1.cell? ⟨w.heap.size,2,none⟩=some (.bool r.neg):=(m1.cell 2).trans rfl;have a3:W1.cell? ⟨w.heap.size,3,none⟩=some (.slice VA r.rng.length Vc):=(m1.cell 3).trans rfl;have b0:W1.cell? ⟨q0,0,none⟩=some (.int .i64 o.i):=(mq.cell 0).trans rfl;have b1:W1.cell? ⟨q0,1,none⟩=some (.int .i64 o.v):=(mq.cell 1).trans rfl;have b2:W1.cell? ⟨q0,2,none⟩=some (.int .i64 o.w):=(mq.cell 2).trans rfl;have b3:W1.cell? ⟨q0,3,none⟩=some (.int .i64 o.f):=(mq.cell 3).trans rfl;have b4:W1.cell? ⟨q0,4,none⟩=some (.int .i64 o.t):=(mq.cell 4).trans rfl;have HB1:=hid hb1;have HW1:=hid eW1;generalize hold1 o r=X at *;clear hV hq eW1 hb1 m1 mq
 go_enter Tryz.func192,Tryz.ntmps192
 go_upto_region 1 with fail
 rw[←HW1.out];clear HW1
 go_wp2_with fail
 refine HC.out.mono ?_;clear HC;rintro e w2 ⟨rfl,hb2⟩;have HB2:=hid (HB1.out.trans (hb2.mono HB1.out.size));clear hb2
 go_wp2_with fail
 go_ret
 exact⟨rfl,HB2.out⟩
structure RlAsk (r:Rl):Prop where
 op:r.op∈opsR
 mod:0≤r.mod
 len:r.rng.length≤10000000
theorem holdPart_any (p:List Rl) (V:Value) (o:OpV) (q0 lo:Nat) (w:World) (ho:o.Ok) (hp:∀ r∈p,RlAsk r) (hV:ListOk Enc.rl w lo w.heap.size V p) (hn:p.length≤10000000) (hq:Blk w q0 249 #[.int .i64 o.i,.int .i64 o.v,.int .i64 o.w,.int .i64 o.f,.int .i64 o.t]):
 Calls Tryz.prog 190 #[V,.pointer (some ⟨q0,0,none⟩)] w fun e w'=>e=.returned (.bool (holdP o p))∧Below w.heap.size w w':=by
 have HC:=hid (containsR_any p V q0 (fun r=> !hold1 o r) lo w hV (by omega) (hid fun x hx W hW V' hV'=>notHolds_any x V' o q0 lo W ho (hp x hx).op (hp x hx).mod hV' (hp x hx).len (hq.below hW hq.lt)))
 have HE:Hid (holdP o p= !(p.any fun r=> !hold1 o r)):=hid rfl;generalize (p.any fun r=> !hold1 o r)=X at *;clear hp hV hq
 go_enter Tryz.func190,Tryz.ntmps190
 go_wp2_with fail
 refine HC.out.mono ?_;clear HC;rintro e w2 ⟨rfl,hb2⟩;have HB2:=hid hb2;clear hb2
 go_wp2_with fail
 go_ret
 exact⟨by rw[HE.out];rfl,HB2.out⟩
end Go.Proofs.YtpfmmbbggcghiaaGreatDoor
