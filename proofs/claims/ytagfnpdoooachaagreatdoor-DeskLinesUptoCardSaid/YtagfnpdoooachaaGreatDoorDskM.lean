/- The form "kind". -/
import Derived.Test.YtagfnpdoooachaaGreatDoorDskK
set_option linter.unusedSimpArgs false
set_option linter.unusedVariables false
namespace Go.Proofs.YtagfnpdoooachaaGreatDoor
open Go.RowKit
open Lib (hid)
set_option maxHeartbeats 6400000 in
set_option maxRecDepth 100000 in
theorem form_kind (b o n c:Nat) (x y:ByteArray) (w:World) (hn:1 < n) (h0:w.cell? ⟨b,o,none⟩=some (.string x)) (h1:w.cell? ⟨b,o+1,none⟩=some (.string y)) (hx:x.size≤1000000000) (hy:y.size≤1000000000) (hv:EvV w):
 Calls Tryz.prog 19 #[.slice (some ⟨b,o,none⟩) n c] w fun e w'=>TellR (kindA x y) w e w':=by
 have hbl:b < w.heap.size:=World.block_lt_of_cell? _ _ h0;have HD:=hid (dparse_any y w hy hv);have HV:Hid (∀ W,Below w.heap.size w W→EvV W):=hid fun W hW=>hv.below hW;have HX:Hid (∀ W,Below w.heap.size w W→W.cell? ⟨b,o,none⟩=some (.string x)):=hid fun W hW=>(hW.cell (p:=⟨b,o,none⟩) hbl).trans h0;have i1:(1:Int) < (n:Int):=by omega
 have i1n:1 < n:=hn;clear hv hbl h0;cases hd:decP y with
 | none=>
   have HA:Hid (kindA x y=([],9)):=hid (by unfold kindA;rw[hd])
   go_enter Tryz.func19,Tryz.ntmps19
   go_wp2_with fail
   refine HD.out.mono ?_;clear HD;rintro e w1 ⟨hres,hb1⟩;have HB1:=hid hb1;rcases hres with⟨d,hd2,rfl⟩|⟨_,rfl⟩
   ·rw[hd]at hd2;cases hd2
   have HR:=hid (read_dec_no 0 0 27 (.int .i64 3) w1);clear hd hb1 h1;unfold DecV.v;dsimp only
   go_wp2_with fail
   refine HR.out.mono ?_;clear HR;rintro e w2 ⟨rfl,hb2⟩;have HB2:=hid (HB1.out.trans (hb2.mono HB1.out.size));clear hb2
   go_wp2_with fail
   exact⟨rfl,HB2.out,.inr ⟨by rw[HA.out];decide,by rw[HA.out]⟩⟩
 | some d=>
   have HA:Hid (kindA x y=if langE x≠0 then([],langE x)else if kndE (langS x) d≠0 then([],kndE (langS x) d)else(bts (kndT (langS x) d),0)):=hid (by unfold kindA;rw[hd])
   have HRu:Hid (∀ W,Calls Tryz.prog 25 #[.string x] W fun e w'=>e=.returned (.tuple #[(langS x).val,errD (langE x)])∧Below W.heap.size W w'):=hid fun W=>Rules_any x W (by unfold maxLen;omega)
   have HKd:Hid (∀ W,Below w.heap.size w W→Calls Tryz.prog 23 #[(langS x).val,d.v] W fun e w'=>e=.returned (.tuple #[.string (kndT (langS x) d),errD (kndE (langS x) d)])∧Below W.heap.size W w'):=hid fun W hW=>kind_any (langS x) d W (langS_small x) (HV.out W hW);generalize langS x=sv at *;generalize kndT sv d=kt at *;generalize kndE sv d=ke at *;generalize langE x=le at *;obtain⟨dc,ds⟩:=d;have hsv:sv.val=.agg #[.string sv.z,.string sv.o,.string sv.t,.string sv.f,.string sv.m]:=rfl;have HMs:Hid (∀ W,Calls Tryz.prog 24 #[sv.val,.nilIface] W fun e w'=>e=.returned sv.val∧Below W.heap.size W w'):=hid fun W=>by rw[hsv];exact must_set _ _ _ _ _ W
   have HMn:Hid (∀ W z,Calls Tryz.prog 24 #[sv.val,.iface 27 (.int .i64 z)] W fun e w'=>e=.panicked (thrown z)∧Below W.heap.size W w'):=hid fun W z=>by rw[hsv];exact must_set_no _ _ _ _ _ z W
   have HRd:=hid (fun W=>read_dec dc ds W);generalize sv.val=S at *;clear hsv;unfold DecV.v at *;dsimp only at*
   by_cases hp:le=0
   ·rw[hp,errD_zero]at HRu;have HA1:Hid (kindA x y=if ke≠0 then([],ke)else(bts kt,0)):=hid (by rw[HA.out,if_neg (fun h=>h hp)])
    clear hp HA
    by_cases hq:ke=0
    ·have HA2:Hid (kindA x y=(bts kt,0)):=hid (by rw[HA1.out,if_neg (fun h=>h hq)])
     rw[hq,errD_zero]at HKd;clear hq HA1
     go_enter Tryz.func19,Tryz.ntmps19
     go_wp2_with fail
     refine HD.out.mono ?_;clear HD;rintro e w1 ⟨hres,hb1⟩;have HB1:=hid hb1;rcases hres with⟨d,hd2,rfl⟩|⟨hd2,rfl⟩
     case' inr=>(rw[hd]at hd2;cases hd2)
     rw[hd]at hd2;injection hd2 with hd2;subst hd2;have HR1:=hid (HRd.out w1);clear hd hb1 h1 HRd;dsimp only
     go_wp2_with fail
     refine HR1.out.mono ?_;clear HR1;rintro e w2 ⟨rfl,hb2⟩;obtain⟨W3,eW3⟩:∃ W,W=w2.alloc (.cells #[.int .i64 dc,.int .i64 ds] 44):=⟨_,rfl⟩;have hb3:Below w2.heap.size w2 W3:=by rw[eW3];exact(Below.refl _ _).alloc (Nat.le_refl _) _
     have hk3:Blk W3 w2.heap.size 44 #[.int .i64 dc,.int .i64 ds]:=by rw[eW3];exact Blk.new _ _ _
     have hB2:=HB1.out.trans (hb2.mono HB1.out.size);have hB3:=hB2.trans (hb3.mono hB2.size);have HB3:=hid hB3;have HK3:=hid hk3;have EW3:=hid eW3;have HC:Hid (∀ W,Below W3.heap.size W3 W→W.cell? ⟨b,o,none⟩=some (.string x)∧W.cell? ⟨w2.heap.size,0,none⟩=some (.int .i64 dc)∧W.cell? ⟨w2.heap.size,1,none⟩=some (.int .i64 ds)):=hid fun W hW=>⟨HX.out W (HB3.out.trans (hW.mono HB3.out.size)),((HK3.out.below hW HK3.out.lt).cell 0).trans rfl,((HK3.out.below hW HK3.out.lt).cell 1).trans rfl⟩;have HK4:Hid (∀ W,Below W3.heap.size W3 W→Calls Tryz.prog 23 #[S,.agg #[.int .i64 dc,.int .i64 ds]] W fun e w'=>e=.returned (.tuple #[.string kt,.nilIface])∧Below W.heap.size W w'):=hid fun W hW=>HKd.out W (HB3.out.trans (hW.mono HB3.out.size));clear hb2 hb3 hk3 hB2 hB3 HB1 eW3 HK3 HX HKd
     go_upto_region 2 with fail
     rw[←EW3.out];clear EW3;have i0:(0:Int) < (n:Int):=by omega
     have nz:¬ n=0:=by omega
     have i0n:0 < n:=by omega
     have hS:=HC.out W3.drew (Below.refl _ _).drew
     go_wp2_with fail
     obtain⟨s0,s1,s2⟩:=hS;have HM3:=hid (fun W=>must_str (.string kt) W)
     go_region_held3 (fun W=>W.cell? ⟨b,o,none⟩=some (.string x)∧W.cell? ⟨w2.heap.size,0,none⟩=some (.int .i64 dc)∧W.cell? ⟨w2.heap.size,1,none⟩=some (.int .i64 ds))
      (first|with_reducible exact HC.out _ hB6|with_reducible exact HC.out _ hB5|with_reducible exact HC.out _ hB4|with_reducible exact HC.out _ (Below.refl _ _).drew)
      (first
        | (go_at_call 25
           with_reducible refine(HRu.out _).mono ?_
           rintro e w4 ⟨rfl,hb4⟩;have hB4:Below W3.heap.size W3 w4:=(Below.refl _ _).drew.trans hb4)
        | (go_at_call 24
           with_reducible refine(HMs.out _).mono ?_
           rintro e w5 ⟨rfl,hb5⟩;have hB5:=hB4.trans (hb5.mono hB4.size))
        | (go_at_call 23
           with_reducible refine(HK4.out _ hB5).mono ?_
           rintro e w6 ⟨rfl,hb6⟩;have hB6:=hB5.trans (hb6.mono hB5.size))
        | (go_at_call 22
           with_reducible refine(HM3.out _).mono ?_
           rintro e w7 ⟨rfl,rfl⟩))
     have HB7:=hid (HB3.out.trans (hB6.mono HB3.out.size))
     go_wp2_with fail
     go_ret
     exact⟨HB7.out,.inl ⟨by rw[HA2.out],by rw[HA2.out,str_bts];rfl⟩⟩
    ·have HA2:Hid (kindA x y=([],ke)):=hid (by rw[HA1.out,if_pos hq])
     rw[errD_ne hq]at HKd;clear HA1
     go_enter Tryz.func19,Tryz.ntmps19
     go_wp2_with fail
     refine HD.out.mono ?_;clear HD;rintro e w1 ⟨hres,hb1⟩;have HB1:=hid hb1;rcases hres with⟨d,hd2,rfl⟩|⟨hd2,rfl⟩
     case' inr=>(rw[hd]at hd2;cases hd2)
     rw[hd]at hd2;injection hd2 with hd2;subst hd2;have HR1:=hid (HRd.out w1);clear hd hb1 h1 HRd;dsimp only
     go_wp2_with fail
     refine HR1.out.mono ?_;clear HR1;rintro e w2 ⟨rfl,hb2⟩;obtain⟨W3,eW3⟩:∃ W,W=w2.alloc (.cells #[.int .i64 dc,.int .i64 ds] 44):=⟨_,rfl⟩;have hb3:Below w2.heap.size w2 W3:=by rw[eW3];exact(Below.refl _ _).alloc (Nat.le_refl _) _
     have hk3:Blk W3 w2.heap.size 44 #[.int .i64 dc,.int .i64 ds]:=by rw[eW3];exact Blk.new _ _ _
     have hB2:=HB1.out.trans (hb2.mono HB1.out.size);have hB3:=hB2.trans (hb3.mono hB2.size);have HB3:=hid hB3;have HK3:=hid hk3;have EW3:=hid eW3;have HC:Hid (∀ W,Below W3.heap.size W3 W→W.cell? ⟨b,o,none⟩=some (.string x)∧W.cell? ⟨w2.heap.size,0,none⟩=some (.int .i64 dc)∧W.cell? ⟨w2.heap.size,1,none⟩=some (.int .i64 ds)):=hid fun W hW=>⟨HX.out W (HB3.out.trans (hW.mono HB3.out.size)),((HK3.out.below hW HK3.out.lt).cell 0).trans rfl,((HK3.out.below hW HK3.out.lt).cell 1).trans rfl⟩;have HK4:Hid (∀ W,Below W3.heap.size W3 W→Calls Tryz.prog 23 #[S,.agg #[.int .i64 dc,.int .i64 ds]] W fun e w'=>e=.returned (.tuple #[.string kt,.iface 27 (.int .i64 ke)])∧Below W.heap.size W w'):=hid fun W hW=>HKd.out W (HB3.out.trans (hW.mono HB3.out.size));clear hb2 hb3 hk3 hB2 hB3 HB1 eW3 HK3 HX HKd
     go_upto_region 2 with fail
     rw[←EW3.out];clear EW3;have i0:(0:Int) < (n:Int):=by omega
     have nz:¬ n=0:=by omega
     have i0n:0 < n:=by omega
     have hS:=HC.out W3.drew (Below.refl _ _).drew
     go_wp2_with fail
     refine wp_region_held_drew (S:=fun W=>W.cell? ⟨b,o,none⟩=some (.string x)∧W.cell? ⟨w2.heap.size,0,none⟩=some (.int .i64 dc)∧W.cell? ⟨w2.heap.size,1,none⟩=some (.int .i64 ds)) (by kernel_rfl) hS fun _=> ?_
     refine wpAnyH_take (i:=0) (v:=.slice (some ⟨b,o,none⟩) n c) rfl (by kernel_rfl) (by kernel_rfl) (by kernel_rfl) (fun _ _ _ h=>h) (Or.inl ⟨by rfl,by intro w _;go_simp⟩) hS ?_
     refine wpAnyH_take (i:=1) (v:=.pointer (some ⟨b,o,none⟩)) rfl (by kernel_rfl) (by kernel_rfl) (by kernel_rfl) (fun _ _ _ h=>h) (Or.inl ⟨by rfl,by intro w _;go_simp⟩) hS ?_
     refine wpAnyH_take (i:=2) (v:=.string x) rfl (by kernel_rfl) (by kernel_rfl) (by kernel_rfl) (fun _ _ _ h=>h) (Or.inl ⟨by rfl,by rintro w ⟨s0,s1,s2⟩;go_simp⟩) hS ?_
     refine wpAnyH_take (i:=7) (v:=.agg #[.int .i64 dc,.int .i64 ds]) rfl (by kernel_rfl) (by kernel_rfl) (by kernel_rfl) (fun _ _ _ h=>h) (Or.inl ⟨by rfl,by rintro w ⟨s0,s1,s2⟩;go_simp⟩) hS ?_
     refine wpAnyH_ready (rs:=[3]) (by kernel_rfl) (by simp) ?_
     refine AllReadyH.cons rfl ?_ AllReadyH.nil;intro K3 hK3;refine step_enterD (by rfl) 25 #[.string x] (by go_simp) (HRu.out W3.drew) ?_
     rintro e w4 ⟨rfl,hb4⟩;have hB4:Below W3.heap.size W3 w4:=(Below.refl _ _).drew.trans hb4;refine .inl ⟨_,rfl,?_⟩;have hS4:=HC.out w4 hB4;refine hK3.out _ _ hS4 fun _=> ?_;refine wpAnyH_take (i:=4) (v:=S) rfl (by kernel_rfl) (by kernel_rfl) (by kernel_rfl) (fun _ _ _ h=>h) (Or.inl ⟨by rfl,by intro w _;go_simp⟩) hS4 ?_
     refine wpAnyH_take (i:=5) (v:=.nilIface) rfl (by kernel_rfl) (by kernel_rfl) (by kernel_rfl) (fun _ _ _ h=>h) (Or.inl ⟨by rfl,by intro w _;go_simp⟩) hS4 ?_
     refine wpAnyH_ready (rs:=[6]) (by kernel_rfl) (by simp) ?_
     refine AllReadyH.cons rfl ?_ AllReadyH.nil;intro K6 hK6;refine step_enterD (by rfl) 24 #[S,.nilIface] (by go_simp) (HMs.out w4) ?_
     rintro e w5 ⟨rfl,hb5⟩;have hB5:=hB4.trans (hb5.mono hB4.size);refine .inl ⟨_,rfl,?_⟩;have hS5:=HC.out w5 hB5;refine hK6.out _ _ hS5 fun _=> ?_;refine wpAnyH_ready (rs:=[8]) (by kernel_rfl) (by simp) ?_
     refine AllReadyH.cons rfl ?_ AllReadyH.nil;intro K8 hK8;refine step_enterD (by rfl) 23 #[S,.agg #[.int .i64 dc,.int .i64 ds]] (by go_simp) (HK4.out w5 hB5) ?_
     rintro e w6 ⟨rfl,hb6⟩;have hB6:=hB5.trans (hb6.mono hB5.size);refine .inl ⟨_,rfl,?_⟩;have hS6:=HC.out w6 hB6;refine hK8.out _ _ hS6 fun _=> ?_;refine wpAnyH_take (i:=9) (v:=.string kt) rfl (by kernel_rfl) (by kernel_rfl) (by kernel_rfl) (fun _ _ _ h=>h) (Or.inl ⟨by rfl,by intro w _;go_simp⟩) hS6 ?_
     refine wpAnyH_take (i:=10) (v:=.iface 27 (.int .i64 ke)) rfl (by kernel_rfl) (by kernel_rfl) (by kernel_rfl) (fun _ _ _ h=>h) (Or.inl ⟨by rfl,by intro w _;go_simp⟩) hS6 ?_
     refine wpAnyH_ready (rs:=[11]) (by kernel_rfl) (by simp) ?_
     refine AllReadyH.cons rfl ?_ AllReadyH.nil;intro K11 hK11;refine step_enterD (by rfl) 22 #[.string kt,.iface 27 (.int .i64 ke)] (by go_simp) (must_str_no (.string kt) ke w6) ?_
     rintro e w7 ⟨rfl,rfl⟩;refine .inr ⟨_,rfl,?_⟩;exact⟨rfl,HB3.out.trans (hB6.mono HB3.out.size),.inr ⟨by rw[HA2.out];exact hq,by rw[HA2.out]⟩⟩
   ·have HA2:Hid (kindA x y=([],le)):=hid (by rw[HA.out,if_pos hp])
    rw[errD_ne hp]at HRu;clear HA
    go_enter Tryz.func19,Tryz.ntmps19
    go_wp2_with fail
    refine HD.out.mono ?_;clear HD;rintro e w1 ⟨hres,hb1⟩;have HB1:=hid hb1;rcases hres with⟨d,hd2,rfl⟩|⟨hd2,rfl⟩
    case' inr=>(rw[hd]at hd2;cases hd2)
    rw[hd]at hd2;injection hd2 with hd2;subst hd2;have HR1:=hid (HRd.out w1);clear hd hb1 h1 HRd;dsimp only
    go_wp2_with fail
    refine HR1.out.mono ?_;clear HR1;rintro e w2 ⟨rfl,hb2⟩;obtain⟨W3,eW3⟩:∃ W,W=w2.alloc (.cells #[.int .i64 dc,.int .i64 ds] 44):=⟨_,rfl⟩;have hb3:Below w2.heap.size w2 W3:=by rw[eW3];exact(Below.refl _ _).alloc (Nat.le_refl _) _
    have hk3:Blk W3 w2.heap.size 44 #[.int .i64 dc,.int .i64 ds]:=by rw[eW3];exact Blk.new _ _ _
    have hB2:=HB1.out.trans (hb2.mono HB1.out.size);have hB3:=hB2.trans (hb3.mono hB2.size);have HB3:=hid hB3;have HK3:=hid hk3;have EW3:=hid eW3;have HC:Hid (∀ W,Below W3.heap.size W3 W→W.cell? ⟨b,o,none⟩=some (.string x)∧W.cell? ⟨w2.heap.size,0,none⟩=some (.int .i64 dc)∧W.cell? ⟨w2.heap.size,1,none⟩=some (.int .i64 ds)):=hid fun W hW=>⟨HX.out W (HB3.out.trans (hW.mono HB3.out.size)),((HK3.out.below hW HK3.out.lt).cell 0).trans rfl,((HK3.out.below hW HK3.out.lt).cell 1).trans rfl⟩;have HK4:Hid (∀ W,Below W3.heap.size W3 W→Calls Tryz.prog 23 #[S,.agg #[.int .i64 dc,.int .i64 ds]] W fun e w'=>e=.returned (.tuple #[.string kt,errD ke])∧Below W.heap.size W w'):=hid fun W hW=>HKd.out W (HB3.out.trans (hW.mono HB3.out.size));clear hb2 hb3 hk3 hB2 hB3 HB1 eW3 HK3 HX HKd
    go_upto_region 2 with fail
    rw[←EW3.out];clear EW3;have i0:(0:Int) < (n:Int):=by omega
    have nz:¬ n=0:=by omega
    have i0n:0 < n:=by omega
    have hS:=HC.out W3.drew (Below.refl _ _).drew
    go_wp2_with fail
    refine wp_region_held_drew (S:=fun W=>W.cell? ⟨b,o,none⟩=some (.string x)∧W.cell? ⟨w2.heap.size,0,none⟩=some (.int .i64 dc)∧W.cell? ⟨w2.heap.size,1,none⟩=some (.int .i64 ds)) (by kernel_rfl) hS fun _=> ?_
    refine wpAnyH_take (i:=0) (v:=.slice (some ⟨b,o,none⟩) n c) rfl (by kernel_rfl) (by kernel_rfl) (by kernel_rfl) (fun _ _ _ h=>h) (Or.inl ⟨by rfl,by intro w _;go_simp⟩) hS ?_
    refine wpAnyH_take (i:=1) (v:=.pointer (some ⟨b,o,none⟩)) rfl (by kernel_rfl) (by kernel_rfl) (by kernel_rfl) (fun _ _ _ h=>h) (Or.inl ⟨by rfl,by intro w _;go_simp⟩) hS ?_
    refine wpAnyH_take (i:=2) (v:=.string x) rfl (by kernel_rfl) (by kernel_rfl) (by kernel_rfl) (fun _ _ _ h=>h) (Or.inl ⟨by rfl,by rintro w ⟨s0,s1,s2⟩;go_simp⟩) hS ?_
    refine wpAnyH_take (i:=7) (v:=.agg #[.int .i64 dc,.int .i64 ds]) rfl (by kernel_rfl) (by kernel_rfl) (by kernel_rfl) (fun _ _ _ h=>h) (Or.inl ⟨by rfl,by rintro w ⟨s0,s1,s2⟩;go_simp⟩) hS ?_
    refine wpAnyH_ready (rs:=[3]) (by kernel_rfl) (by simp) ?_
    refine AllReadyH.cons rfl ?_ AllReadyH.nil;intro K3 hK3;refine step_enterD (by rfl) 25 #[.string x] (by go_simp) (HRu.out W3.drew) ?_
    rintro e w4 ⟨rfl,hb4⟩;have hB4:Below W3.heap.size W3 w4:=(Below.refl _ _).drew.trans hb4;refine .inl ⟨_,rfl,?_⟩;have hS4:=HC.out w4 hB4;refine hK3.out _ _ hS4 fun _=> ?_;refine wpAnyH_take (i:=4) (v:=S) rfl (by kernel_rfl) (by kernel_rfl) (by kernel_rfl) (fun _ _ _ h=>h) (Or.inl ⟨by rfl,by intro w _;go_simp⟩) hS4 ?_
    refine wpAnyH_take (i:=5) (v:=.iface 27 (.int .i64 le)) rfl (by kernel_rfl) (by kernel_rfl) (by kernel_rfl) (fun _ _ _ h=>h) (Or.inl ⟨by rfl,by intro w _;go_simp⟩) hS4 ?_
    refine wpAnyH_ready (rs:=[6]) (by kernel_rfl) (by simp) ?_
    refine AllReadyH.cons rfl ?_ AllReadyH.nil;intro K6 hK6;refine step_enterD (by rfl) 24 #[S,.iface 27 (.int .i64 le)] (by go_simp) (HMn.out w4 le) ?_
    rintro e w5 ⟨rfl,hb5⟩;have hB5:=hB4.trans (hb5.mono hB4.size);refine .inr ⟨_,rfl,?_⟩;exact⟨rfl,HB3.out.trans (hB5.mono HB3.out.size),.inr ⟨by rw[HA2.out];exact hp,by rw[HA2.out]⟩⟩
end Go.Proofs.YtagfnpdoooachaaGreatDoor
