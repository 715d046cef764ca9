/- desk.line at the forms kind, say. -/
import Derived.Test.YtagfnpdoooachaaGreatDoorDskL
set_option linter.unusedSimpArgs false
set_option linter.unusedVariables false
set_option maxHeartbeats 6400000
set_option maxRecDepth 100000
namespace Go.Proofs.YtagfnpdoooachaaGreatDoor
open Go.RowKit
open Lib (hid)
attribute [local go_sem] run_storeF
theorem lineA_kind {s:ByteArray} (h:headB s=[107,105,110,100]):lineA s=if(splitS s spB).length=3 then told (kindA (at_ (splitS s spB) 1) (at_ (splitS s spB) 2))else errName 9:=by
 unfold lineA;rw[if_pos h]
theorem deskLine_kind (s:ByteArray) (w:World) (hs:s.size≤1000000000) (hv:EvV w) (hA:AheadV w) (hh:headB s=[107,105,110,100]):
 Calls Tryz.prog 9 #[.string s] w fun e w'=>e=.returned (.string (str (lineA s)))∧Below w.heap.size w w':=by
 have hmf:∀(fn:Fn) (first cap:Array Value) (w:World),(Instr.makeFunc fn first cap).run Tryz.prog w=.ok (.func fn first cap) w:=fun _ _ _ _=>rfl
 have HL:=hid (lineA_kind hh);have HV:Hid (∀ W,Below w.heap.size w W→EvV W∧AheadV W):=hid fun W hW=>⟨hv.below hW,hA.below hW⟩;obtain⟨W1,eW1⟩:∃ W,W=w.alloc (.cells #[.string ⟨#[]⟩] 9):=⟨_,rfl⟩;have hb1:Below w.heap.size w W1:=by rw[eW1];exact(Below.refl _ _).alloc (Nat.le_refl _) _
 have hk1:Blk W1 w.heap.size 9 #[.string ⟨#[]⟩]:=by rw[eW1];exact Blk.new _ _ _
 have HB1:=hid hb1;have HK1:=hid hk1;have EW1:=hid eW1;have HC:Hid (∃ a x,Calls Tryz.prog 12 #[.string s,.string ⟨#[32]⟩] W1 fun e w'=>e=.returned (.tuple #[.string ⟨#[107,105,110,100]⟩,.string a,.bool x])∧Below W1.heap.size W1 w'):=hid ⟨_,_,by
  have h:=cutB_any s 32 W1 (by omega) (HV.out W1 hb1).1.rv
  rw[show(Lib.cut (bts s) [32]).1=[107,105,110,100]from hh]at h;exact h⟩
 obtain⟨ra,rx,hc⟩:=HC.out;have HC1:=hid hc;have HSp:Hid (∀ W,Below w.heap.size w W→Calls Tryz.prog 14 #[.string s,.string ⟨#[32]⟩,.int .i64 (-1)] W fun e w'=>PcsAt W w' (splitS s spB) e):=hid fun W hW=>splitNall_any s 32 W hs (HV.out W hW).1.rv;have HSz:Hid (∀ x∈(splitS s spB),x.size≤s.size):=hid fun x hx=>pieces_size _ _ _ _ x hx;have HZ:Hid (∀ W,(zeroValue 38).run Tryz.prog W=.ok (.agg #[.int .i64 0,.nilFunc]) W):=hid zero_form;have HFo:Hid (formsF ⟨#[107,105,110,100]⟩=some (.agg #[.int .i64 3,.func (.func 19) #[] #[]])):=hid (by kernel_rfl)
 generalize lineA s=la at *;generalize splitS s spB=l at *;clear hb1 hk1 eW1 hc HC hv hA hh
 go_enter_defers Tryz.func9,Tryz.ntmps9
 go_upto_region 2 with fail
 rw[←EW1.out];clear EW1
 go_wp2_with fail
 refine HC1.out.mono ?_;clear HC1;rintro e w2 ⟨rfl,hb2⟩;have HB2:=hid (HB1.out.trans (hb2.mono HB1.out.size));have HK2:=hid (HK1.out.below hb2 HK1.out.lt);have HFm:=hid (forms_any w2);clear hb2 HB1 HK1
 go_wp2_with fail
 refine HFm.out.mono ?_;clear HFm;rintro e w3 ⟨bm,rfl,hbm,hown,hb3⟩;have hlk:=hown.look_ok (t:=34) (e:=38) Tryz.underlying34 (HZ.out w3) (k:=⟨#[107,105,110,100]⟩) (by decide)
 rw[HFo.out]at hlk;obtain⟨W4,eW4⟩:∃ W,W=w3.alloc (.cells #[.int .i64 3,.func (.func 19) #[] #[]] 38):=⟨_,rfl⟩;have hB3:=HB2.out.trans (hb3.mono HB2.out.size);have hb4:Below w3.heap.size w3 W4:=by rw[eW4];exact(Below.refl _ _).alloc (Nat.le_refl _) _
 have hB4:=hB3.trans (hb4.mono hB3.size);have hk4:=(HK2.out.below hb3 HK2.out.lt).below hb4 (HK2.out.below hb3 HK2.out.lt).lt;have hf4:Blk W4 w3.heap.size 38 #[.int .i64 3,.func (.func 19) #[] #[]]:=by rw[eW4];exact Blk.new _ _ _
 have hBD:w.heap.size < w3.heap.size:=(HK2.out.below hb3 HK2.out.lt).lt;have HSp4:=hid (HSp.out W4 hB4);have HB4:=hid hB4;have HK4:=hid hk4;have HF4:=hid hf4;have EW4:=hid eW4;have d0:=(hf4.cell 0).trans (show _=some (.int .i64 3)from rfl);clear hbm hown hb3 hB3 hb4 hB4 hk4 hf4 eW4 HB2 HK2 HZ HFo HSp
 go_upto_region 5 with fail
 rw[←EW4.out];clear EW4 hlk
 go_wp2_with fail
 refine HSp4.out.mono ?_;clear HSp4 d0;rintro e w5 ⟨c,rfl,hlc,hz5,hr5,hb5⟩;have hB5:=HB4.out.trans (hb5.mono HB4.out.size);have HB5:=hid hB5;have hk5:=HK4.out.below hb5 HK4.out.lt;have hf5:=HF4.out.below hb5 HF4.out.lt;have HK5:=hid hk5;have HF5:=hid hf5;have HR5:=hid hr5;have d0:=(hf5.cell 0).trans (show _=some (.int .i64 3)from rfl);have d1:=(hf5.cell 1).trans (show _=some (.func (.func 19) #[] #[])from rfl);have k0:=(hk5.cell 0).trans (show _=some (.string ⟨#[]⟩)from rfl);have g0:=hk5.frozen 0;clear hb5 hB5 hk5 hf5 hr5 hz5 HB4 HK4 HF4;generalize W4.heap.size=rb at*
 by_cases hlen:l.length=3
 ·have HLa:Hid (la=told (kindA (at_ l 1) (at_ l 2))):=hid (by rw[HL.out,if_pos hlen])
  have z1:(at_ l 1).size≤1000000000:=by rw[at_get (by omega)];exact Nat.le_trans (HSz.out _ (List.getElem_mem _)) hs
  have z2:(at_ l 2).size≤1000000000:=by rw[at_get (by omega)];exact Nat.le_trans (HSz.out _ (List.getElem_mem _)) hs
  have hb6:Below w5.heap.size w5 w5.drew:=(Below.refl _ _).drew;have hr6:=HR5.out.below hb6 HR5.out.lt;have q1:w5.drew.cell? ⟨rb,1,none⟩=some (.string (at_ l 1)):=(hr6.cell 1).trans (by rw[at_get (by omega)];exact cellsOf_at (by omega))
  have q2:w5.drew.cell? ⟨rb,1+1,none⟩=some (.string (at_ l 2)):=(hr6.cell 2).trans (by rw[at_get (by omega)];exact cellsOf_at (by omega))
  have HFr:Hid (Calls Tryz.prog 19 #[.slice (some ⟨rb,1,none⟩) 2 (c - 1)] w5.drew fun e w'=>TellR (kindA (at_ l 1) (at_ l 2)) w5.drew e w'):=hid (form_kind rb 1 2 (c - 1) (at_ l 1) (at_ l 2) w5.drew (by decide) q1 q2 z1 z2 (HV.out w5.drew HB5.out.drew).1)
  have HK6:Hid (∀ W,Below w5.heap.size w5 W→Blk W w.heap.size 9 #[.string ⟨#[]⟩]):=hid fun W hW=>HK5.out.below hW HK5.out.lt;have HD6:Hid (∀ W,Below w5.heap.size w5 W→W.cell? ⟨w3.heap.size,1,none⟩=some (.func (.func 19) #[] #[])):=hid fun W hW=>((HF5.out.below hW HF5.out.lt).cell 1).trans rfl;have HD7:Hid (∀ W v,Below w5.heap.size w5 W→(W.setCell ⟨w.heap.size,0,none⟩ v).cell? ⟨w3.heap.size,1,none⟩=some (.func (.func 19) #[] #[])):=hid fun W v hW=>(World.cell?_setCell_far W ⟨w.heap.size,0,none⟩ ⟨w3.heap.size,1,none⟩ v (by show w.heap.size≠w3.heap.size;omega)).trans (HD6.out W hW)
  generalize kindA (at_ l 1) (at_ l 2)=rt at *;have hc1:¬ c=1:=by omega
  have hc2:1≤c:=by omega
  have hcK:3≤c:=by omega
  rw[hlen];clear z1 q1 hr6 hb6 HL HSz HR5 HF5 hs z2 q2
  by_cases h0:rt.2=0
  ·have HT:Hid (la=rt.1):=hid (by rw[HLa.out];unfold told;rw[if_pos h0])
   have HFy:Hid (Calls Tryz.prog 19 #[.slice (some ⟨rb,1,none⟩) 2 (c - 1)] w5.drew fun e w'=>e=.returned (.string (str rt.1))∧Below w5.heap.size w5 w'):=hid (HFr.out.mono (by
    rintro e w' ⟨hb,⟨_,rfl⟩|⟨hn,_⟩⟩
    ·exact⟨rfl,(Below.refl _ _).drew.trans hb⟩
    ·exact absurd h0 hn))
   clear HFr HLa hlen hlc h0
   go_wp2_with fail
   go_region_held3 (fun W=>W.cell? ⟨w3.heap.size,1,none⟩=some (.func (.func 19) #[] #[]))
    (first|with_reducible exact HD7.out _ _ hb7|with_reducible exact HD6.out _ hb7|with_reducible exact HD6.out _ (Below.refl _ _).drew)
    (first
      | (go_at_call 19
         with_reducible refine HFy.out.mono ?_
         rintro e w7 ⟨rfl,hb7⟩;have hk7:=HK6.out w7 hb7;have m0:=(hk7.cell 0).trans (show _=some (.string ⟨#[]⟩)from rfl);have m1:=hk7.frozen 0))
   have HX:Hid (Below w.heap.size w (w7.setCell ⟨w.heap.size,0,none⟩ (.string (str rt.1)))∧Blk (w7.setCell ⟨w.heap.size,0,none⟩ (.string (str rt.1))) w.heap.size 9 #[.string (str rt.1)]):=hid ⟨(HB5.out.trans (hb7.mono HB5.out.size)).setCell (p:=⟨w.heap.size,0,none⟩) (Nat.le_refl _) _,hk7.set_ 0 _⟩;clear hb7 hk7
   go_wp2_with fail
   exact line_told w.heap.size _ _ (str rt.1) _ rfl HX.out.2 ⟨by rw[HT.out],HX.out.1⟩
  ·have HT:Hid (la=errName rt.2):=hid (by rw[HLa.out];unfold told;rw[if_neg h0])
   have HFy:Hid (Calls Tryz.prog 19 #[.slice (some ⟨rb,1,none⟩) 2 (c - 1)] w5.drew fun e w'=>e=.panicked (thrown rt.2)∧Below w5.heap.size w5 w'):=hid (HFr.out.mono (by
    rintro e w' ⟨hb,⟨hn,_⟩|⟨_,rfl⟩⟩
    ·exact absurd hn h0
    ·exact⟨rfl,(Below.refl _ _).drew.trans hb⟩))
   clear HFr HLa hlen hlc h0
   go_wp2_with fail
   have hS:=HD6.out w5.drew (Below.refl _ _).drew;refine wp_region_held_drew (S:=fun W=>W.cell? ⟨w3.heap.size,1,none⟩=some (.func (.func 19) #[] #[])) (by kernel_rfl) hS fun _=> ?_
   refine wpAnyH_take (i:=0) (v:=.pointer (some ⟨w3.heap.size,1,none⟩)) rfl (by kernel_rfl) (by kernel_rfl) (by kernel_rfl) (fun c a w h=>line_slot 44 _ (by decide) h) (Or.inl ⟨by rfl,by intro w _;go_simp⟩) hS ?_
   refine wpAnyH_take (i:=1) (v:=.func (.func 19) #[] #[]) rfl (by kernel_rfl) (by kernel_rfl) (by kernel_rfl) (fun c a w h=>line_slot 45 _ (by decide) h) (Or.inl ⟨by rfl,by intro w s0;go_simp⟩) hS ?_
   refine wpAnyH_take (i:=2) (v:=.slice (some ⟨rb,0,none⟩) 3 c) rfl (by kernel_rfl) (by kernel_rfl) (by kernel_rfl) (fun c a w h=>line_slot 46 _ (by decide) h) (Or.inl ⟨by rfl,by intro w _;go_simp⟩) hS ?_
   refine wpAnyH_take (i:=3) (v:=.slice (some ⟨rb,1,none⟩) 2 (c - 1)) rfl (by kernel_rfl) (by kernel_rfl) (by kernel_rfl) (fun c a w h=>line_slot 47 _ (by decide) h) (Or.inl ⟨by rfl,by intro w _;go_simp⟩) hS ?_
   refine wpAnyH_ready (rs:=[4]) (by kernel_rfl) (by simp) ?_
   refine AllReadyH.cons rfl ?_ AllReadyH.nil;intro K4 hK4;refine step_enterD (by rfl) 19 #[.slice (some ⟨rb,1,none⟩) 2 (c - 1)] (by go_simp) HFy.out ?_
   rintro e w7 ⟨rfl,hb7⟩;refine .inr ⟨_,rfl,?_⟩;exact line_thrown w.heap.size rt.2 _ _ (.string ⟨#[]⟩) w7 rfl (HK6.out w7 hb7) fun W hW=>⟨by rw[HT.out],(HB5.out.trans (hb7.mono HB5.out.size)).trans hW⟩
 ·have HLa:Hid (la=errName 9):=hid (by rw[HL.out,if_neg hlen])
  have hl1:¬(l.length:Int)=3:=by omega
  have hl2:((l.length:Int) == 3)=false:=beq_eq_false_iff_ne.2 hl1;have hl3:((l.length:Int) != 3)=true:=by rw[bne,hl2];rfl
  have HE:=hid (errText_any 9 w5);clear HL HSz HR5 HF5 hlc hs
  go_wp2_with fail
  refine HE.out.mono ?_;clear HE;rintro e w6 ⟨rfl,rfl⟩;have HX:Hid (Below w.heap.size w (w6.setCell ⟨w.heap.size,0,none⟩ (.string (str (errName 9))))∧Blk (w6.setCell ⟨w.heap.size,0,none⟩ (.string (str (errName 9)))) w.heap.size 9 #[.string (str (errName 9))]):=hid ⟨HB5.out.setCell (p:=⟨w.heap.size,0,none⟩) (Nat.le_refl _) _,HK5.out.set_ 0 _⟩
  go_wp2_with fail
  exact line_told w.heap.size _ _ (str (errName 9)) _ rfl HX.out.2 ⟨by rw[HLa.out],HX.out.1⟩
theorem lineA_say {s:ByteArray} (h:headB s=[115,97,121]):lineA s=if(say3 s).length=3 then told (sayA (at_ (say3 s) 1) (at_ (say3 s) 2))else errName 9:=by
 unfold lineA;rw[if_neg (by rw[h];decide),if_neg (by rw[h];decide),if_neg (by rw[h];decide),if_neg (by rw[h];decide),if_neg (by rw[h];decide),if_pos h]
theorem deskLine_say (s:ByteArray) (w:World) (hs:s.size≤1000000000) (hv:EvV w) (hA:AheadV w) (hh:headB s=[115,97,121]):
 Calls Tryz.prog 9 #[.string s] w fun e w'=>e=.returned (.string (str (lineA s)))∧Below w.heap.size w w':=by
 have hmf:∀(fn:Fn) (first cap:Array Value) (w:World),(Instr.makeFunc fn first cap).run Tryz.prog w=.ok (.func fn first cap) w:=fun _ _ _ _=>rfl
 have HL:=hid (lineA_say hh);have HV:Hid (∀ W,Below w.heap.size w W→EvV W∧AheadV W):=hid fun W hW=>⟨hv.below hW,hA.below hW⟩;obtain⟨W1,eW1⟩:∃ W,W=w.alloc (.cells #[.string ⟨#[]⟩] 9):=⟨_,rfl⟩;have hb1:Below w.heap.size w W1:=by rw[eW1];exact(Below.refl _ _).alloc (Nat.le_refl _) _
 have hk1:Blk W1 w.heap.size 9 #[.string ⟨#[]⟩]:=by rw[eW1];exact Blk.new _ _ _
 have HB1:=hid hb1;have HK1:=hid hk1;have EW1:=hid eW1;have HC:Hid (∃ a x,Calls Tryz.prog 12 #[.string s,.string ⟨#[32]⟩] W1 fun e w'=>e=.returned (.tuple #[.string ⟨#[115,97,121]⟩,.string a,.bool x])∧Below W1.heap.size W1 w'):=hid ⟨_,_,by
  have h:=cutB_any s 32 W1 (by omega) (HV.out W1 hb1).1.rv
  rw[show(Lib.cut (bts s) [32]).1=[115,97,121]from hh]at h;exact h⟩
 obtain⟨ra,rx,hc⟩:=HC.out;have HC1:=hid hc;have HSp:Hid (∀ W,Below w.heap.size w W→Calls Tryz.prog 14 #[.string s,.string ⟨#[32]⟩,.int .i64 3] W fun e w'=>PcsAt W w' (say3 s) e):=hid fun W hW=>splitN3_any s 32 W hs (HV.out W hW).1.rv;have HSz:Hid (∀ x∈(say3 s),x.size≤s.size):=hid fun x hx=>pieces_size _ _ _ _ x hx;have HZ:Hid (∀ W,(zeroValue 38).run Tryz.prog W=.ok (.agg #[.int .i64 0,.nilFunc]) W):=hid zero_form;have HFo:Hid (formsF ⟨#[115,97,121]⟩=some (.agg #[.int .i64 (-3),.func (.func 44) #[] #[]])):=hid (by kernel_rfl)
 generalize lineA s=la at *;generalize say3 s=l at *;clear hb1 hk1 eW1 hc HC hv hA hh
 go_enter_defers Tryz.func9,Tryz.ntmps9
 go_upto_region 2 with fail
 rw[←EW1.out];clear EW1
 go_wp2_with fail
 refine HC1.out.mono ?_;clear HC1;rintro e w2 ⟨rfl,hb2⟩;have HB2:=hid (HB1.out.trans (hb2.mono HB1.out.size));have HK2:=hid (HK1.out.below hb2 HK1.out.lt);have HFm:=hid (forms_any w2);clear hb2 HB1 HK1
 go_wp2_with fail
 refine HFm.out.mono ?_;clear HFm;rintro e w3 ⟨bm,rfl,hbm,hown,hb3⟩;have hlk:=hown.look_ok (t:=34) (e:=38) Tryz.underlying34 (HZ.out w3) (k:=⟨#[115,97,121]⟩) (by decide)
 rw[HFo.out]at hlk;obtain⟨W4,eW4⟩:∃ W,W=w3.alloc (.cells #[.int .i64 (-3),.func (.func 44) #[] #[]] 38):=⟨_,rfl⟩;have hB3:=HB2.out.trans (hb3.mono HB2.out.size);have hb4:Below w3.heap.size w3 W4:=by rw[eW4];exact(Below.refl _ _).alloc (Nat.le_refl _) _
 have hB4:=hB3.trans (hb4.mono hB3.size);have hk4:=(HK2.out.below hb3 HK2.out.lt).below hb4 (HK2.out.below hb3 HK2.out.lt).lt;have hf4:Blk W4 w3.heap.size 38 #[.int .i64 (-3),.func (.func 44) #[] #[]]:=by rw[eW4];exact Blk.new _ _ _
 have hBD:w.heap.size < w3.heap.size:=(HK2.out.below hb3 HK2.out.lt).lt;have HSp4:=hid (HSp.out W4 hB4);have HB4:=hid hB4;have HK4:=hid hk4;have HF4:=hid hf4;have EW4:=hid eW4;have d0:=(hf4.cell 0).trans (show _=some (.int .i64 (-3))from rfl);clear hbm hown hb3 hB3 hb4 hB4 hk4 hf4 eW4 HB2 HK2 HZ HFo HSp
 go_upto_region 5 with fail
 rw[←EW4.out];clear EW4 hlk
 go_wp2_with fail
 refine HSp4.out.mono ?_;clear HSp4 d0;rintro e w5 ⟨c,rfl,hlc,hz5,hr5,hb5⟩;have hB5:=HB4.out.trans (hb5.mono HB4.out.size);have HB5:=hid hB5;have hk5:=HK4.out.below hb5 HK4.out.lt;have hf5:=HF4.out.below hb5 HF4.out.lt;have HK5:=hid hk5;have HF5:=hid hf5;have HR5:=hid hr5;have d0:=(hf5.cell 0).trans (show _=some (.int .i64 (-3))from rfl);have d1:=(hf5.cell 1).trans (show _=some (.func (.func 44) #[] #[])from rfl);have k0:=(hk5.cell 0).trans (show _=some (.string ⟨#[]⟩)from rfl);have g0:=hk5.frozen 0;clear hb5 hB5 hk5 hf5 hr5 hz5 HB4 HK4 HF4;generalize W4.heap.size=rb at*
 by_cases hlen:l.length=3
 ·have HLa:Hid (la=told (sayA (at_ l 1) (at_ l 2))):=hid (by rw[HL.out,if_pos hlen])
  have z1:(at_ l 1).size≤1000000000:=by rw[at_get (by omega)];exact Nat.le_trans (HSz.out _ (List.getElem_mem _)) hs
  have z2:(at_ l 2).size≤1000000000:=by rw[at_get (by omega)];exact Nat.le_trans (HSz.out _ (List.getElem_mem _)) hs
  have hb6:Below w5.heap.size w5 w5.drew:=(Below.refl _ _).drew;have hr6:=HR5.out.below hb6 HR5.out.lt;have q1:w5.drew.cell? ⟨rb,1,none⟩=some (.string (at_ l 1)):=(hr6.cell 1).trans (by rw[at_get (by omega)];exact cellsOf_at (by omega))
  have q2:w5.drew.cell? ⟨rb,1+1,none⟩=some (.string (at_ l 2)):=(hr6.cell 2).trans (by rw[at_get (by omega)];exact cellsOf_at (by omega))
  have HFr:Hid (Calls Tryz.prog 44 #[.slice (some ⟨rb,1,none⟩) 2 (c - 1)] w5.drew fun e w'=>TellR (sayA (at_ l 1) (at_ l 2)) w5.drew e w'):=hid (form_say rb 1 2 (c - 1) (at_ l 1) (at_ l 2) w5.drew (by decide) q1 q2 z1 (HV.out w5.drew HB5.out.drew).1)
  have HK6:Hid (∀ W,Below w5.heap.size w5 W→Blk W w.heap.size 9 #[.string ⟨#[]⟩]):=hid fun W hW=>HK5.out.below hW HK5.out.lt;have HD6:Hid (∀ W,Below w5.heap.size w5 W→W.cell? ⟨w3.heap.size,1,none⟩=some (.func (.func 44) #[] #[])):=hid fun W hW=>((HF5.out.below hW HF5.out.lt).cell 1).trans rfl;have HD7:Hid (∀ W v,Below w5.heap.size w5 W→(W.setCell ⟨w.heap.size,0,none⟩ v).cell? ⟨w3.heap.size,1,none⟩=some (.func (.func 44) #[] #[])):=hid fun W v hW=>(World.cell?_setCell_far W ⟨w.heap.size,0,none⟩ ⟨w3.heap.size,1,none⟩ v (by show w.heap.size≠w3.heap.size;omega)).trans (HD6.out W hW)
  generalize sayA (at_ l 1) (at_ l 2)=rt at *;have hc1:¬ c=1:=by omega
  have hc2:1≤c:=by omega
  have hcK:3≤c:=by omega
  rw[hlen];clear z1 q1 hr6 hb6 HL HSz HR5 HF5 hs z2 q2
  by_cases h0:rt.2=0
  ·have HT:Hid (la=rt.1):=hid (by rw[HLa.out];unfold told;rw[if_pos h0])
   have HFy:Hid (Calls Tryz.prog 44 #[.slice (some ⟨rb,1,none⟩) 2 (c - 1)] w5.drew fun e w'=>e=.returned (.string (str rt.1))∧Below w5.heap.size w5 w'):=hid (HFr.out.mono (by
    rintro e w' ⟨hb,⟨_,rfl⟩|⟨hn,_⟩⟩
    ·exact⟨rfl,(Below.refl _ _).drew.trans hb⟩
    ·exact absurd h0 hn))
   clear HFr HLa hlen hlc h0
   go_wp2_with fail
   go_region_held3 (fun W=>W.cell? ⟨w3.heap.size,1,none⟩=some (.func (.func 44) #[] #[]))
    (first|with_reducible exact HD7.out _ _ hb7|with_reducible exact HD6.out _ hb7|with_reducible exact HD6.out _ (Below.refl _ _).drew)
    (first
      | (go_at_call 44
         with_reducible refine HFy.out.mono ?_
         rintro e w7 ⟨rfl,hb7⟩;have hk7:=HK6.out w7 hb7;have m0:=(hk7.cell 0).trans (show _=some (.string ⟨#[]⟩)from rfl);have m1:=hk7.frozen 0))
   have HX:Hid (Below w.heap.size w (w7.setCell ⟨w.heap.size,0,none⟩ (.string (str rt.1)))∧Blk (w7.setCell ⟨w.heap.size,0,none⟩ (.string (str rt.1))) w.heap.size 9 #[.string (str rt.1)]):=hid ⟨(HB5.out.trans (hb7.mono HB5.out.size)).setCell (p:=⟨w.heap.size,0,none⟩) (Nat.le_refl _) _,hk7.set_ 0 _⟩;clear hb7 hk7
   go_wp2_with fail
   exact line_told w.heap.size _ _ (str rt.1) _ rfl HX.out.2 ⟨by rw[HT.out],HX.out.1⟩
  ·have HT:Hid (la=errName rt.2):=hid (by rw[HLa.out];unfold told;rw[if_neg h0])
   have HFy:Hid (Calls Tryz.prog 44 #[.slice (some ⟨rb,1,none⟩) 2 (c - 1)] w5.drew fun e w'=>e=.panicked (thrown rt.2)∧Below w5.heap.size w5 w'):=hid (HFr.out.mono (by
    rintro e w' ⟨hb,⟨hn,_⟩|⟨_,rfl⟩⟩
    ·exact absurd hn h0
    ·exact⟨rfl,(Below.refl _ _).drew.trans hb⟩))
   clear HFr HLa hlen hlc h0
   go_wp2_with fail
   have hS:=HD6.out w5.drew (Below.refl _ _).drew;refine wp_region_held_drew (S:=fun W=>W.cell? ⟨w3.heap.size,1,none⟩=some (.func (.func 44) #[] #[])) (by kernel_rfl) hS fun _=> ?_
   refine wpAnyH_take (i:=0) (v:=.pointer (some ⟨w3.heap.size,1,none⟩)) rfl (by kernel_rfl) (by kernel_rfl) (by kernel_rfl) (fun c a w h=>line_slot 44 _ (by decide) h) (Or.inl ⟨by rfl,by intro w _;go_simp⟩) hS ?_
   refine wpAnyH_take (i:=1) (v:=.func (.func 44) #[] #[]) rfl (by kernel_rfl) (by kernel_rfl) (by kernel_rfl) (fun c a w h=>line_slot 45 _ (by decide) h) (Or.inl ⟨by rfl,by intro w s0;go_simp⟩) hS ?_
   refine wpAnyH_take (i:=2) (v:=.slice (some ⟨rb,0,none⟩) 3 c) rfl (by kernel_rfl) (by kernel_rfl) (by kernel_rfl) (fun c a w h=>line_slot 46 _ (by decide) h) (Or.inl ⟨by rfl,by intro w _;go_simp⟩) hS ?_
   refine wpAnyH_take (i:=3) (v:=.slice (some ⟨rb,1,none⟩) 2 (c - 1)) rfl (by kernel_rfl) (by kernel_rfl) (by kernel_rfl) (fun c a w h=>line_slot 47 _ (by decide) h) (Or.inl ⟨by rfl,by intro w _;go_simp⟩) hS ?_
   refine wpAnyH_ready (rs:=[4]) (by kernel_rfl) (by simp) ?_
   refine AllReadyH.cons rfl ?_ AllReadyH.nil;intro K4 hK4;refine step_enterD (by rfl) 44 #[.slice (some ⟨rb,1,none⟩) 2 (c - 1)] (by go_simp) HFy.out ?_
   rintro e w7 ⟨rfl,hb7⟩;refine .inr ⟨_,rfl,?_⟩;exact line_thrown w.heap.size rt.2 _ _ (.string ⟨#[]⟩) w7 rfl (HK6.out w7 hb7) fun W hW=>⟨by rw[HT.out],(HB5.out.trans (hb7.mono HB5.out.size)).trans hW⟩
 ·have HLa:Hid (la=errName 9):=hid (by rw[HL.out,if_neg hlen])
  have hl1:¬(l.length:Int)=3:=by omega
  have hl2:((l.length:Int) == 3)=false:=beq_eq_false_iff_ne.2 hl1;have hl3:((l.length:Int) != 3)=true:=by rw[bne,hl2];rfl
  have HE:=hid (errText_any 9 w5);clear HL HSz HR5 HF5 hlc hs
  go_wp2_with fail
  refine HE.out.mono ?_;clear HE;rintro e w6 ⟨rfl,rfl⟩;have HX:Hid (Below w.heap.size w (w6.setCell ⟨w.heap.size,0,none⟩ (.string (str (errName 9))))∧Blk (w6.setCell ⟨w.heap.size,0,none⟩ (.string (str (errName 9)))) w.heap.size 9 #[.string (str (errName 9))]):=hid ⟨HB5.out.setCell (p:=⟨w.heap.size,0,none⟩) (Nat.le_refl _) _,HK5.out.set_ 0 _⟩
  go_wp2_with fail
  exact line_told w.heap.size _ _ (str (errName 9)) _ rfl HX.out.2 ⟨by rw[HLa.out],HX.out.1⟩
end Go.Proofs.YtagfnpdoooachaaGreatDoor
