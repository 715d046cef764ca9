/- The forms "kind" and "say". -/
import Derived.Test.YtagfnpdoooachaaGreatDoorDskW
set_option linter.unusedSimpArgs false
set_option linter.unusedVariables false
namespace Go.Proofs.YtagfnpdoooachaaGreatDoor
open Go.RowKit
open Lib (hid)
theorem step_enterD {P:Program} {w:World} {ops:Array Oper} {o:Oper} {a:Act} {K:Act→World→Prop} {Q:Exit→Act→World→Prop} {E:Prop} (hgd:o.guard=none) (f:FuncId) (args:Array Value)
 (hrun:(execOp a.eval o).run P w=.ok (.enter f args) w) {R:Ending→World→Prop} (hc:Calls P f args w R) (hR:∀ e w',R e w'→(∃ v,e=.returned v∧K (a.put o.dst v) w')∨∃ c,e=.panicked c∧Q (.panic c) a w'):
 if Region.wanted o (yielded ops a.tmps)=true then Oper.wp P o a w K Q else E:=by
 have hw:Region.wanted o (yielded ops a.tmps)=true:=by simp[Region.wanted,hgd]
 rw[if_pos hw];unfold Oper.wp;rw[hrun,Oper.upon_enter];refine hc.mono fun e w' h=> ?_;rcases hR e w' h with⟨v,rfl,hk⟩|⟨c,rfl,hk⟩
 ·exact hk
 ·exact hk
theorem parseG_any (text:ByteArray) (w:World) (hv:MV w):Calls Tryz.prog 47 #[.string text] w fun e w'=>Below w.heap.size w w'∧∃ v,e=.returned (.tuple #[v,errV (parE (bts text))])∧MkN 7 w.heap.size w'.heap.size w' v (parG (bts text)):=by
 have h:=mParse_any (bts text) w hv;rw[str_bts]at h;exact h
set_option maxHeartbeats 6400000 in
set_option maxRecDepth 100000 in
theorem form_say (b o n c:Nat) (lang text:ByteArray) (w:World) (hn:1 < n) (h0:w.cell? ⟨b,o,none⟩=some (.string lang)) (h1:w.cell? ⟨b,o+1,none⟩=some (.string text)) (hs:lang.size≤1000000000) (hv:EvV w):
 Calls Tryz.prog 44 #[.slice (some ⟨b,o,none⟩) n c] w fun e w'=>TellR (sayA lang text) w e w':=by
 have hbl:b < w.heap.size:=World.block_lt_of_cell? _ _ h0;have HPa:Hid (∀ W,Below w.heap.size w W→Calls Tryz.prog 47 #[.string text] W fun e w'=>Below W.heap.size W w'∧∃ v,e=.returned (.tuple #[v,errV (parE (bts text))])∧MkN 7 W.heap.size w'.heap.size w' v (parG (bts text))):=hid fun W hW=>parseG_any text W (hv.below hW).mv;have HSy:Hid (∀ W lo v,Below w.heap.size w W→ListOk (Enc.node 7) W lo W.heap.size v (parG (bts text))→Calls Tryz.prog 45 #[v,.string lang,.slice none 0 0] W fun e w'=>e=.returned (.tuple #[.string (str (sayS 7 (parG (bts text)) lang []).1),errD (sayS 7 (parG (bts text)) lang []).2])∧Below W.heap.size W w'):=hid fun W lo v hW hl=>
  Say_any 7 (parG (bts text)) v lang [] (.slice none 0 0) lo 0 W ⟨Nat.le_trans (parG_bulk _) (by decide),Nat.zero_le _,(fun a ha=>(by cases ha)),(fun a ha=>(by cases ha))⟩ (by unfold maxLen;omega) hl (ListOk.nil _ _) (hv.below hW)
 have HC:Hid (∀ W,Below w.heap.size w W→W.cell? ⟨b,o,none⟩=some (.string lang)∧W.cell? ⟨b,o+1,none⟩=some (.string text)):=hid fun W hW=>⟨(hW.cell (p:=⟨b,o,none⟩) hbl).trans h0,(hW.cell (p:=⟨b,o+1,none⟩) hbl).trans h1⟩;have i0:(0:Int) < (n:Int):=by omega
 have nz:¬ n=0:=by omega
 have i0n:0 < n:=by omega
 have i1n:1 < n:=hn;have i1:(1:Int) < (n:Int):=by omega
 have HA:Hid (sayA lang text=if parE (bts text)≠0 then([],parE (bts text))else sayS 7 (parG (bts text)) lang []):=hid rfl
 generalize sayS 7 (parG (bts text)) lang []=sr at *;generalize parG (bts text)=m at *;generalize parE (bts text)=pe at *;clear hv hbl h0 h1
 by_cases hp:pe=0
 ·have HA2:Hid (sayA lang text=sr):=hid (by rw[HA.out,if_neg (fun h=>h hp)])
  rw[hp,errV_zero]at HPa;clear hp HA
  by_cases hq:sr.2=0
  ·rw[hq,errD_zero]at HSy;have HQ:=hid hq;clear hq
   go_enter Tryz.func44,Tryz.ntmps44
   go_wp2_with fail
   have hS:=HC.out w.drew (Below.refl _ _).drew;obtain⟨s0,s1⟩:=hS;have HM2:=hid (fun W v=>must_node v W);have HM3:=hid (fun W=>must_str (.string (str sr.1)) W)
   go_region_held3 (fun W=>W.cell? ⟨b,o,none⟩=some (.string lang)∧W.cell? ⟨b,o+1,none⟩=some (.string text))
    (first|with_reducible exact HC.out _ hB4|with_reducible exact HC.out _ hB2|with_reducible exact HC.out _ (Below.refl _ _).drew)
    (first
      | (go_at_call 47
         with_reducible refine(HPa.out _ ?_).mono ?_
         exact(Below.refl _ _).drew;rintro e w2 ⟨hb2,v,rfl,hmk⟩;have hB2:Below w.heap.size w w2:=(Below.refl _ _).drew.trans hb2;have hl2:ListOk (Enc.node 7) w2 0 w2.heap.size v m:=mkN_later hmk (Below.refl _ _) (Nat.le_refl _);obtain⟨Av,cv,rfl,_⟩:=hl2.form)
      | (go_at_call 46
         with_reducible refine(HM2.out _ _).mono ?_
         rintro e w3 ⟨rfl,rfl⟩)
      | (go_at_call 45
         with_reducible refine(HSy.out _ 0 _ hB2 hl2).mono ?_
         rintro e w4 ⟨rfl,hb4⟩;have hB4:=hB2.trans (hb4.mono hB2.size))
      | (go_at_call 22
         with_reducible refine(HM3.out _).mono ?_
         rintro e w5 ⟨rfl,rfl⟩))
   go_wp2_with fail
   go_ret
   exact⟨by assumption,.inl ⟨by rw[HA2.out];exact HQ.out,by rw[HA2.out];rfl⟩⟩
  ·rw[errD_ne hq]at HSy
   go_enter Tryz.func44,Tryz.ntmps44
   go_wp2_with fail
   have hS:=HC.out w.drew (Below.refl _ _).drew;refine wp_region_held_drew (S:=fun W=>W.cell? ⟨b,o,none⟩=some (.string lang)∧W.cell? ⟨b,o+1,none⟩=some (.string text)) (by kernel_rfl) hS fun _=> ?_
   refine wpAnyH_take (i:=0) (v:=.slice (some ⟨b,o,none⟩) n c) rfl (by kernel_rfl) (by kernel_rfl) (by kernel_rfl) (fun _ _ _ h=>h) (Or.inl ⟨by rfl,by intro w _;go_simp⟩) hS ?_
   refine wpAnyH_take (i:=1) (v:=.pointer (some ⟨b,o+1,none⟩)) rfl (by kernel_rfl) (by kernel_rfl) (by kernel_rfl) (fun _ _ _ h=>h) (Or.inl ⟨by rfl,by intro w _;go_simp⟩) hS ?_
   refine wpAnyH_take (i:=2) (v:=.string text) rfl (by kernel_rfl) (by kernel_rfl) (by kernel_rfl) (fun _ _ _ h=>h) (Or.inl ⟨by rfl,by rintro w ⟨s0,s1⟩;go_simp⟩) hS ?_
   refine wpAnyH_take (i:=7) (v:=.slice (some ⟨b,o,none⟩) n c) rfl (by kernel_rfl) (by kernel_rfl) (by kernel_rfl) (fun _ _ _ h=>h) (Or.inl ⟨by rfl,by intro w _;go_simp⟩) hS ?_
   refine wpAnyH_take (i:=8) (v:=.pointer (some ⟨b,o,none⟩)) rfl (by kernel_rfl) (by kernel_rfl) (by kernel_rfl) (fun _ _ _ h=>h) (Or.inl ⟨by rfl,by intro w _;go_simp⟩) hS ?_
   refine wpAnyH_take (i:=9) (v:=.string lang) rfl (by kernel_rfl) (by kernel_rfl) (by kernel_rfl) (fun _ _ _ h=>h) (Or.inl ⟨by rfl,by rintro w ⟨s0,s1⟩;go_simp⟩) hS ?_
   refine wpAnyH_ready (rs:=[3]) (by kernel_rfl) (by simp) ?_
   refine AllReadyH.cons rfl ?_ AllReadyH.nil;intro K3 hK3;refine step_enterD (by rfl) 47 #[.string text] (by go_simp) (HPa.out _ (Below.refl _ _).drew) ?_
   rintro e w2 ⟨hb2,v,rfl,hmk⟩;have hB2:Below w.heap.size w w2:=(Below.refl _ _).drew.trans hb2;refine .inl ⟨_,rfl,?_⟩;have hS2:=HC.out w2 hB2;refine hK3.out _ _ hS2 fun _=> ?_;have HL:Hid (∀ W,Below w2.heap.size w2 W→ListOk (Enc.node 7) W 0 W.heap.size v m):=hid fun W hW=>mkN_later hmk hW (Nat.le_refl _);clear hS hmk HPa hK3;refine wpAnyH_take (i:=4) (v:=v) rfl (by kernel_rfl) (by kernel_rfl) (by kernel_rfl) (fun _ _ _ h=>h) (Or.inl ⟨by rfl,by intro w _;go_simp⟩) hS2 ?_
   refine wpAnyH_take (i:=5) (v:=.nilIface) rfl (by kernel_rfl) (by kernel_rfl) (by kernel_rfl) (fun _ _ _ h=>h) (Or.inl ⟨by rfl,by intro w _;go_simp⟩) hS2 ?_
   refine wpAnyH_ready (rs:=[6]) (by kernel_rfl) (by simp) ?_
   refine AllReadyH.cons rfl ?_ AllReadyH.nil;intro K6 hK6;refine step_enterD (by rfl) 46 #[v,.nilIface] (by go_simp) (must_node v w2) ?_
   rintro e w3 ⟨rfl,rfl⟩;refine .inl ⟨_,rfl,?_⟩;refine hK6.out _ _ hS2 fun _=> ?_;refine wpAnyH_ready (rs:=[10]) (by kernel_rfl) (by simp) ?_
   refine AllReadyH.cons rfl ?_ AllReadyH.nil;intro K10 hK10;refine step_enterD (by rfl) 45 #[v,.string lang,.slice none 0 0] (by go_simp) (HSy.out _ 0 v hB2 (HL.out _ (Below.refl _ _))) ?_
   rintro e w4 ⟨rfl,hb4⟩;have HB4:=hid (hB2.trans (hb4.mono hB2.size));have hS4:=HC.out w4 HB4.out;refine .inl ⟨_,rfl,?_⟩;refine hK10.out _ _ hS4 fun _=> ?_;refine wpAnyH_take (i:=11) (v:=.string (str sr.1)) rfl (by kernel_rfl) (by kernel_rfl) (by kernel_rfl) (fun _ _ _ h=>h) (Or.inl ⟨by rfl,by intro w _;go_simp⟩) hS4 ?_
   refine wpAnyH_take (i:=12) (v:=.iface 27 (.int .i64 sr.2)) rfl (by kernel_rfl) (by kernel_rfl) (by kernel_rfl) (fun _ _ _ h=>h) (Or.inl ⟨by rfl,by intro w _;go_simp⟩) hS4 ?_
   refine wpAnyH_ready (rs:=[13]) (by kernel_rfl) (by simp) ?_
   refine AllReadyH.cons rfl ?_ AllReadyH.nil;intro K13 hK13;refine step_enterD (by rfl) 22 #[.string (str sr.1),.iface 27 (.int .i64 sr.2)] (by go_simp) (must_str_no (.string (str sr.1)) sr.2 w4) ?_
   rintro e w5 ⟨rfl,rfl⟩;refine .inr ⟨_,rfl,?_⟩;exact⟨rfl,HB4.out,.inr ⟨by rw[HA2.out];exact hq,by rw[HA2.out]⟩⟩
 ·have HA2:Hid (sayA lang text=([],pe)):=hid (by rw[HA.out,if_pos hp])
  rw[errV_ne hp]at HPa
  go_enter Tryz.func44,Tryz.ntmps44
  go_wp2_with fail
  have hS:=HC.out w.drew (Below.refl _ _).drew;refine wp_region_held_drew (S:=fun W=>W.cell? ⟨b,o,none⟩=some (.string lang)∧W.cell? ⟨b,o+1,none⟩=some (.string text)) (by kernel_rfl) hS fun _=> ?_
  refine wpAnyH_take (i:=0) (v:=.slice (some ⟨b,o,none⟩) n c) rfl (by kernel_rfl) (by kernel_rfl) (by kernel_rfl) (fun _ _ _ h=>h) (Or.inl ⟨by rfl,by intro w _;go_simp⟩) hS ?_
  refine wpAnyH_take (i:=1) (v:=.pointer (some ⟨b,o+1,none⟩)) rfl (by kernel_rfl) (by kernel_rfl) (by kernel_rfl) (fun _ _ _ h=>h) (Or.inl ⟨by rfl,by intro w _;go_simp⟩) hS ?_
  refine wpAnyH_take (i:=2) (v:=.string text) rfl (by kernel_rfl) (by kernel_rfl) (by kernel_rfl) (fun _ _ _ h=>h) (Or.inl ⟨by rfl,by rintro w ⟨s0,s1⟩;go_simp⟩) hS ?_
  refine wpAnyH_take (i:=7) (v:=.slice (some ⟨b,o,none⟩) n c) rfl (by kernel_rfl) (by kernel_rfl) (by kernel_rfl) (fun _ _ _ h=>h) (Or.inl ⟨by rfl,by intro w _;go_simp⟩) hS ?_
  refine wpAnyH_take (i:=8) (v:=.pointer (some ⟨b,o,none⟩)) rfl (by kernel_rfl) (by kernel_rfl) (by kernel_rfl) (fun _ _ _ h=>h) (Or.inl ⟨by rfl,by intro w _;go_simp⟩) hS ?_
  refine wpAnyH_take (i:=9) (v:=.string lang) rfl (by kernel_rfl) (by kernel_rfl) (by kernel_rfl) (fun _ _ _ h=>h) (Or.inl ⟨by rfl,by rintro w ⟨s0,s1⟩;go_simp⟩) hS ?_
  refine wpAnyH_ready (rs:=[3]) (by kernel_rfl) (by simp) ?_
  refine AllReadyH.cons rfl ?_ AllReadyH.nil;intro K3 hK3;refine step_enterD (by rfl) 47 #[.string text] (by go_simp) (HPa.out _ (Below.refl _ _).drew) ?_
  rintro e w2 ⟨hb2,v,rfl,hmk⟩;have hB2:Below w.heap.size w w2:=(Below.refl _ _).drew.trans hb2;refine .inl ⟨_,rfl,?_⟩;have hS2:=HC.out w2 hB2;refine hK3.out _ _ hS2 fun _=> ?_;refine wpAnyH_take (i:=4) (v:=v) rfl (by kernel_rfl) (by kernel_rfl) (by kernel_rfl) (fun _ _ _ h=>h) (Or.inl ⟨by rfl,by intro w _;go_simp⟩) hS2 ?_
  refine wpAnyH_take (i:=5) (v:=.iface 27 (.int .i64 pe)) rfl (by kernel_rfl) (by kernel_rfl) (by kernel_rfl) (fun _ _ _ h=>h) (Or.inl ⟨by rfl,by intro w _;go_simp⟩) hS2 ?_
  refine wpAnyH_ready (rs:=[6]) (by kernel_rfl) (by simp) ?_
  refine AllReadyH.cons rfl ?_ AllReadyH.nil;intro K6 hK6;refine step_enterD (by rfl) 46 #[v,.iface 27 (.int .i64 pe)] (by go_simp) (must_node_no v pe w2) ?_
  rintro e w3 ⟨rfl,rfl⟩;refine .inr ⟨_,rfl,?_⟩;exact⟨rfl,hB2,.inr ⟨by rw[HA2.out];exact hp,by rw[HA2.out]⟩⟩
end Go.Proofs.YtagfnpdoooachaaGreatDoor
