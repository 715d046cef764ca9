/- The walk of package tag: kinds of signs, scripts, regions, Check. -/
import Derived.Test.YtagfnpdoooachaaGreatDoorSayB
set_option linter.unusedSimpArgs false
set_option linter.unusedVariables false
set_option maxHeartbeats 1600000
namespace Go.Proofs.YtagfnpdoooachaaGreatDoor
open Go.RowKit
open Lib (hid)
theorem low_any (c:UInt8) (w:World):Calls Tryz.prog 72 #[.int .u8 c.toNat] w fun e w'=>e=.returned (.bool (isLow c))∧w=w':=by
 have h:Hid (isLow c=(decide (97≤c.toNat) && decide (c.toNat≤122))):=rfl;generalize c.toNat=n at h ⊢
 go_enter Tryz.func72,Tryz.ntmps72
 go_wp2
 all_goals
  go_ret
  exact⟨ret_bool (by rw[h.out,Bool.eq_iff_iff];simp only[decide_eq_true_eq,Bool.and_eq_true,Bool.false_eq_true];refine⟨fun h=> ?_,fun h=> ?_⟩ <;> first|exact h.elim|omega),rfl⟩
theorem high_any (c:UInt8) (w:World):Calls Tryz.prog 122 #[.int .u8 c.toNat] w fun e w'=>e=.returned (.bool (isHigh c))∧w=w':=by
 have h:Hid (isHigh c=(decide (65≤c.toNat) && decide (c.toNat≤90))):=rfl;generalize c.toNat=n at h ⊢
 go_enter Tryz.func122,Tryz.ntmps122
 go_wp2
 all_goals
  go_ret
  exact⟨ret_bool (by rw[h.out,Bool.eq_iff_iff];simp only[decide_eq_true_eq,Bool.and_eq_true,Bool.false_eq_true];refine⟨fun h=> ?_,fun h=> ?_⟩ <;> first|exact h.elim|omega),rfl⟩
theorem digit_any (c:UInt8) (w:World):Calls Tryz.prog 123 #[.int .u8 c.toNat] w fun e w'=>e=.returned (.bool (isDig c))∧w=w':=by
 have h:Hid (isDig c=(decide (48≤c.toNat) && decide (c.toNat≤57))):=rfl;generalize c.toNat=n at h ⊢
 go_enter Tryz.func123,Tryz.ntmps123
 go_wp2
 all_goals
  go_ret
  exact⟨ret_bool (by rw[h.out,Bool.eq_iff_iff];simp only[decide_eq_true_eq,Bool.and_eq_true,Bool.false_eq_true];refine⟨fun h=> ?_,fun h=> ?_⟩ <;> first|exact h.elim|omega),rfl⟩
theorem both_any (c:UInt8) (w:World):Calls Tryz.prog 119 #[.int .u8 c.toNat] w fun e w'=>e=.returned (.bool (isBoth c))∧w=w':=by
 have h:Hid (isBoth c=(isLow c || isDig c)):=rfl;have H1:=hid (low_any c);have H2:=hid (digit_any c);generalize c.toNat=n at H1 H2 ⊢
 go_enter Tryz.func119,Tryz.ntmps119
 go_wp2_with (first
  | (go_at_call 72;refine(H1.out _).mono ?_;rintro e w1 ⟨rfl,rfl⟩)
  | (go_at_call 123;refine(H2.out _).mono ?_;rintro e w1 ⟨rfl,rfl⟩))
 all_goals
  go_ret
  exact⟨ret_bool (by rw[h.out];simp_all),rfl⟩
theorem bts_get (s:ByteArray) (q:Nat) (h:q < s.size):(bts s)[q]'(by rw[bts_len];exact h)=s[q]:=by
 cases s with
 | mk d=>exact Array.getElem_toList (xs:=d) h
theorem all_bts (p:UInt8→Bool) (s:ByteArray) (h:∀ q (h:q < s.size),p s[q]=true):(bts s).all p=true:=by
 rw[List.all_eq_true];intro x hx;obtain⟨q,hq,rfl⟩:=List.getElem_of_mem hx;rw[bts_len]at hq;rw[bts_get s q hq];exact h q hq
theorem not_all_bts (p:UInt8→Bool) (s:ByteArray) (j:Nat) (hj:j < s.size) (h:p s[j]=false):(bts s).all p=false:=by
 rw[←Bool.not_eq_true,List.all_eq_true];intro hx;have:=hx _ (List.getElem_mem (l:=bts s) (n:=j) (by rw[bts_len];exact hj))
 rw[bts_get s j hj,h]at this;cases this
def Says (f:FuncId) (p:UInt8→Bool):Prop:=∀(c:UInt8) (w:World),Calls Tryz.prog f #[.int .u8 c.toNat] w fun e w'=>e=.returned (.bool (p c))∧w=w'
theorem made_any (f:FuncId) (p:UInt8→Bool) (he:∀ args w,(callFunc f args).run Tryz.prog w=.ok (.enter f args) w) (hp:Says f p) (s:ByteArray) (a b:Nat) (w:World) (hs:s.size≤9223372036854775807) (_ha:a≤1000) (_hb:b≤1000):
 Calls Tryz.prog 73 #[.func (.func f) #[] #[],.string s,.int .i64 a,.int .i64 b] w fun e w'=>e=.returned (.bool (made p s a b))∧w=w':=by
 have HP:=hid hp
 go_enter Tryz.func73,Tryz.ntmps73
 go_wp2
 go_loop [12] (fun i=>∃ j:Nat,j≤s.size∧i=.int .i64 j∧(∀ q,(h:q < s.size)→q < j→p s[q]=true)) (fun i=>s.size - (intOf i).toNat)
 case atStart=>exact⟨0,Nat.zero_le _,rfl,fun _ _ h=>absurd h (by omega)⟩
 case round=>
  obtain⟨j,hj,rfl,hno0⟩:=hrel;have hno:=hid hno0;clear hno0
  by_cases hlt:j < s.size
  ·go_wp2_with (go_at_fn f;refine(HP.out _ _).mono ?_;rintro e w1 ⟨rfl,rfl⟩)
   ·have hpj:(!p s[j])=true:=by assumption
    go_ret
    exact⟨ret_bool (by unfold made;rw[not_all_bts p s j hlt (by simpa using hpj)];rfl),rfl⟩
   ·have hpj0:(!p s[j])=false:=by assumption
    have hpj:p s[j]=true:=by simpa using hpj0
    refine⟨⟨j+1,by omega,by go_num,fun q h hq=> ?_⟩,by simp only[intOf];omega⟩
    rcases Nat.lt_or_eq_of_le (Nat.le_of_lt_succ hq)with h1|h1
    ·exact hno.out q h h1
    ·subst h1;exact hpj
  ·have hall:=all_bts p s (fun q h=>hno.out q h (by omega))
   go_wp2
   ·go_ret
    have h1:a≤s.size:=by assumption
    exact⟨ret_bool (by unfold made;rw[hall];simp[h1]),rfl⟩
   ·go_ret
    have h1:¬ a≤s.size:=by assumption
    exact⟨ret_bool (by unfold made;rw[hall];simp[h1]),rfl⟩
theorem enters_low:∀ args w,(callFunc 72 args).run Tryz.prog w=.ok (.enter 72 args) w:=enters_of Tryz.func72 (by kernel_rfl) rfl
theorem enters_high:∀ args w,(callFunc 122 args).run Tryz.prog w=.ok (.enter 122 args) w:=enters_of Tryz.func122 (by kernel_rfl) rfl
theorem enters_digit:∀ args w,(callFunc 123 args).run Tryz.prog w=.ok (.enter 123 args) w:=enters_of Tryz.func123 (by kernel_rfl) rfl
theorem enters_both:∀ args w,(callFunc 119 args).run Tryz.prog w=.ok (.enter 119 args) w:=enters_of Tryz.func119 (by kernel_rfl) rfl
theorem made_low (s:ByteArray) (a b:Nat) (w:World) (hs:s.size≤9223372036854775807) (ha:a≤1000) (hb:b≤1000):Calls Tryz.prog 73 #[.func (.func 72) #[] #[],.string s,.int .i64 a,.int .i64 b] w fun e w'=>e=.returned (.bool (made isLow s a b))∧w=w':=made_any _ _ enters_low low_any s a b w hs ha hb
theorem made_high (s:ByteArray) (a b:Nat) (w:World) (hs:s.size≤9223372036854775807) (ha:a≤1000) (hb:b≤1000):Calls Tryz.prog 73 #[.func (.func 122) #[] #[],.string s,.int .i64 a,.int .i64 b] w fun e w'=>e=.returned (.bool (made isHigh s a b))∧w=w':=made_any _ _ enters_high high_any s a b w hs ha hb
theorem made_dig (s:ByteArray) (a b:Nat) (w:World) (hs:s.size≤9223372036854775807) (ha:a≤1000) (hb:b≤1000):Calls Tryz.prog 73 #[.func (.func 123) #[] #[],.string s,.int .i64 a,.int .i64 b] w fun e w'=>e=.returned (.bool (made isDig s a b))∧w=w':=made_any _ _ enters_digit digit_any s a b w hs ha hb
theorem made_both (s:ByteArray) (a b:Nat) (w:World) (hs:s.size≤9223372036854775807) (ha:a≤1000) (hb:b≤1000):Calls Tryz.prog 73 #[.func (.func 119) #[] #[],.string s,.int .i64 a,.int .i64 b] w fun e w'=>e=.returned (.bool (made isBoth s a b))∧w=w':=made_any _ _ enters_both both_any s a b w hs ha hb
theorem region_any (s:ByteArray) (w:World) (hs:s.size≤9223372036854775807):Calls Tryz.prog 75 #[.string s] w fun e w'=>e=.returned (.bool (regionB s))∧w=w':=by
 have h:Hid (regionB s=(made isHigh s 2 2 || made isDig s 3 3)):=rfl;have H1:=hid (made_high s 2 2 w hs (by omega) (by omega))
 have H2:=hid (made_dig s 3 3 w hs (by omega) (by omega))
 generalize made isHigh s 2 2=m at h H1;generalize made isDig s 3 3=k at h H2;cases m with
 | true=>
   go_enter Tryz.func75,Tryz.ntmps75
   go_wp2_with (go_at_call 73;refine(H1.out).mono ?_;rintro e w1 ⟨rfl,rfl⟩)
   go_ret
   exact⟨ret_bool (by rw[h.out];rfl),rfl⟩
 | false=>
   go_enter Tryz.func75,Tryz.ntmps75
   go_wp2_with fail
   refine(H1.out).mono ?_;rintro e w1 ⟨rfl,rfl⟩
   go_wp2_with fail
   refine(H2.out).mono ?_;rintro e w1 ⟨rfl,rfl⟩
   go_wp2_with fail
   go_ret
   exact⟨ret_bool (by rw[h.out];rfl),rfl⟩
theorem bts_drop1 (s:ByteArray):bts (s.extract 1 s.size)=(bts s).drop 1:=by
 show(s.extract 1 s.size).data.toList=_;rw[ByteArray.data_extract];have h:s.data.toList.length=s.size:=bts_len s;simp[bts];rw[List.take_of_length_le (by simp)]
theorem scriptB_eq (s:ByteArray) (h4:s.size=4) (h0:0 < s.size):scriptB s=(isHigh s[0] && made isLow (s.extract 1 s.size) 3 3):=by
 have hl:=bts_len s;obtain⟨a,b,c,d,he⟩:∃ a b c d,bts s=[a,b,c,d]:=by
  rw[h4]at hl
  match h:bts s,hl with
  | [a,b,c,d],_=>exact⟨a,b,c,d,rfl⟩
 have e0:s[0]=a:=by
  have:=bts_get s 0 h0;rw[←this];simp[he]
 have e1:(s.extract 1 s.size).size=3:=by rw[←bts_len,bts_drop1,he];rfl
 unfold scriptB made;rw[e0,e1,bts_drop1,he,h4];simp
theorem script_any (s:ByteArray) (w:World) (_hs:s.size≤9223372036854775807):Calls Tryz.prog 118 #[.string s] w fun e w'=>e=.returned (.bool (scriptB s))∧w=w':=by
 by_cases h4:s.size=4
 ·have h0:0 < s.size:=by omega
  have hb:=scriptB_eq s h4 h0;rw[h4]at hb;have h:=hid hb;clear hb;have H1:=hid (high_any s[0] w);have H2:=hid (made_low (s.extract 1 4) 3 3 w (by rw[ByteArray.size_extract];omega) (by omega) (by omega))
  generalize made isLow (s.extract 1 4) 3 3=k at h H2;have h4':((s.size:Int) == 4)=true:=by rw[h4];rfl
  cases hm:isHigh s[0]with
  | true=>
    rw[hm]at h H1;clear hm
    go_enter Tryz.func118,Tryz.ntmps118
    go_wp2_with fail
    refine(H1.out).mono ?_;rintro e w1 ⟨rfl,rfl⟩
    go_wp2_with fail
    refine(H2.out).mono ?_;rintro e w1 ⟨rfl,rfl⟩
    go_wp2_with fail
    go_ret
    exact⟨ret_bool (by rw[h.out];rfl),rfl⟩
  | false=>
    rw[hm]at h H1;clear hm
    go_enter Tryz.func118,Tryz.ntmps118
    go_wp2_with fail
    refine(H1.out).mono ?_;rintro e w1 ⟨rfl,rfl⟩
    go_wp2_with fail
    go_ret
    exact⟨ret_bool (by rw[h.out];rfl),rfl⟩
 ·have h:Hid (scriptB s=false):=by unfold scriptB;simp[h4,Hid]
  have h4':((s.size:Int) == 4)=false:=by simp;omega
  clear h4
  go_enter Tryz.func118,Tryz.ntmps118
  go_wp2_with fail
  go_ret
  exact⟨ret_bool h.out.symm,rfl⟩
theorem eqs_nil {s:ByteArray} (h:s.toList=[]):Hid (eqs s ByteArray.empty=true):=by
 show(_ == _)=true;rw[h];decide +kernel
theorem eqs_not_nil {s:ByteArray} (h:¬ s.toList=[]):Hid (eqs s ByteArray.empty=false):=by
 show(_ == _)=false;have e:ByteArray.empty.toList=[]:=by decide +kernel
 rw[e];cases hs:s.toList with
 | nil=>exact absurd hs h
 | cons a l=>rfl
theorem tag_ok {t:Tg} (hf:headFault t=false) (h0:∀ q,q < t.vars.length→varAt t.vars q=0):tagFault t=if 3 < t.vars.length then 4 else 0:=by
 unfold tagFault;rw[hf,firstN_zero _ _ h0];rfl
theorem tag_bad {t:Tg} (hf:headFault t=false) (j:Nat) (hj:j < t.vars.length) (h0:∀ q,q < j→varAt t.vars q=0) (h:varAt t.vars j≠0):tagFault t=varAt t.vars j:=by
 unfold tagFault;rw[hf,firstN_at _ j h0 h _ hj,if_neg h];rfl
theorem check_any (t:Tg) (v:Value) (w:World) (lo:Nat) (hv:ListOk Enc.str w lo w.heap.size v t.vars) (hn:t.vars.length≤140737488355328) (hvs:∀ s∈t.vars,s.size≤9223372036854775807)
 (hl:t.lang.size≤9223372036854775807) (hs:t.script.size≤9223372036854775807) (hr:t.region.size≤9223372036854775807):
 Calls Tryz.prog 69 #[.agg #[.string t.lang,.string t.script,.string t.region,v]] w fun e w'=>e=.returned (errV (tagFault t))∧Below w.heap.size w w':=by
 have H1:=hid (fun W=>made_low t.lang 2 3 W hl (by omega) (by omega))
 have H2:=hid (fun W=>script_any t.script W hs);have H3:=hid (fun W=>region_any t.region W hr);have HH:Hid (headFault t=(!made isLow t.lang 2 3 || (!eqs t.script ByteArray.empty && !scriptB t.script || !eqs t.region ByteArray.empty && !regionB t.region))):=rfl
 go_enter Tryz.func69,Tryz.ntmps69
 go_upto_region 1 with fail
 go_cut [30] (fun c wx=>c=.bool (headFault t)∧wx=w.alloc (.cells #[.string t.lang,.string t.script,.string t.region,v] 77))
 case first=>
  generalize made isLow t.lang 2 3=m at H1 HH;generalize scriptB t.script=sc at H2 HH;generalize regionB t.region=rg at H3 HH
  go_wp2_with fail
  refine(H1.out _).mono ?_;rintro e w1 ⟨rfl,rfl⟩;cases m with
  | false=>
    go_wp2_with fail
    go_meet
    case rel=>exact⟨by rw[HH.out];rfl,rfl⟩
  | true=>
    by_cases a:t.script.toList=[]
    ·have A:=eqs_nil a
     by_cases b:t.region.toList=[]
     ·have B:=eqs_nil b
      go_wp2_with fail
      go_meet
      case rel=>exact⟨by rw[HH.out,A.out,B.out];first|rfl|simp[b],rfl⟩
     ·have B:=eqs_not_nil b
      go_wp2_with fail
      refine(H3.out _).mono ?_;rintro e w1 ⟨rfl,rfl⟩;cases rg
      all_goals
       go_wp2_with fail
       go_meet
       case rel=>exact⟨by rw[HH.out,A.out,B.out];first|rfl|simp[b],rfl⟩
    ·have A:=eqs_not_nil a
     go_wp2_with fail
     refine(H2.out _).mono ?_;rintro e w1 ⟨rfl,rfl⟩;cases sc with
     | false=>
       go_wp2_with fail
       go_meet
       case rel=>exact⟨by rw[HH.out,A.out];rfl,rfl⟩
     | true=>
       by_cases b:t.region.toList=[]
       ·have B:=eqs_nil b
        go_wp2_with fail
        go_meet
        case rel=>exact⟨by rw[HH.out,A.out,B.out];first|rfl|simp[b],rfl⟩
       ·have B:=eqs_not_nil b
        go_wp2_with fail
        refine(H3.out _).mono ?_;rintro e w1 ⟨rfl,rfl⟩;cases rg
        all_goals
         go_wp2_with fail
         go_meet
         case rel=>exact⟨by rw[HH.out,A.out,B.out];first|rfl|simp[b],rfl⟩
 case rest=>
  obtain⟨rfl,rfl⟩:=hcut;cases hf:headFault t with
  | true=>
    have hT:Hid (tagFault t=3):=fault_head hf;clear HH
    go_wp2_with fail
    go_ret
    exact⟨by rw[hT.out];rfl,(Below.refl _ _).alloc (Nat.le_refl _) _⟩
  | false=>
    obtain⟨A,c,rfl,hc⟩:=hv.form;clear HH;have HF:=hid hf;clear hf
    go_wp2_with fail
    go_loop [35] (fun i=>∃ j:Nat,j≤t.vars.length∧i=.int .i64 j∧(∀ q,q < j→varAt t.vars q=0)) (fun i=>t.vars.length - (intOf i).toNat)
    case atStart=>exact⟨0,Nat.zero_le _,rfl,fun _ h=>absurd h (by omega)⟩
    case round=>
     obtain⟨j,hj,rfl,hno0⟩:=hrel;have hno:=hid hno0;clear hno0
     by_cases hlt:j < t.vars.length
     ·obtain⟨b,o,rfl,h1,h2,hcell⟩:=hv.strAt j hlt;have H4:=hid (made_both t.vars[j] 5 8 (w.alloc (.cells #[.string t.lang,.string t.script,.string t.region,.slice (some ⟨b,o,none⟩) t.vars.length c] 77)) (hvs _ (List.getElem_mem hlt)) (by omega) (by omega))
      have hgd:t.vars.getD j ByteArray.empty=t.vars[j]:=by rw[List.getD_eq_getElem?_getD,List.getElem?_eq_getElem hlt];rfl
      have hcs:∀ q,q < t.vars.length→(w.alloc (.cells #[.string t.lang,.string t.script,.string t.region,.slice (some ⟨b,o,none⟩) t.vars.length c] 77)).cell? ⟨b,o+q,none⟩=some (.string (t.vars.getD q ByteArray.empty)):=fun q hq=>by
       obtain⟨b',o',he,_,h2',hc'⟩:=hv.strAt q hq;injection he with he;injection he with e1 e2;subst e1;subst e2;rw[World.cell?_alloc_lt _ _ _ h2,hc',List.getD_eq_getElem?_getD,List.getElem?_eq_getElem hq];rfl
      have H5:=hid (Tryz.slices_Contains_string b o j c t.vars t.vars[j] _ (by omega) (by omega) hcs)
      have hva:Hid (varAt t.vars j=if made isBoth t.vars[j] 5 8 then(if Lib.containsS (t.vars.take j) t.vars[j]then 5 else 0)else 3):=by
       show varAt t.vars j=_;unfold varAt;rw[hgd];have:(t.vars.take j).any (eqs · t.vars[j])=Lib.containsS (t.vars.take j) t.vars[j]:=by
        rw[Bool.eq_iff_iff,List.any_eq_true,Lib.containsS_iff]
        constructor
        ·rintro⟨x,hx,he⟩;rw[←(eqs_iff _ _).1 he];exact hx
        ·intro hx;exact⟨_,hx,eqs_self _⟩
       rw[this]
      clear hcs hgd;generalize made isBoth t.vars[j] 5 8=m at H4 hva;generalize Lib.containsS (t.vars.take j) t.vars[j]=k at H5 hva
      go_wp2_with fail
      refine(H4.out).mono ?_;rintro e w1 ⟨rfl,rfl⟩;cases m with
      | false=>
        have hT:=hid (tag_bad HF.out j hlt hno.out (by rw[hva.out];simp))
        go_wp2_with fail
        go_ret
        exact⟨by rw[hT.out,hva.out];rfl,(Below.refl _ _).alloc (Nat.le_refl _) _⟩
      | true=>
        go_wp2_with fail
        refine(H5.out).mono ?_;rintro e w1 ⟨rfl,rfl⟩;cases k with
        | true=>
          have hT:=hid (tag_bad HF.out j hlt hno.out (by rw[hva.out];simp))
          go_wp2_with fail
          go_ret
          exact⟨by rw[hT.out,hva.out];rfl,(Below.refl _ _).alloc (Nat.le_refl _) _⟩
        | false=>
          go_wp2_with fail
          go_round
          case rel=>exact⟨j+1,by omega,by go_num,fun q hq=>by
           rcases Nat.lt_or_eq_of_le (Nat.le_of_lt_succ hq)with h|h
           ·exact hno.out q h
           ·subst h;rw[hva.out];rfl⟩
          case measure=>simp[intOf];omega
     ·have hall:∀ q,q < t.vars.length→varAt t.vars q=0:=fun q h=>hno.out q (by omega)
      have hT:=hid (tag_ok HF.out hall)
      go_wp2_with fail
      ·have h3:3 < (t.vars.length:Int):=by assumption
       go_ret
       exact⟨by rw[hT.out,if_pos (by omega)];rfl,(Below.refl _ _).alloc (Nat.le_refl _) _⟩
      ·have h3:(t.vars.length:Int)≤3:=by assumption
       go_ret
       exact⟨by rw[hT.out,if_neg (by omega)];rfl,(Below.refl _ _).alloc (Nat.le_refl _) _⟩
theorem less_none (l:ByteArray) (A:Option Addr) (c:Nat) (w:World):
 Calls Tryz.prog 70 #[.agg #[.string l,.string ByteArray.empty,.string ByteArray.empty,.slice A 0 c]] w fun e w'=>
  e=.returned (.tuple #[.agg #[.string l,.string ByteArray.empty,.string ByteArray.empty,.slice A 0 c],.bool false])∧Below w.heap.size w w':=by
 have hs:ByteArray.empty.toList=[]:=by decide +kernel
 go_enter Tryz.func70,Tryz.ntmps70
 go_wp2_with fail
 refine bodyPost_ret (v:=.tuple #[.agg #[.string l,.string ByteArray.empty,.string ByteArray.empty,.slice A 0 c],.bool false]) ?_ rfl ?_
 ·simp[results,Tryz.results70,go_sem]
 ·exact⟨rfl,by repeat' (first|exact Below.refl _ _|(refine Below.setCell ?_ (by simp;try omega) _)|(refine Below.alloc ?_ (by simp;try omega) _))⟩
theorem less_script (l s:ByteArray) (A:Option Addr) (c:Nat) (w:World) (hs:(!s.toList.isEmpty)=true):
 Calls Tryz.prog 70 #[.agg #[.string l,.string s,.string ByteArray.empty,.slice A 0 c]] w fun e w'=>
  e=.returned (.tuple #[.agg #[.string l,.string ByteArray.empty,.string ByteArray.empty,.slice A 0 c],.bool true])∧Below w.heap.size w w':=by
 have h0:ByteArray.empty.toList=[]:=by decide +kernel
 go_enter Tryz.func70,Tryz.ntmps70
 go_wp2_with fail
 refine bodyPost_ret (v:=.tuple #[.agg #[.string l,.string ByteArray.empty,.string ByteArray.empty,.slice A 0 c],.bool true]) ?_ rfl ?_
 ·simp[results,Tryz.results70,go_sem];rfl
 ·exact⟨rfl,by repeat' (first|exact Below.refl _ _|(refine Below.setCell ?_ (by simp;try omega) _)|(refine Below.alloc ?_ (by simp;try omega) _))⟩
theorem less_region (l s r:ByteArray) (A:Option Addr) (c:Nat) (w:World) (hr:(!r.toList.isEmpty)=true):
 Calls Tryz.prog 70 #[.agg #[.string l,.string s,.string r,.slice A 0 c]] w fun e w'=>
  e=.returned (.tuple #[.agg #[.string l,.string s,.string ByteArray.empty,.slice A 0 c],.bool true])∧Below w.heap.size w w':=by
 go_enter Tryz.func70,Tryz.ntmps70
 go_wp2_with fail
 refine bodyPost_ret (v:=.tuple #[.agg #[.string l,.string s,.string ByteArray.empty,.slice A 0 c],.bool true]) ?_ rfl ?_
 ·simp[results,Tryz.results70,go_sem];rfl
 ·exact⟨rfl,by repeat' (first|exact Below.refl _ _|(refine Below.setCell ?_ (by simp;try omega) _)|(refine Below.alloc ?_ (by simp;try omega) _))⟩
theorem info_string:(Tryz.prog.info? 9).map (fun i=>(i.zero,i.size,i.bytes))=some (some (.string ByteArray.empty),1,16):=by kernel_rfl
theorem less_vars (l s r:ByteArray) (vs:List ByteArray) (k:Nat) (hk:vs.length=k+1) (b o c:Nat) (hc:vs.length≤c) (w:World) (hb:b < w.heap.size) (hcell:∀ q (h:q < vs.length),w.cell? ⟨b,o+q,none⟩=some (.string vs[q])) (hn:vs.length≤1000000):
 Calls Tryz.prog 70 #[.agg #[.string l,.string s,.string r,.slice (some ⟨b,o,none⟩) vs.length c]] w fun e w'=>∃ v,
  e=.returned (.tuple #[.agg #[.string l,.string s,.string r,v],.bool true])∧w'.ownsRow w.heap.size 9 1 v k ((vs.take k).map .string)∧Below w.heap.size w w':=by
 rw[hk];have HK:=hid hk;rw[hk]at hc hn;clear hk
 go_enter Tryz.func70,Tryz.ntmps70
 obtain⟨i0,hi,hz0,hz1,hz2⟩:=info_parts info_string;have HC:=hid hcell;clear hcell
 go_wp2_with (at_builtin;refine wpList_append_own _ rfl _ _ 23 rfl (w.heap.size+1+1) 9 i0 (.string ByteArray.empty) 1 16 Tryz.underlying23 hi hz0 hz1 hz2 rfl (by decide) (.slice (some ⟨w.heap.size+1+1,0,none⟩) 0 0) 0 [] rfl ?h0 ⟨b,o,none⟩ k c ((vs.take k).map .string) rfl (by have:=HK.out;simp;omega) ?h1 ?h2 ?h3 ?h4 ?h5 ?_)
 case h0=>
  have hm:=World.ownsRow_made (e:=9) (size:=1) (base:=w.heap.size+1+1) ((w.alloc (.cells #[.string l,.string s,.string r,.slice (some ⟨b,o,none⟩) (k+1) c] 77)).alloc (.cells #[.string ⟨#[]⟩,.string ⟨#[]⟩,.string ⟨#[]⟩,.slice none 0 0] 77)) #[] 0 (by simp) (by decide) rfl
  simpa using hm
 case h1=>
  intro j u hj;rw[List.getElem?_map,List.getElem?_take]at hj;split at hj
  ·rename_i hjk
   have hjl:j < vs.length:=by have:=HK.out;omega
   rw[List.getElem?_eq_getElem hjl]at hj;simp only[Option.map_some,Option.some.injEq]at hj;subst hj;have e:((⟨b,o,none⟩:Addr).add j)=⟨b,o+j,none⟩:=by
    unfold Addr.add
    by_cases h0:j=0
    ·rw[if_pos h0,h0];rfl
    ·rw[if_neg h0]
   rw[e,World.cell?_alloc_lt _ _ _ (by simp;omega),World.cell?_alloc_lt _ _ _ (by simp;omega),World.cell?_alloc_lt _ _ _ hb]
   exact HC.out j hjl
  ·cases hj
 case h2=>
  intro u hu;obtain⟨y,_,rfl⟩:=List.mem_map.1 hu
  rfl
 case h3=>unfold maxLen;omega
 case h4=>omega
 case h5=>simp
 intro v w1 hown hgrow _;clear HC;have hsz:=hgrow.size;simp only[World.size_alloc]at hsz;have hbelow:Below w.heap.size w w1:=((((Below.refl _ _).alloc (Nat.le_refl _) _).alloc (by simp;try omega) _).alloc (by simp;try omega) _).grown hgrow (by simp;try omega) (fun q hq=>by simp[Value.ownBlock]at hq;omega)
 have m0:Blk w1 w.heap.size 77 #[.string l,.string s,.string r,.slice (some ⟨b,o,none⟩) (k+1) c]:=(hgrow.block _ (by simp;try omega) (fun e=>by simp[Value.ownBlock]at e;try omega)).trans (((Blk.new w _ _).alloc _).alloc _)
 have m1:Blk w1 (w.heap.size+1) 77 #[.string ⟨#[]⟩,.string ⟨#[]⟩,.string ⟨#[]⟩,.slice none 0 0]:=(hgrow.block _ (by simp;try omega) (fun e=>by simp[Value.ownBlock]at e;try omega)).trans ((by simpa using Blk.new (w.alloc _) 77 #[.string ⟨#[]⟩,.string ⟨#[]⟩,.string ⟨#[]⟩,.slice none 0 0]:Blk _ _ _ _).alloc _)
 have hv:∀ g,v.ownBlock=some g→w.heap.size+1 < g:=fun g hg=>(own_lt hown hg).1;have hown':w1.ownsRow w.heap.size 9 1 v k ((vs.take k).map .string):=by
  have:=own_mono hown (base':=w.heap.size) (by omega)
  simpa using this
 obtain⟨A,cap,rfl,hcap⟩:=own_slice hown';clear hown hgrow;have HV:=hid hv;have HO:=hid hown';have HB:=hid hbelow;clear hv hown' hbelow hi hz0 hz1 hz2;have c0:=m0.cell 0;have c1:=m0.cell 1;have c2:=m0.cell 2;have c3:=m0.cell 3;have d0:=m1.cell 0;have d1:=m1.cell 1;have d2:=m1.cell 2;have d3:=m1.cell 3;have f0:=m0.frozen 3;have f1:=m1.frozen 0;have f2:=m1.frozen 1;have f3:=m1.frozen 2;have f4:=m1.frozen 3;clear m0 m1;simp at c0 c1 c2 c3 d0 d1 d2 d3
 go_wp2_with fail
 refine bodyPost_ret (v:=.tuple #[.agg #[.string l,.string s,.string r,.slice A k cap],.bool true]) ?_ rfl ?_
 ·simp[results,Tryz.results70,go_sem,d0,d1,d2,d3]
  try rfl
 ·refine⟨_,rfl,?_,?_⟩
  ·refine own_keep HO.out fun g hg _=> ?_;have:=HV.out g hg
   repeat rw[Below.heap_setCell _ _ _ _ (by simp;omega)]
  ·repeat' (first|exact HB.out|(refine Below.setCell ?_ (by simp;try omega) _))
def Lessed (w w':World) (p q:Tg×Value) (b:Bool):Prop:=
 (less p.1=none∧b=false∧q=p)∨
 ∃ u,less p.1=some u∧b=true∧q.1=u∧(w'.ownsRow w.heap.size 9 1 q.2 u.vars.length (u.vars.map .string)∨(q.2=p.2∧p.1.vars=[]∧u.vars=[]))
theorem empty_of {s:ByteArray} (h:s.toList=[]):s=ByteArray.empty:=(eqs_iff _ _).1 (eqs_nil h).out
theorem less_any (p:Tg×Value) (w:World) (lo:Nat) (hv:ListOk Enc.str w lo w.heap.size p.2 p.1.vars) (hn:p.1.vars.length≤1000000):
 Calls Tryz.prog 70 #[.agg #[.string p.1.lang,.string p.1.script,.string p.1.region,p.2]] w fun e w'=>Below w.heap.size w w'∧
  ∃ q b,e=.returned (.tuple #[.agg #[.string q.1.lang,.string q.1.script,.string q.1.region,q.2],.bool b])∧Lessed w w' p q b:=by
 obtain⟨⟨l,s,r,vs⟩,v⟩:=p;dsimp only at hv hn ⊢;obtain⟨A,c,rfl,hc⟩:=hv.form
 by_cases hz:vs.length=0
 ·have hnil:vs=[]:=List.length_eq_zero_iff.1 hz;subst hnil
  by_cases hr:r.toList=[]
  ·obtain rfl:=empty_of hr
   by_cases hs:s.toList=[]
   ·obtain rfl:=empty_of hs;refine(less_none l A c w).mono ?_;rintro e w' ⟨rfl,hb⟩;exact⟨hb,(⟨l,_,_,[]⟩,_),false,rfl,.inl ⟨by simp[less,eqs_self],rfl,rfl⟩⟩
   ·refine(less_script l s A c w (by simpa using hs)).mono ?_
    rintro e w' ⟨rfl,hb⟩;have h1:=(eqs_not_nil hs).out;exact⟨hb,(⟨l,ByteArray.empty,_,[]⟩,_),true,rfl,.inr ⟨⟨l,ByteArray.empty,ByteArray.empty,[]⟩,by simp[less,eqs_self,h1],rfl,rfl,.inr ⟨rfl,rfl,rfl⟩⟩⟩
  ·refine(less_region l s r A c w (by simpa using hr)).mono ?_
   rintro e w' ⟨rfl,hb⟩;have h1:=(eqs_not_nil hr).out;exact⟨hb,(⟨l,s,ByteArray.empty,[]⟩,_),true,rfl,.inr ⟨⟨l,s,ByteArray.empty,[]⟩,by simp[less,h1],rfl,rfl,.inr ⟨rfl,rfl,rfl⟩⟩⟩
 ·obtain⟨k,hk⟩:∃ k,vs.length=k+1:=⟨vs.length - 1,by omega⟩
  obtain⟨b,o,rfl,hlo,hhi,_⟩:=hv.strAt 0 (by omega)
  refine(less_vars l s r vs k hk b o c hc w hhi (fun q h=> ?_) hn).mono ?_
  ·obtain⟨b',o',he,_,_,hcell⟩:=hv.strAt q h;injection he with he;injection he with e1 e2;subst e1;subst e2;exact hcell
  ·rintro e w' ⟨v,rfl,hown,hb⟩;have hl:(vs.take k).length=k:=by simp;omega
   refine⟨hb,(⟨l,s,r,vs.take k⟩,v),true,rfl,.inr ⟨⟨l,s,r,vs.take k⟩,?_,rfl,rfl,.inl ?_⟩⟩
   ·unfold less;simp only[hk];rw[if_pos (by omega)]
    simp
   ·show w'.ownsRow _ _ _ _ (vs.take k).length _;rw[hl];exact hown
def atoiV (l:List UInt8):Option Int:=match Lib.atoiAll l with| .ok v=>some v|_=>none
def decP (s:ByteArray):Option DecV:=
 (atoiV ((Lib.cut (bts s) [46]).1++(Lib.cut (bts s) [46]).2.1)).bind fun v=>
   if DecV.ok ⟨v,((Lib.cut (bts s) [46]).2.1.length:Nat)⟩∧textD ⟨v,((Lib.cut (bts s) [46]).2.1.length:Nat)⟩=bts s then some ⟨v,((Lib.cut (bts s) [46]).2.1.length:Nat)⟩else none
def numberP (s:ByteArray):Option Int:=(atoiV (bts s)).bind fun v=>if -1073741824≤v∧v≤1073741824∧Lib.itoa v=bts s then some v else none
def shortF:List UInt8→Int→Int→List UInt8→Int×Int×List UInt8
 | [],n,x,g=>(n,x,g)
 | u::us,n,x,g=>if n < 1000 then(n,x,g)else shortF us (n / 1000) (n % 1000 / 100) [u]
def shortT (n:Int):List UInt8×Int:=
 if n < 0∨1000000000000000 < n then([],1)
 else
  let r:=shortF [75,77,66,84] n 0 []
  (Lib.itoa r.1++(if r.1 < 10∧0 < r.2.1 then 46::Lib.itoa r.2.1 else [])++r.2.2,0)
def leapD (y:Int):Bool:=decide (y % 4=0) && decide (y % 100≠0) || decide (y % 400=0)
def aheadD (k:Nat):Int:=[0,31,59,90,120,151,181,212,243,273,304,334,365].getD k 0
def beforeD (y m:Int):Int:=aheadD (m - 1).toNat+(if 2 < m∧leapD y=true then 1 else 0)
structure DayV where
 y:Int
 m:Int
 d:Int
def DayV.ok (t:DayV):Prop:=1≤t.y∧t.y≤9999∧1≤t.m∧t.m≤12∧1≤t.d∧t.d≤beforeD t.y (t.m+1) - beforeD t.y t.m
instance (t:DayV):Decidable t.ok:=by unfold DayV.ok;infer_instance
def yearD (y:Int):Int:=365*(y - 1)+(y - 1) / 4 - (y - 1) / 100+(y - 1) / 400
def numD (t:DayV):Int:=yearD t.y+beforeD t.y t.m+t.d - 1
def padN (n:Int) (least:Int):List UInt8:=Lib.repeatL [48] (least - (Lib.itoa n).length).toNat++Lib.itoa n
def dayT (t:DayV):List UInt8:=padN t.y 4++[45]++padN t.m 2++[45]++padN t.d 2
def dash3 (s:ByteArray):List ByteArray:=Lib.splitB ⟨#[45]⟩ 0 (min 3 (s.size+1) - 1) s
def dayP (s:ByteArray):Option DayV:=
 if(dash3 s).all (fun w=>(atoiV (bts w)).isSome)then
  let n:=(dash3 s).map fun w=>(atoiV (bts w)).getD 0
  let t:DayV:=⟨n.getD 0 0,n.getD 1 0,n.getD 2 0⟩
  if t.ok∧dayT t=bts s then some t else none
 else none
def firstW (y:Int):Int:=let n:=yearD y+3;n - n % 7
def backW:Nat→Int→Int→Int
 | 0,y,_=>y
 | k+1,y,n=>if n < firstW y then backW k (y - 1) n else y
structure WeekV where
 y:Int
 w:Int
 d:Int
def weekOf (t:DayV):WeekV:=
 let n:=numD t
 let y:=backW 3 (t.y+1) n
 ⟨y,(n - firstW y) / 7+1,n % 7+1⟩
def weekE (t:WeekV):Int:=
 if t.y < 1∨9999 < t.y then 1
 else if t.w < 1∨(firstW (t.y+1) - firstW t.y) / 7 < t.w∨t.d < 1∨7 < t.d then 1
 else if firstW t.y+7*(t.w - 1)+t.d - 1 < 0∨yearD 10000≤firstW t.y+7*(t.w - 1)+t.d - 1 then 1 else 0
def weekT (t:WeekV):List UInt8:=padN t.y 4++[45,87]++padN t.w 2++[45]++padN t.d 1
def spB:ByteArray:=⟨#[32]⟩
def errName (n:Int):List UInt8:=
 if n=0 then [79,75]else if n=1 then [69,114,114,82,97,110,103,101]else if n=2 then [69,114,114,78,111,110,101]else if n=3 then [69,114,114,70,111,114,109]
 else if n=4 then [69,114,114,70,117,108,108]else if n=5 then [69,114,114,84,119,105,99,101]else if n=6 then [69,114,114,83,104,111,114,116]else if n=7 then [69,114,114,84,121,112,101]
 else if n=8 then [69,114,114,83,117,109]else if n=9 then [69,114,114,83,121,110,116,97,120]else [69,114,114,110,111]
abbrev Tell:=List UInt8×Int
def kindA (a b:ByteArray):Tell:=match decP b with
 | none=>([],9)
 | some d=>if langE a≠0 then([],langE a)else if kndE (langS a) d≠0 then([],kndE (langS a) d)else(bts (kndT (langS a) d),0)
def numA (a:ByteArray):Tell:=match decP a with
 | none=>([],9)
 | some d=>if numE d≠0 then([],numE d)else(numT d,0)
def shortA (a:ByteArray):Tell:=match numberP a with
 | none=>([],9)
 | some n=>shortT n
def weekA (a:ByteArray):Tell:=match dayP a with
 | none=>([],9)
 | some t=>if weekE (weekOf t)≠0 then([],weekE (weekOf t))else(weekT (weekOf t),0)
def chainA (a:ByteArray):Tell:=match parseTag a with
 | none=>([],3)
 | some t=>if tagFault t≠0 then([],tagFault t)else(Lib.join ((chainOf t).map fun x=>bts (tagText x)) [32],0)
def sayA (a b:ByteArray):Tell:=if parE (bts b)≠0 then([],parE (bts b))else sayS 7 (parG (bts b)) a []
def told (r:Tell):List UInt8:=if r.2=0 then r.1 else errName r.2
def say3 (s:ByteArray):List ByteArray:=Lib.splitB spB 0 (min 3 (s.size+1) - 1) s
def headB (s:ByteArray):List UInt8:=(Lib.cut (bts s) [32]).1
def at_ (l:List ByteArray) (i:Nat):ByteArray:=l.getD i ByteArray.empty
def lineA (s:ByteArray):List UInt8:=
 if headB s=[107,105,110,100]then(if(splitS s spB).length=3 then told (kindA (at_ (splitS s spB) 1) (at_ (splitS s spB) 2))else errName 9)
 else if headB s=[110,117,109]then(if(splitS s spB).length=2 then told (numA (at_ (splitS s spB) 1))else errName 9)
 else if headB s=[115,104,111,114,116]then(if(splitS s spB).length=2 then told (shortA (at_ (splitS s spB) 1))else errName 9)
 else if headB s=[119,101,101,107]then(if(splitS s spB).length=2 then told (weekA (at_ (splitS s spB) 1))else errName 9)
 else if headB s=[99,104,97,105,110]then(if(splitS s spB).length=2 then told (chainA (at_ (splitS s spB) 1))else errName 9)
 else if headB s=[115,97,121]then(if(say3 s).length=3 then told (sayA (at_ (say3 s) 1) (at_ (say3 s) 2))else errName 9)
 else errName 9
def linesB (s:ByteArray):List ByteArray:=let l:=splitS s ⟨#[10]⟩;if at_ l (l.length - 1)=ByteArray.empty then l.take (l.length - 1)else l
def runA (s:ByteArray):List ByteArray:=if 100 < (linesB s).length then [str (errName 4)]else(linesB s).map fun x=>str (lineA x)
end Go.Proofs.YtagfnpdoooachaaGreatDoor
