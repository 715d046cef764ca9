/- Args as arguments; a row of args that a call makes; linguistersame.Args at the same. -/
import Derived.Test.YtpfmmbbggcghiaaGreatDoorLangB
import Derived.StillTailTactics
set_option linter.unusedSimpArgs false
set_option linter.unusedVariables false
set_option maxHeartbeats 1600000
set_option maxRecDepth 100000
namespace Go.Proofs.YtpfmmbbggcghiaaGreatDoor
open Go.RowKit
open Lib (hid)
def Enc.bool:Enc Bool:=⟨1,1,fun _ _ _ cs b=>cs=[.bool b],fun _ _=>True,fun _=>1⟩
theorem opens_bool {P:Program} {t:TypeId} (ht:P.underlying t=some .bool):Opens P Enc.bool t:=by
 intro H enc w sp held fuel cs x hi h _;obtain⟨b,rfl,rfl⟩:=DataW.trod_bool ht h;exact⟨b,rfl,fun _ _=>trivial,by simp[Enc.bool,Rows.uptoBulk]⟩
def Enc.dec:Enc DecV:=⟨2,16,fun _ _ _ cs d=>cs=[.int .i64 d.coef,.int .i64 d.scale],fun _ d=>(Lit.int .i64 d.coef).wf=true∧(Lit.int .i64 d.scale).wf=true,fun _=>2⟩
theorem opens_dec:Opens Tryz.prog Enc.dec 65:=
 opens_struct2 (A:=Enc.int) (B:=Enc.int) (E:=Enc.dec) (opens_int Tryz.underlying3) (opens_int Tryz.underlying3) Tryz.underlying65 rfl rfl (by kernel_rfl) (by kernel_rfl) (by kernel_rfl)
  DecV.mk
  (fun w lo hi c d a b h1 h2=>by
    obtain rfl:c=[.int .i64 a]:=h1;obtain rfl:d=[.int .i64 b]:=h2;exact rfl)
  (fun n a b h1 h2=>⟨h1,h2⟩) (fun a b=>by simp only[Enc.dec,Enc.int];omega)
theorem opens_argV:Opens Tryz.prog Enc.argV 67:=
 opens_struct4 (A:=Enc.str) (B:=Enc.bool) (C:=Enc.dec) (D:=Enc.str) (E:=Enc.argV) (opens_str Tryz.underlying9) (opens_bool Tryz.underlying4) opens_dec (opens_str Tryz.underlying9) Tryz.underlying67 rfl rfl rfl rfl (by kernel_rfl) (by kernel_rfl) (by kernel_rfl) (by kernel_rfl) (by kernel_rfl)
  ArgV.mk
  (fun w lo hi c d e f a b g k h1 h2 h3 h4=>by
    obtain rfl:c=[.string a]:=h1;obtain rfl:d=[.bool b]:=h2;obtain rfl:e=[.int .i64 g.coef,.int .i64 g.scale]:=h3;obtain rfl:f=[.string k]:=h4;exact rfl)
  (fun n a b g k h1 h2 h3 h4=>⟨h1,h3,h4⟩) (fun a b g k=>by simp only[Enc.argV,Enc.str,Enc.bool,Enc.dec];omega)
theorem mem_sum5:∀ l:List ArgV,l.length*5≤(l.map Enc.argV.bulk).sum
 | []=>Nat.le_refl _
 | a::l=>by
   have ih:=mem_sum5 l;have f5:Enc.argV.bulk a=a.name.size+a.text.size+5:=rfl;rw[List.map_cons,List.sum_cons,List.length_cons];omega
def flatA (l:List ArgV):List Value:=l.flatMap ArgV.cells
theorem flatA_length (l:List ArgV):(flatA l).length=l.length*5:=by
 induction l with
 | nil=>rfl
 | cons p l ih=>show(p.cells++flatA l).length=_;rw[List.length_append,ih];simp[ArgV.cells];omega
theorem flatA_at:∀(l:List ArgV) (i:Nat) (h:i < l.length),((flatA l).drop (i*5)).take 5=l[i].cells
 | [],i,h=>by cases h
 | p::l,0,_=>by show((p.cells++flatA l).drop (0*5)).take 5=_;simp[ArgV.cells]
 | p::l,i+1,h=>by
   have ih:=flatA_at l i (by simpa using h)
   show((p.cells++flatA l).drop ((i+1)*5)).take 5=_;rw[show(i+1)*5=p.cells.length+i*5 from by simp[ArgV.cells];omega,List.drop_append,List.drop_eq_nil_of_le (Nat.le_add_right _ _),Nat.add_sub_cancel_left]
   exact ih
theorem argsV_of_own {w:World} {base lo hi:Nat} {v:Value} {l:List ArgV} (h:w.ownsRow base 67 5 v l.length (flatA l)) (hb:lo≤base) (hs:w.heap.size≤hi):ListOk Enc.argV w lo hi v l:=
 ListOk.of_own (E:=Enc.argV) h hb hs fun i hl=>flatA_at l i hl
theorem info_argV:(Tryz.prog.info? 67).map (fun i=>(i.zero,i.size,i.bytes))=some (some (.agg #[.string ByteArray.empty,.bool false,.int .i64 0,.int .i64 0,.string ByteArray.empty]),5,56):=by kernel_rfl
theorem flatA_one (l:List ArgV):∀ u∈flatA l,u.oneCell'=true:=by
 intro u hu;obtain⟨y,_,hy⟩:=List.mem_flatMap.1 hu;unfold ArgV.cells at hy;simp at hy;rcases hy with rfl|rfl|rfl|rfl|rfl <;> rfl
theorem ListOk.flatA {w:World} {lo hi:Nat} {A:Option Addr} {n c:Nat} {l:List ArgV} (h:ListOk Enc.argV w lo hi (.slice A n c) l):l.length=0∨∃ b o,A=some ⟨b,o,none⟩∧lo≤b∧b < hi∧∀ j u,(flatA l)[j]? =some u→w.cell? ⟨b,o+j,none⟩=some u:=by
 rcases Nat.eq_zero_or_pos l.length with h0|h0
 ·exact .inl h0
 ·obtain⟨b,o,rfl,h1,h2,_⟩:=h.argVAt 0 h0;refine .inr ⟨b,o,rfl,h1,h2,fun j u hj=> ?_⟩;have hjl:j < l.length*5:=by rw[←flatA_length];exact(List.getElem?_eq_some_iff.1 hj).1
  have hi:j / 5 < l.length:=by omega
  obtain⟨b',o',hA,_,_,x0,x1,x2,x3,x4⟩:=h.argVAt (j / 5) hi;injection hA with hA;injection hA with hA1 hA2;subst hA1;subst hA2;have hat:=flatA_at l (j / 5) hi;have hu:l[j / 5].cells[j % 5]? =some u:=by
   rw[←hat,List.getElem?_take,if_pos (by omega),List.getElem?_drop,show j / 5*5+j % 5=j from by omega]
   exact hj
  have hm:j % 5 < 5:=Nat.mod_lt _ (by decide)
  have hj5:j=j / 5*5+j % 5:=by omega
  generalize j % 5=q at *;generalize j / 5=i at *;subst hj5;rw[←Nat.add_assoc]
  match q,hm with
  | 0,_=>simp only[ArgV.cells,List.getElem?_cons_zero]at hu;rw[←hu];exact x0
  | 1,_=>simp only[ArgV.cells,List.getElem?_cons_zero,List.getElem?_cons_succ]at hu;rw[←hu];exact x1
  | 2,_=>simp only[ArgV.cells,List.getElem?_cons_zero,List.getElem?_cons_succ]at hu;rw[←hu];exact x2
  | 3,_=>simp only[ArgV.cells,List.getElem?_cons_zero,List.getElem?_cons_succ]at hu;rw[←hu];exact x3
  | 4,_=>simp only[ArgV.cells,List.getElem?_cons_zero,List.getElem?_cons_succ]at hu;rw[←hu];exact x4
theorem argsV_same (l:List ArgV) (u v:Value) (lo lo':Nat) (w:World) (hu:ListOk Enc.argV w lo w.heap.size u l) (hv:ListOk Enc.argV w lo' w.heap.size v l) (hn:l.length≤10000000):
 Calls Tryz.prog 23 #[u,v] w fun e w'=>e=.returned (.bool true)∧Below w.heap.size w w':=by
 obtain⟨A,c,rfl,_⟩:=hu.form;obtain⟨B,d,rfl,_⟩:=hv.form;have HU:=hid hu;have HV:=hid hv;clear hu hv
 go_enter Tryz.func23,Tryz.ntmps23
 go_wp2_with fail
 go_loopw [5] (fun i wr=>∃ j:Nat,j≤l.length∧i=.int .i64 j∧∃ n,wr=w.drewN n) (fun i _=>l.length - (intOf i).toNat)
 case atStart=>exact⟨0,Nat.zero_le _,rfl,0,rfl⟩
 case round=>
  obtain⟨j,hj,rfl,n,rfl⟩:=hrel
  by_cases hlt:j < l.length
  ·have i1:(0:Int)≤(j:Int):=Int.natCast_nonneg j;have i2:(j:Int) < (l.length:Int):=by omega
   obtain⟨b1,o1,rfl,_,_,x0,x1,x2,x3,x4⟩:=HU.out.argVAt j hlt;obtain⟨b2,o2,rfl,_,_,y0,y1,y2,y3,y4⟩:=HV.out.argVAt j hlt;generalize l[j]=e at *;obtain⟨e0,e1,⟨e2,e3⟩,e4⟩:=e;dsimp only at x0 x1 x2 x3 x4 y0 y1 y2 y3 y4;have hk:(e0.toList == e0.toList)=true:=by simp
   have hk4:(e4.toList == e4.toList)=true:=by simp
   go_wp2_with fail
   go_quiet (fail)
   go_wp2
   go_roundw
   case rel=>exact⟨j+1,by omega,by go_num,_,rfl⟩
   case measure=>simp[intOf];omega
  ·obtain rfl:j=l.length:=by omega
   have hce:¬((l.length:Int) < (l.length:Int)):=by omega
   clear HU HV
   go_wp2_with fail
   go_ret
   exact⟨rfl,below_drewN (Below.refl _ _) n⟩
end Go.Proofs.YtpfmmbbggcghiaaGreatDoor
namespace Go.Proofs.YtpfmmbbggcghiaaGreatDoor
open Go.RowKit Go.Maps
open Lib (hid)
theorem errDV (n:Int):errV n=errD n:=rfl
def sayS (n:Nat) (m:List (Nd n)) (lang:ByteArray) (args:List ArgV):List UInt8×Int:=
 if fitsR n m args≠0 then([],fitsR n m args)else if(sayN (langS lang) (argF args) n m ⟨0,0⟩).2≠0 then([],(sayN (langS lang) (argF args) n m ⟨0,0⟩).2)else((sayN (langS lang) (argF args) n m ⟨0,0⟩).1,0)
structure SayIn (n:Nat) (m:List (Nd n)) (args:List ArgV):Prop where
 bulk:(m.map (Enc.node n).bulk).sum≤1048576
 len:args.length≤1000000
 name:∀ a∈args,a.name.size≤1048576
 text:∀ a∈args,a.text.size≤1048576
theorem langS_small (s:ByteArray):(langS s).small:=langR_small s
end Go.Proofs.YtpfmmbbggcghiaaGreatDoor
namespace Go.Proofs.YtpfmmbbggcghiaaGreatDoor
open Go.RowKit
open Lib (hid)
def keySigns:ByteArray:=⟨#[97,98,99,100,101,102,103,104,105,106,107,108,109,110,111,112,113,114,115,116,117,118,119,120,121,122,48,49,50,51,52,53,54,55,56,57,46,95]⟩
theorem keySigns_all:∀ n,n < 256→(bts keySigns).contains (UInt8.ofNat n)=isKey (UInt8.ofNat n):=by decide +kernel
theorem keySigns_is (c:UInt8):(bts keySigns).contains c=isKey c:=by
 have:=keySigns_all c.toNat c.toNat_lt;rwa[UInt8.ofNat_toNat]at this
theorem dropWhile_nil {α:Type} (p:α→Bool):∀ l:List α,l.dropWhile p=[]↔l.all p=true
 | []=>by simp
 | a::l=>by
   rw[List.dropWhile_cons,List.all_cons];cases h:p a with
   | true=>simp[dropWhile_nil p l]
   | false=>simp
theorem dropWhile_head {α:Type} (p:α→Bool):∀(l:List α),(l.dropWhile p).all p=true→l.dropWhile p=[]
 | [],_=>rfl
 | a::l,h=>by
   rw[List.dropWhile_cons]at h ⊢;cases hp:p a with
   | true=>rw[hp]at h;simp only[if_true]at h ⊢;exact dropWhile_head p l h
   | false=>rw[hp]at h;simp[hp]at h
theorem trimS_nil (l cs:List UInt8):Lib.trimS l cs=[]↔l.all (cs.contains ·)=true:=by
 unfold Lib.trimS Lib.trimLeftS Lib.trimRightS;rw[dropWhile_nil,List.all_reverse]
 constructor
 ·intro h;have h1:=dropWhile_head _ _ h;rw[dropWhile_nil,List.all_reverse]at h1;exact h1
 ·intro h;have h1:l.reverse.dropWhile (cs.contains ·)=[]:=by rw[dropWhile_nil,List.all_reverse];exact h
  rw[h1];rfl
theorem trim_key (s:ByteArray):(Lib.trimS (bts s) (bts keySigns)=[])↔(bts s).all isKey=true:=by
 rw[trimS_nil];have:((bts keySigns).contains ·)=isKey:=funext keySigns_is;rw[this]
theorem low_any (c:UInt8) (w:World):Calls Tryz.prog 42 #[.int .u8 c.toNat] w fun e w'=>e=.returned (.bool (isLow c))∧w=w':=by
 have h:Hid (isLow c=(decide (97≤c.toNat) && decide (c.toNat≤122))):=rfl;generalize c.toNat=n at h ⊢
 go_enter Tryz.func42,Tryz.ntmps42
 go_wp2
 all_goals
  go_ret
  exact⟨ret_bool (by rw[h.out,Bool.eq_iff_iff];simp only[decide_eq_true_eq,Bool.and_eq_true,Bool.false_eq_true];refine⟨fun h=> ?_,fun h=> ?_⟩ <;> first|exact h.elim|omega),rfl⟩
theorem high_any (c:UInt8) (w:World):Calls Tryz.prog 81 #[.int .u8 c.toNat] w fun e w'=>e=.returned (.bool (isHigh c))∧w=w':=by
 have h:Hid (isHigh c=(decide (65≤c.toNat) && decide (c.toNat≤90))):=rfl;generalize c.toNat=n at h ⊢
 go_enter Tryz.func81,Tryz.ntmps81
 go_wp2
 all_goals
  go_ret
  exact⟨ret_bool (by rw[h.out,Bool.eq_iff_iff];simp only[decide_eq_true_eq,Bool.and_eq_true,Bool.false_eq_true];refine⟨fun h=> ?_,fun h=> ?_⟩ <;> first|exact h.elim|omega),rfl⟩
theorem digit_any (c:UInt8) (w:World):Calls Tryz.prog 82 #[.int .u8 c.toNat] w fun e w'=>e=.returned (.bool (isDig c))∧w=w':=by
 have h:Hid (isDig c=(decide (48≤c.toNat) && decide (c.toNat≤57))):=rfl;generalize c.toNat=n at h ⊢
 go_enter Tryz.func82,Tryz.ntmps82
 go_wp2
 all_goals
  go_ret
  exact⟨ret_bool (by rw[h.out,Bool.eq_iff_iff];simp only[decide_eq_true_eq,Bool.and_eq_true,Bool.false_eq_true];refine⟨fun h=> ?_,fun h=> ?_⟩ <;> first|exact h.elim|omega),rfl⟩
theorem both_any (c:UInt8) (w:World):Calls Tryz.prog 84 #[.int .u8 c.toNat] w fun e w'=>e=.returned (.bool (isBoth c))∧w=w':=by
 have h:Hid (isBoth c=(isLow c || isDig c)):=rfl;have H1:=hid (low_any c);have H2:=hid (digit_any c);generalize c.toNat=n at H1 H2 ⊢
 go_enter Tryz.func84,Tryz.ntmps84
 go_wp2_with (first
  | (go_at_call 42;refine(H1.out _).mono ?_;rintro e w1 ⟨rfl,rfl⟩)
  | (go_at_call 82;refine(H2.out _).mono ?_;rintro e w1 ⟨rfl,rfl⟩))
 all_goals
  go_ret
  exact⟨ret_bool (by rw[h.out];simp_all),rfl⟩
theorem bts_get (s:ByteArray) (q:Nat) (h:q < s.size):(bts s)[q]'(by rw[bts_len];exact h)=s[q]:=by
 cases s with
 | mk d=>exact Array.getElem_toList (xs:=d) h
theorem all_bts (p:UInt8→Bool) (s:ByteArray) (h:∀ q (h:q < s.size),p s[q]=true):(bts s).all p=true:=by
 rw[List.all_eq_true];intro x hx;obtain⟨q,hq,rfl⟩:=List.getElem_of_mem hx;rw[bts_len]at hq;rw[bts_get s q hq];exact h q hq
theorem not_all_bts (p:UInt8→Bool) (s:ByteArray) (j:Nat) (hj:j < s.size) (h:p s[j]=false):(bts s).all p=false:=by
 rw[←Bool.not_eq_true,List.all_eq_true];intro hx;have:=hx _ (List.getElem_mem (l:=bts s) (n:=j) (by rw[bts_len];exact hj))
 rw[bts_get s j hj,h]at this;cases this
def Says (f:FuncId) (p:UInt8→Bool):Prop:=∀(c:UInt8) (w:World),Calls Tryz.prog f #[.int .u8 c.toNat] w fun e w'=>e=.returned (.bool (p c))∧w=w'
theorem made_any (f:FuncId) (p:UInt8→Bool) (he:∀ args w,(callFunc f args).run Tryz.prog w=.ok (.enter f args) w) (hp:Says f p) (s:ByteArray) (a b:Nat) (w:World) (hs:s.size≤9223372036854775807) (_ha:a≤1000) (_hb:b≤1000):
 Calls Tryz.prog 43 #[.func (.func f) #[] #[],.string s,.int .i64 a,.int .i64 b] w fun e w'=>e=.returned (.bool (made p s a b))∧w=w':=by
 have HP:=hid hp
 go_enter Tryz.func43,Tryz.ntmps43
 go_wp2
 go_loop [12] (fun i=>∃ j:Nat,j≤s.size∧i=.int .i64 j∧(∀ q,(h:q < s.size)→q < j→p s[q]=true)) (fun i=>s.size - (intOf i).toNat)
 case atStart=>exact⟨0,Nat.zero_le _,rfl,fun _ _ h=>absurd h (by omega)⟩
 case round=>
  obtain⟨j,hj,rfl,hno0⟩:=hrel;have hno:=hid hno0;clear hno0
  by_cases hlt:j < s.size
  ·go_wp2_with (go_at_fn f;refine(HP.out _ _).mono ?_;rintro e w1 ⟨rfl,rfl⟩)
   ·have hpj:(!p s[j])=true:=by assumption
    go_ret
    exact⟨ret_bool (by unfold made;rw[not_all_bts p s j hlt (by simpa using hpj)];rfl),rfl⟩
   ·have hpj0:(!p s[j])=false:=by assumption
    have hpj:p s[j]=true:=by simpa using hpj0
    refine⟨⟨j+1,by omega,by go_num,fun q h hq=> ?_⟩,by simp only[intOf];omega⟩
    rcases Nat.lt_or_eq_of_le (Nat.le_of_lt_succ hq)with h1|h1
    ·exact hno.out q h h1
    ·subst h1;exact hpj
  ·have hall:=all_bts p s (fun q h=>hno.out q h (by omega))
   go_wp2
   ·go_ret
    have h1:a≤s.size:=by assumption
    exact⟨ret_bool (by unfold made;rw[hall];simp[h1]),rfl⟩
   ·go_ret
    have h1:¬ a≤s.size:=by assumption
    exact⟨ret_bool (by unfold made;rw[hall];simp[h1]),rfl⟩
theorem enters_low:∀ args w,(callFunc 42 args).run Tryz.prog w=.ok (.enter 42 args) w:=enters_of Tryz.func42 (by kernel_rfl) rfl
theorem enters_high:∀ args w,(callFunc 81 args).run Tryz.prog w=.ok (.enter 81 args) w:=enters_of Tryz.func81 (by kernel_rfl) rfl
theorem enters_digit:∀ args w,(callFunc 82 args).run Tryz.prog w=.ok (.enter 82 args) w:=enters_of Tryz.func82 (by kernel_rfl) rfl
theorem enters_both:∀ args w,(callFunc 84 args).run Tryz.prog w=.ok (.enter 84 args) w:=enters_of Tryz.func84 (by kernel_rfl) rfl
theorem made_low (s:ByteArray) (a b:Nat) (w:World) (hs:s.size≤9223372036854775807) (ha:a≤1000) (hb:b≤1000):Calls Tryz.prog 43 #[.func (.func 42) #[] #[],.string s,.int .i64 a,.int .i64 b] w fun e w'=>e=.returned (.bool (made isLow s a b))∧w=w':=made_any _ _ enters_low low_any s a b w hs ha hb
theorem made_high (s:ByteArray) (a b:Nat) (w:World) (hs:s.size≤9223372036854775807) (ha:a≤1000) (hb:b≤1000):Calls Tryz.prog 43 #[.func (.func 81) #[] #[],.string s,.int .i64 a,.int .i64 b] w fun e w'=>e=.returned (.bool (made isHigh s a b))∧w=w':=made_any _ _ enters_high high_any s a b w hs ha hb
theorem made_dig (s:ByteArray) (a b:Nat) (w:World) (hs:s.size≤9223372036854775807) (ha:a≤1000) (hb:b≤1000):Calls Tryz.prog 43 #[.func (.func 82) #[] #[],.string s,.int .i64 a,.int .i64 b] w fun e w'=>e=.returned (.bool (made isDig s a b))∧w=w':=made_any _ _ enters_digit digit_any s a b w hs ha hb
theorem made_both (s:ByteArray) (a b:Nat) (w:World) (hs:s.size≤9223372036854775807) (ha:a≤1000) (hb:b≤1000):Calls Tryz.prog 43 #[.func (.func 84) #[] #[],.string s,.int .i64 a,.int .i64 b] w fun e w'=>e=.returned (.bool (made isBoth s a b))∧w=w':=made_any _ _ enters_both both_any s a b w hs ha hb
theorem region_any (s:ByteArray) (w:World) (hs:s.size≤9223372036854775807):Calls Tryz.prog 45 #[.string s] w fun e w'=>e=.returned (.bool (regionB s))∧w=w':=by
 have h:Hid (regionB s=(made isHigh s 2 2 || made isDig s 3 3)):=rfl;have H1:=hid (made_high s 2 2 w hs (by omega) (by omega))
 have H2:=hid (made_dig s 3 3 w hs (by omega) (by omega))
 generalize made isHigh s 2 2=m at h H1;generalize made isDig s 3 3=k at h H2;cases m with
 | true=>
   go_enter Tryz.func45,Tryz.ntmps45
   go_wp2_with (go_at_call 43;refine(H1.out).mono ?_;rintro e w1 ⟨rfl,rfl⟩)
   go_ret
   exact⟨ret_bool (by rw[h.out];rfl),rfl⟩
 | false=>
   go_enter Tryz.func45,Tryz.ntmps45
   go_wp2_with fail
   refine(H1.out).mono ?_;rintro e w1 ⟨rfl,rfl⟩
   go_wp2_with fail
   refine(H2.out).mono ?_;rintro e w1 ⟨rfl,rfl⟩
   go_wp2_with fail
   go_ret
   exact⟨ret_bool (by rw[h.out];rfl),rfl⟩
theorem bts_drop1 (s:ByteArray):bts (s.extract 1 s.size)=(bts s).drop 1:=by
 show(s.extract 1 s.size).data.toList=_;rw[ByteArray.data_extract];have h:s.data.toList.length=s.size:=bts_len s;simp[bts];rw[List.take_of_length_le (by simp)]
theorem scriptB_eq (s:ByteArray) (h4:s.size=4) (h0:0 < s.size):scriptB s=(isHigh s[0] && made isLow (s.extract 1 s.size) 3 3):=by
 have hl:=bts_len s;obtain⟨a,b,c,d,he⟩:∃ a b c d,bts s=[a,b,c,d]:=by
  rw[h4]at hl
  match h:bts s,hl with
  | [a,b,c,d],_=>exact⟨a,b,c,d,rfl⟩
 have e0:s[0]=a:=by
  have:=bts_get s 0 h0;rw[←this];simp[he]
 have e1:(s.extract 1 s.size).size=3:=by rw[←bts_len,bts_drop1,he];rfl
 unfold scriptB made;rw[e0,e1,bts_drop1,he,h4];simp
theorem script_any (s:ByteArray) (w:World) (_hs:s.size≤9223372036854775807):Calls Tryz.prog 83 #[.string s] w fun e w'=>e=.returned (.bool (scriptB s))∧w=w':=by
 by_cases h4:s.size=4
 ·have h0:0 < s.size:=by omega
  have hb:=scriptB_eq s h4 h0;rw[h4]at hb;have h:=hid hb;clear hb;have H1:=hid (high_any s[0] w);have H2:=hid (made_low (s.extract 1 4) 3 3 w (by rw[ByteArray.size_extract];omega) (by omega) (by omega))
  generalize made isLow (s.extract 1 4) 3 3=k at h H2;have h4':((s.size:Int) == 4)=true:=by rw[h4];rfl
  cases hm:isHigh s[0]with
  | true=>
    rw[hm]at h H1;clear hm
    go_enter Tryz.func83,Tryz.ntmps83
    go_wp2_with fail
    refine(H1.out).mono ?_;rintro e w1 ⟨rfl,rfl⟩
    go_wp2_with fail
    refine(H2.out).mono ?_;rintro e w1 ⟨rfl,rfl⟩
    go_wp2_with fail
    go_ret
    exact⟨ret_bool (by rw[h.out];rfl),rfl⟩
  | false=>
    rw[hm]at h H1;clear hm
    go_enter Tryz.func83,Tryz.ntmps83
    go_wp2_with fail
    refine(H1.out).mono ?_;rintro e w1 ⟨rfl,rfl⟩
    go_wp2_with fail
    go_ret
    exact⟨ret_bool (by rw[h.out];rfl),rfl⟩
 ·have h:Hid (scriptB s=false):=by unfold scriptB;simp[h4,Hid]
  have h4':((s.size:Int) == 4)=false:=by simp;omega
  clear h4
  go_enter Tryz.func83,Tryz.ntmps83
  go_wp2_with fail
  go_ret
  exact⟨ret_bool h.out.symm,rfl⟩
theorem eqs_nil {s:ByteArray} (h:s.toList=[]):Hid (eqs s ByteArray.empty=true):=by
 show(_ == _)=true;rw[h];decide +kernel
theorem eqs_not_nil {s:ByteArray} (h:¬ s.toList=[]):Hid (eqs s ByteArray.empty=false):=by
 show(_ == _)=false;have e:ByteArray.empty.toList=[]:=by decide +kernel
 rw[e];cases hs:s.toList with
 | nil=>exact absurd hs h
 | cons a l=>rfl
theorem tag_ok {t:Tg} (hf:headFault t=false) (h0:∀ q,q < t.vars.length→varAt t.vars q=0):tagFault t=if 3 < t.vars.length then 4 else 0:=by
 unfold tagFault;rw[hf,firstN_zero _ _ h0];rfl
theorem tag_bad {t:Tg} (hf:headFault t=false) (j:Nat) (hj:j < t.vars.length) (h0:∀ q,q < j→varAt t.vars q=0) (h:varAt t.vars j≠0):tagFault t=varAt t.vars j:=by
 unfold tagFault;rw[hf,firstN_at _ j h0 h _ hj,if_neg h];rfl
theorem check_any (t:Tg) (v:Value) (w:World) (lo:Nat) (hv:ListOk Enc.str w lo w.heap.size v t.vars) (hn:t.vars.length≤140737488355328) (hvs:∀ s∈t.vars,s.size≤9223372036854775807)
 (hl:t.lang.size≤9223372036854775807) (hs:t.script.size≤9223372036854775807) (hr:t.region.size≤9223372036854775807):
 Calls Tryz.prog 47 #[.agg #[.string t.lang,.string t.script,.string t.region,v]] w fun e w'=>e=.returned (errV (tagFault t))∧Below w.heap.size w w':=by
 have H1:=hid (fun W=>made_low t.lang 2 3 W hl (by omega) (by omega))
 have H2:=hid (fun W=>script_any t.script W hs);have H3:=hid (fun W=>region_any t.region W hr);have HH:Hid (headFault t=(!made isLow t.lang 2 3 || (!eqs t.script ByteArray.empty && !scriptB t.script || !eqs t.region ByteArray.empty && !regionB t.region))):=rfl
 go_enter Tryz.func47,Tryz.ntmps47
 go_upto_region 1 with fail
 go_cut [30] (fun c wx=>c=.bool (headFault t)∧wx=w.alloc (.cells #[.string t.lang,.string t.script,.string t.region,v] 44))
 case first=>
  generalize made isLow t.lang 2 3=m at H1 HH;generalize scriptB t.script=sc at H2 HH;generalize regionB t.region=rg at H3 HH
  go_wp2_with fail
  refine(H1.out _).mono ?_;rintro e w1 ⟨rfl,rfl⟩;cases m with
  | false=>
    go_wp2_with fail
    go_meet
    case rel=>exact⟨by rw[HH.out];rfl,rfl⟩
  | true=>
    by_cases a:t.script.toList=[]
    ·have A:=eqs_nil a
     by_cases b:t.region.toList=[]
     ·have B:=eqs_nil b
      go_wp2_with fail
      go_meet
      case rel=>exact⟨by rw[HH.out,A.out,B.out];first|rfl|simp[b],rfl⟩
     ·have B:=eqs_not_nil b
      go_wp2_with fail
      refine(H3.out _).mono ?_;rintro e w1 ⟨rfl,rfl⟩;cases rg
      all_goals
       go_wp2_with fail
       go_meet
       case rel=>exact⟨by rw[HH.out,A.out,B.out];first|rfl|simp[b],rfl⟩
    ·have A:=eqs_not_nil a
     go_wp2_with fail
     refine(H2.out _).mono ?_;rintro e w1 ⟨rfl,rfl⟩;cases sc with
     | false=>
       go_wp2_with fail
       go_meet
       case rel=>exact⟨by rw[HH.out,A.out];rfl,rfl⟩
     | true=>
       by_cases b:t.region.toList=[]
       ·have B:=eqs_nil b
        go_wp2_with fail
        go_meet
        case rel=>exact⟨by rw[HH.out,A.out,B.out];first|rfl|simp[b],rfl⟩
       ·have B:=eqs_not_nil b
        go_wp2_with fail
        refine(H3.out _).mono ?_;rintro e w1 ⟨rfl,rfl⟩;cases rg
        all_goals
         go_wp2_with fail
         go_meet
         case rel=>exact⟨by rw[HH.out,A.out,B.out];first|rfl|simp[b],rfl⟩
 case rest=>
  obtain⟨rfl,rfl⟩:=hcut;cases hf:headFault t with
  | true=>
    have hT:Hid (tagFault t=3):=fault_head hf;clear HH
    go_wp2_with fail
    go_ret
    exact⟨by rw[hT.out];rfl,(Below.refl _ _).alloc (Nat.le_refl _) _⟩
  | false=>
    obtain⟨A,c,rfl,hc⟩:=hv.form;clear HH;have HF:=hid hf;clear hf
    go_wp2_with fail
    go_loop [35] (fun i=>∃ j:Nat,j≤t.vars.length∧i=.int .i64 j∧(∀ q,q < j→varAt t.vars q=0)) (fun i=>t.vars.length - (intOf i).toNat)
    case atStart=>exact⟨0,Nat.zero_le _,rfl,fun _ h=>absurd h (by omega)⟩
    case round=>
     obtain⟨j,hj,rfl,hno0⟩:=hrel;have hno:=hid hno0;clear hno0
     by_cases hlt:j < t.vars.length
     ·obtain⟨b,o,rfl,h1,h2,hcell⟩:=hv.strAt j hlt;have H4:=hid (made_both t.vars[j] 5 8 (w.alloc (.cells #[.string t.lang,.string t.script,.string t.region,.slice (some ⟨b,o,none⟩) t.vars.length c] 44)) (hvs _ (List.getElem_mem hlt)) (by omega) (by omega))
      have hgd:t.vars.getD j ByteArray.empty=t.vars[j]:=by rw[List.getD_eq_getElem?_getD,List.getElem?_eq_getElem hlt];rfl
      have hcs:∀ q,q < t.vars.length→(w.alloc (.cells #[.string t.lang,.string t.script,.string t.region,.slice (some ⟨b,o,none⟩) t.vars.length c] 44)).cell? ⟨b,o+q,none⟩=some (.string (t.vars.getD q ByteArray.empty)):=fun q hq=>by
       obtain⟨b',o',he,_,h2',hc'⟩:=hv.strAt q hq;injection he with he;injection he with e1 e2;subst e1;subst e2;rw[World.cell?_alloc_lt _ _ _ h2,hc',List.getD_eq_getElem?_getD,List.getElem?_eq_getElem hq];rfl
      have H5:=hid (Tryz.slices_Contains_string b o j c t.vars t.vars[j] _ (by omega) (by omega) hcs)
      have hva:Hid (varAt t.vars j=if made isBoth t.vars[j] 5 8 then(if Lib.containsS (t.vars.take j) t.vars[j]then 5 else 0)else 3):=by
       show varAt t.vars j=_;unfold varAt;rw[hgd];have:(t.vars.take j).any (eqs · t.vars[j])=Lib.containsS (t.vars.take j) t.vars[j]:=by
        rw[Bool.eq_iff_iff,List.any_eq_true,Lib.containsS_iff]
        constructor
        ·rintro⟨x,hx,he⟩;rw[←(eqs_iff _ _).1 he];exact hx
        ·intro hx;exact⟨_,hx,eqs_self _⟩
       rw[this]
      clear hcs hgd;generalize made isBoth t.vars[j] 5 8=m at H4 hva;generalize Lib.containsS (t.vars.take j) t.vars[j]=k at H5 hva
      go_wp2_with fail
      refine(H4.out).mono ?_;rintro e w1 ⟨rfl,rfl⟩;cases m with
      | false=>
        have hT:=hid (tag_bad HF.out j hlt hno.out (by rw[hva.out];simp))
        go_wp2_with fail
        go_ret
        exact⟨by rw[hT.out,hva.out];rfl,(Below.refl _ _).alloc (Nat.le_refl _) _⟩
      | true=>
        go_wp2_with fail
        refine(H5.out).mono ?_;rintro e w1 ⟨rfl,rfl⟩;cases k with
        | true=>
          have hT:=hid (tag_bad HF.out j hlt hno.out (by rw[hva.out];simp))
          go_wp2_with fail
          go_ret
          exact⟨by rw[hT.out,hva.out];rfl,(Below.refl _ _).alloc (Nat.le_refl _) _⟩
        | false=>
          go_wp2_with fail
          go_round
          case rel=>exact⟨j+1,by omega,by go_num,fun q hq=>by
           rcases Nat.lt_or_eq_of_le (Nat.le_of_lt_succ hq)with h|h
           ·exact hno.out q h
           ·subst h;rw[hva.out];rfl⟩
          case measure=>simp[intOf];omega
     ·have hall:∀ q,q < t.vars.length→varAt t.vars q=0:=fun q h=>hno.out q (by omega)
      have hT:=hid (tag_ok HF.out hall)
      go_wp2_with fail
      ·have h3:3 < (t.vars.length:Int):=by assumption
       go_ret
       exact⟨by rw[hT.out,if_pos (by omega)];rfl,(Below.refl _ _).alloc (Nat.le_refl _) _⟩
      ·have h3:(t.vars.length:Int)≤3:=by assumption
       go_ret
       exact⟨by rw[hT.out,if_neg (by omega)];rfl,(Below.refl _ _).alloc (Nat.le_refl _) _⟩
theorem less_none (l:ByteArray) (A:Option Addr) (c:Nat) (w:World):
 Calls Tryz.prog 68 #[.agg #[.string l,.string ByteArray.empty,.string ByteArray.empty,.slice A 0 c]] w fun e w'=>
  e=.returned (.tuple #[.agg #[.string l,.string ByteArray.empty,.string ByteArray.empty,.slice A 0 c],.bool false])∧Below w.heap.size w w':=by
 have hs:ByteArray.empty.toList=[]:=by decide +kernel
 go_enter Tryz.func68,Tryz.ntmps68
 go_wp2_with fail
 refine bodyPost_ret (v:=.tuple #[.agg #[.string l,.string ByteArray.empty,.string ByteArray.empty,.slice A 0 c],.bool false]) ?_ rfl ?_
 ·simp[results,Tryz.results68,go_sem]
 ·exact⟨rfl,by repeat' (first|exact Below.refl _ _|(refine Below.setCell ?_ (by simp;try omega) _)|(refine Below.alloc ?_ (by simp;try omega) _))⟩
theorem less_script (l s:ByteArray) (A:Option Addr) (c:Nat) (w:World) (hs:(!s.toList.isEmpty)=true):
 Calls Tryz.prog 68 #[.agg #[.string l,.string s,.string ByteArray.empty,.slice A 0 c]] w fun e w'=>
  e=.returned (.tuple #[.agg #[.string l,.string ByteArray.empty,.string ByteArray.empty,.slice A 0 c],.bool true])∧Below w.heap.size w w':=by
 have h0:ByteArray.empty.toList=[]:=by decide +kernel
 go_enter Tryz.func68,Tryz.ntmps68
 go_wp2_with fail
 refine bodyPost_ret (v:=.tuple #[.agg #[.string l,.string ByteArray.empty,.string ByteArray.empty,.slice A 0 c],.bool true]) ?_ rfl ?_
 ·simp[results,Tryz.results68,go_sem];rfl
 ·exact⟨rfl,by repeat' (first|exact Below.refl _ _|(refine Below.setCell ?_ (by simp;try omega) _)|(refine Below.alloc ?_ (by simp;try omega) _))⟩
theorem less_region (l s r:ByteArray) (A:Option Addr) (c:Nat) (w:World) (hr:(!r.toList.isEmpty)=true):
 Calls Tryz.prog 68 #[.agg #[.string l,.string s,.string r,.slice A 0 c]] w fun e w'=>
  e=.returned (.tuple #[.agg #[.string l,.string s,.string ByteArray.empty,.slice A 0 c],.bool true])∧Below w.heap.size w w':=by
 go_enter Tryz.func68,Tryz.ntmps68
 go_wp2_with fail
 refine bodyPost_ret (v:=.tuple #[.agg #[.string l,.string s,.string ByteArray.empty,.slice A 0 c],.bool true]) ?_ rfl ?_
 ·simp[results,Tryz.results68,go_sem];rfl
 ·exact⟨rfl,by repeat' (first|exact Below.refl _ _|(refine Below.setCell ?_ (by simp;try omega) _)|(refine Below.alloc ?_ (by simp;try omega) _))⟩
theorem info_string:(Tryz.prog.info? 9).map (fun i=>(i.zero,i.size,i.bytes))=some (some (.string ByteArray.empty),1,16):=by kernel_rfl
theorem less_vars (l s r:ByteArray) (vs:List ByteArray) (k:Nat) (hk:vs.length=k+1) (b o c:Nat) (hc:vs.length≤c) (w:World) (hb:b < w.heap.size) (hcell:∀ q (h:q < vs.length),w.cell? ⟨b,o+q,none⟩=some (.string vs[q])) (hn:vs.length≤1000000):
 Calls Tryz.prog 68 #[.agg #[.string l,.string s,.string r,.slice (some ⟨b,o,none⟩) vs.length c]] w fun e w'=>∃ v,
  e=.returned (.tuple #[.agg #[.string l,.string s,.string r,v],.bool true])∧w'.ownsRow w.heap.size 9 1 v k ((vs.take k).map .string)∧Below w.heap.size w w':=by
 rw[hk];have HK:=hid hk;rw[hk]at hc hn;clear hk
 go_enter Tryz.func68,Tryz.ntmps68
 obtain⟨i0,hi,hz0,hz1,hz2⟩:=info_parts info_string;have HC:=hid hcell;clear hcell
 go_wp2_with (at_builtin;refine wpList_append_own _ rfl _ _ 42 rfl (w.heap.size+1+1) 9 i0 (.string ByteArray.empty) 1 16 Tryz.underlying42 hi hz0 hz1 hz2 rfl (by decide) (.slice (some ⟨w.heap.size+1+1,0,none⟩) 0 0) 0 [] rfl ?h0 ⟨b,o,none⟩ k c ((vs.take k).map .string) rfl (by have:=HK.out;simp;omega) ?h1 ?h2 ?h3 ?h4 ?h5 ?_)
 case h0=>
  have hm:=World.ownsRow_made (e:=9) (size:=1) (base:=w.heap.size+1+1) ((w.alloc (.cells #[.string l,.string s,.string r,.slice (some ⟨b,o,none⟩) (k+1) c] 44)).alloc (.cells #[.string ⟨#[]⟩,.string ⟨#[]⟩,.string ⟨#[]⟩,.slice none 0 0] 44)) #[] 0 (by simp) (by decide) rfl
  simpa using hm
 case h1=>
  intro j u hj;rw[List.getElem?_map,List.getElem?_take]at hj;split at hj
  ·rename_i hjk
   have hjl:j < vs.length:=by have:=HK.out;omega
   rw[List.getElem?_eq_getElem hjl]at hj;simp only[Option.map_some,Option.some.injEq]at hj;subst hj;have e:((⟨b,o,none⟩:Addr).add j)=⟨b,o+j,none⟩:=by
    unfold Addr.add
    by_cases h0:j=0
    ·rw[if_pos h0,h0];rfl
    ·rw[if_neg h0]
   rw[e,World.cell?_alloc_lt _ _ _ (by simp;omega),World.cell?_alloc_lt _ _ _ (by simp;omega),World.cell?_alloc_lt _ _ _ hb]
   exact HC.out j hjl
  ·cases hj
 case h2=>
  intro u hu;obtain⟨y,_,rfl⟩:=List.mem_map.1 hu
  rfl
 case h3=>unfold maxLen;omega
 case h4=>omega
 case h5=>simp
 intro v w1 hown hgrow _;clear HC;have hsz:=hgrow.size;simp only[World.size_alloc]at hsz;have hbelow:Below w.heap.size w w1:=((((Below.refl _ _).alloc (Nat.le_refl _) _).alloc (by simp;try omega) _).alloc (by simp;try omega) _).grown hgrow (by simp;try omega) (fun q hq=>by simp[Value.ownBlock]at hq;omega)
 have m0:Blk w1 w.heap.size 44 #[.string l,.string s,.string r,.slice (some ⟨b,o,none⟩) (k+1) c]:=(hgrow.block _ (by simp;try omega) (fun e=>by simp[Value.ownBlock]at e;try omega)).trans (((Blk.new w _ _).alloc _).alloc _)
 have m1:Blk w1 (w.heap.size+1) 44 #[.string ⟨#[]⟩,.string ⟨#[]⟩,.string ⟨#[]⟩,.slice none 0 0]:=(hgrow.block _ (by simp;try omega) (fun e=>by simp[Value.ownBlock]at e;try omega)).trans ((by simpa using Blk.new (w.alloc _) 44 #[.string ⟨#[]⟩,.string ⟨#[]⟩,.string ⟨#[]⟩,.slice none 0 0]:Blk _ _ _ _).alloc _)
 have hv:∀ g,v.ownBlock=some g→w.heap.size+1 < g:=fun g hg=>(own_lt hown hg).1;have hown':w1.ownsRow w.heap.size 9 1 v k ((vs.take k).map .string):=by
  have:=own_mono hown (base':=w.heap.size) (by omega)
  simpa using this
 obtain⟨A,cap,rfl,hcap⟩:=own_slice hown';clear hown hgrow;have HV:=hid hv;have HO:=hid hown';have HB:=hid hbelow;clear hv hown' hbelow hi hz0 hz1 hz2;have c0:=m0.cell 0;have c1:=m0.cell 1;have c2:=m0.cell 2;have c3:=m0.cell 3;have d0:=m1.cell 0;have d1:=m1.cell 1;have d2:=m1.cell 2;have d3:=m1.cell 3;have f0:=m0.frozen 3;have f1:=m1.frozen 0;have f2:=m1.frozen 1;have f3:=m1.frozen 2;have f4:=m1.frozen 3;clear m0 m1;simp at c0 c1 c2 c3 d0 d1 d2 d3
 go_wp2_with fail
 refine bodyPost_ret (v:=.tuple #[.agg #[.string l,.string s,.string r,.slice A k cap],.bool true]) ?_ rfl ?_
 ·simp[results,Tryz.results68,go_sem,d0,d1,d2,d3]
  try rfl
 ·refine⟨_,rfl,?_,?_⟩
  ·refine own_keep HO.out fun g hg _=> ?_;have:=HV.out g hg
   repeat rw[Below.heap_setCell _ _ _ _ (by simp;omega)]
  ·repeat' (first|exact HB.out|(refine Below.setCell ?_ (by simp;try omega) _))
def Lessed (w w':World) (p q:Tg×Value) (b:Bool):Prop:=
 (less p.1=none∧b=false∧q=p)∨
 ∃ u,less p.1=some u∧b=true∧q.1=u∧(w'.ownsRow w.heap.size 9 1 q.2 u.vars.length (u.vars.map .string)∨(q.2=p.2∧p.1.vars=[]∧u.vars=[]))
theorem empty_of {s:ByteArray} (h:s.toList=[]):s=ByteArray.empty:=(eqs_iff _ _).1 (eqs_nil h).out
theorem less_any (p:Tg×Value) (w:World) (lo:Nat) (hv:ListOk Enc.str w lo w.heap.size p.2 p.1.vars) (hn:p.1.vars.length≤1000000):
 Calls Tryz.prog 68 #[.agg #[.string p.1.lang,.string p.1.script,.string p.1.region,p.2]] w fun e w'=>Below w.heap.size w w'∧
  ∃ q b,e=.returned (.tuple #[.agg #[.string q.1.lang,.string q.1.script,.string q.1.region,q.2],.bool b])∧Lessed w w' p q b:=by
 obtain⟨⟨l,s,r,vs⟩,v⟩:=p;dsimp only at hv hn ⊢;obtain⟨A,c,rfl,hc⟩:=hv.form
 by_cases hz:vs.length=0
 ·have hnil:vs=[]:=List.length_eq_zero_iff.1 hz;subst hnil
  by_cases hr:r.toList=[]
  ·obtain rfl:=empty_of hr
   by_cases hs:s.toList=[]
   ·obtain rfl:=empty_of hs;refine(less_none l A c w).mono ?_;rintro e w' ⟨rfl,hb⟩;exact⟨hb,(⟨l,_,_,[]⟩,_),false,rfl,.inl ⟨by simp[less,eqs_self],rfl,rfl⟩⟩
   ·refine(less_script l s A c w (by simpa using hs)).mono ?_
    rintro e w' ⟨rfl,hb⟩;have h1:=(eqs_not_nil hs).out;exact⟨hb,(⟨l,ByteArray.empty,_,[]⟩,_),true,rfl,.inr ⟨⟨l,ByteArray.empty,ByteArray.empty,[]⟩,by simp[less,eqs_self,h1],rfl,rfl,.inr ⟨rfl,rfl,rfl⟩⟩⟩
  ·refine(less_region l s r A c w (by simpa using hr)).mono ?_
   rintro e w' ⟨rfl,hb⟩;have h1:=(eqs_not_nil hr).out;exact⟨hb,(⟨l,s,ByteArray.empty,[]⟩,_),true,rfl,.inr ⟨⟨l,s,ByteArray.empty,[]⟩,by simp[less,h1],rfl,rfl,.inr ⟨rfl,rfl,rfl⟩⟩⟩
 ·obtain⟨k,hk⟩:∃ k,vs.length=k+1:=⟨vs.length - 1,by omega⟩
  obtain⟨b,o,rfl,hlo,hhi,_⟩:=hv.strAt 0 (by omega)
  refine(less_vars l s r vs k hk b o c hc w hhi (fun q h=> ?_) hn).mono ?_
  ·obtain⟨b',o',he,_,_,hcell⟩:=hv.strAt q h;injection he with he;injection he with e1 e2;subst e1;subst e2;exact hcell
  ·rintro e w' ⟨v,rfl,hown,hb⟩;have hl:(vs.take k).length=k:=by simp;omega
   refine⟨hb,(⟨l,s,r,vs.take k⟩,v),true,rfl,.inr ⟨⟨l,s,r,vs.take k⟩,?_,rfl,rfl,.inl ?_⟩⟩
   ·unfold less;simp only[hk];rw[if_pos (by omega)]
    simp
   ·show w'.ownsRow _ _ _ _ (vs.take k).length _;rw[hl];exact hown
end Go.Proofs.YtpfmmbbggcghiaaGreatDoor
