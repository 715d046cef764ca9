/- A text's bytes, one by one. -/
import Derived.Test.YtagfnpdoooachaaGreatDoorGrpB
set_option linter.unusedSimpArgs false
set_option linter.unusedVariables false
set_option maxHeartbeats 6400000
set_option maxRecDepth 100000
namespace Go.Proofs.YtagfnpdoooachaaGreatDoor
open Go.RowKit
open Lib (hid)
theorem bts_getL (s:ByteArray) (q:Nat) (h:q < s.size):(bts s)[q]'(by rw[bts_len];exact h)=s[q]:=by
 cases s with
 | mk d=>exact Array.getElem_toList (xs:=d) h
theorem idxByte (l:List UInt8) (c:UInt8):decide (0≤Lib.indexByte l c)=l.contains c:=by
 rw[Bool.eq_iff_iff,decide_eq_true_eq,List.contains_iff_mem];have hge:=Lib.indexByte_ge l c
 constructor
 ·intro h;obtain⟨o,ho⟩:=Int.eq_ofNat_of_zero_le h;exact List.mem_of_getElem? (Lib.indexByte_some ho).1
 ·intro h;rcases Int.lt_or_le (Lib.indexByte l c) 0 with h1|h1
  ·obtain⟨k,hk,he⟩:=List.getElem_of_mem h;exact absurd (by rw[List.getElem?_eq_getElem hk,he]) (Lib.indexByte_none (show Lib.indexByte l c= -1 by omega) k)
  ·exact h1
theorem drop_at (s:ByteArray) (j:Nat) (hj:j < s.size):(bts s).drop j=s[j]::(bts s).drop (j+1):=by
 have hj':j < (bts s).length:=by rw[bts_len];exact hj
 rw[List.drop_eq_getElem_cons hj',bts_getL s j hj]
abbrev LexR:=Option (List UInt8×List UInt8)
def appL (a:List UInt8) (p:List UInt8×List UInt8):List UInt8×List UInt8:=(a++p.1,p.2)
theorem appL_nil (o:LexR):o.map (appL [])=o:=by cases o <;> rfl
theorem appL_two (a b:List UInt8) (o:LexR):(o.map (appL b)).map (appL a)=o.map (appL (a++b)):=by
 cases o with
 | none=>rfl
 | some p=>show some _=some _;simp[appL,List.append_assoc]
def quotedL:List UInt8→LexR
 | []=>none
 | [c]=>if c=39 then some ([],[])else none
 | c::d::r=>if c=39 then(if d=39 then(quotedL r).map (appL [39])else some ([],d::r))else(quotedL (d::r)).map (appL [c])
theorem quotedL_plain {c:UInt8} {r:List UInt8} (h:c≠39):quotedL (c::r)=(quotedL r).map (appL [c]):=by
 cases r with
 | nil=>unfold quotedL;rw[if_neg h];rfl
 | cons d r=>exact if_neg h
theorem quotedL_two {r:List UInt8}:quotedL (39::39::r)=(quotedL r).map (appL [39]):=(if_pos rfl).trans (if_pos rfl)
theorem quotedL_end {r:List UInt8} (h:r.head? ≠some 39):quotedL (39::r)=some ([],r):=by
 cases r with
 | nil=>exact if_pos rfl
 | cons d r=>exact(if_pos rfl).trans (if_neg fun e=>h (by rw[e];rfl))
theorem quotedL_len:∀(n:Nat) (l t r:List UInt8),l.length≤n→quotedL l=some (t,r)→t.length+r.length+1≤l.length
 | 0,l,t,r,hn,h=>by
   obtain rfl:=List.length_eq_zero_iff.1 (Nat.le_zero.1 hn);cases h
 | n+1,[],t,r,hn,h=>by cases h
 | n+1,c::l,t,r,hn,h=>by
   have hl:l.length≤n:=by rw[List.length_cons]at hn;omega
   have sub:∀(l':List UInt8) (a:List UInt8),a.length=1→l'.length≤n→(quotedL l').map (appL a)=some (t,r)→t.length+r.length+1≤l'.length+1:=fun l' a ha hl' h'=>by
    cases hq:quotedL l' with
    | none=>rw[hq]at h';cases h'
    | some p=>
      obtain⟨t',r'⟩:=p;rw[hq]at h';injection h' with h';injection h' with h1 h2;have:=quotedL_len n l' t' r' hl' hq;rw[←h1,←h2,List.length_append];show a.length+t'.length+r'.length+1≤_;omega
   by_cases hc:c=39
   ·subst hc
    by_cases hh:l.head? =some 39
    ·cases l with
     | nil=>cases hh
     | cons d q=>
       injection hh with hh;subst hh;rw[quotedL_two]at h;rw[List.length_cons]at hl;have:=sub q [39] rfl (by omega) h
       rw[List.length_cons,List.length_cons];omega
    ·rw[quotedL_end hh]at h;injection h with h;injection h with h1 h2;rw[←h1,←h2,List.length_cons];show 0+l.length+1≤_;omega
   ·rw[quotedL_plain hc]at h;have:=sub l [c] rfl hl h;rw[List.length_cons];omega
def sgB (mark:Bool):ByteArray:=if mark then⟨#[123,125,35]⟩else⟨#[123,125]⟩
def sigL (mark:Bool) (c:UInt8):Bool:=(bts (sgB mark)).contains c
def sigH (mark:Bool) (r:List UInt8):Bool:=(r.head?.map (sigL mark)).getD false
def lexL (mark:Bool):Nat→List UInt8→LexR
 | 0,_=>none
 | _+1,[]=>some ([],[])
 | n+1,c::r=>if sigL mark c=true then some ([],c::r)else if c=39∧r.head? =some 39 then(lexL mark n r.tail).map (appL [39])
    else if c=39∧sigH mark r=true then(match quotedL r with|none=>none|some p=>(lexL mark n p.2).map (appL p.1))else(lexL mark n r).map (appL [c])
def bareM (mark:Bool) (l:List UInt8):LexR:=lexL mark (l.length+1) l
section
variable {mark:Bool} {n:Nat} {c:UInt8} {r:List UInt8}
theorem lexL_nil:lexL mark (n+1) []=some ([],[]):=rfl
theorem lexL_sign (h:sigL mark c=true):lexL mark (n+1) (c::r)=some ([],c::r):=if_pos h
theorem lexL_two (h:sigL mark 39=false):lexL mark (n+1) (39::39::r)=(lexL mark n r).map (appL [39]):=(if_neg (by rw[h];decide)).trans (if_pos ⟨rfl,rfl⟩)
theorem lexL_quote (h:sigL mark 39=false) (h1:r.head? ≠some 39) (h2:sigH mark r=true):lexL mark (n+1) (39::r)=match quotedL r with|none=>none|some p=>(lexL mark n p.2).map (appL p.1):=
 (if_neg (by rw[h];decide)).trans ((if_neg fun e=>h1 e.2).trans (if_pos ⟨rfl,h2⟩))
theorem lexL_bad (h:sigL mark 39=false) (h1:r.head? ≠some 39) (h2:sigH mark r=true) (hq:quotedL r=none):lexL mark (n+1) (39::r)=none:=by rw[lexL_quote h h1 h2,hq]
theorem lexL_good {p:List UInt8×List UInt8} (h:sigL mark 39=false) (h1:r.head? ≠some 39) (h2:sigH mark r=true) (hq:quotedL r=some p):lexL mark (n+1) (39::r)=(lexL mark n p.2).map (appL p.1):=by rw[lexL_quote h h1 h2,hq]
theorem quotedL_drop:∀(k:Nat) (l:List UInt8) (p:List UInt8×List UInt8),l.length≤k→quotedL l=some p→p.2=l.drop (l.length - p.2.length)
 | 0,l,p,hk,h=>by
   obtain rfl:=List.length_eq_zero_iff.1 (Nat.le_zero.1 hk);cases h
 | k+1,[],p,hk,h=>by cases h
 | k+1,c::l,p,hk,h=>by
   have hl:l.length≤k:=by rw[List.length_cons]at hk;omega
   have sub:∀(l':List UInt8) (a:List UInt8),l'.length≤k→(quotedL l').map (appL a)=some p→p.2=l'.drop (l'.length - p.2.length)∧p.2.length≤l'.length:=fun l' a hl' h'=>by
    cases hq:quotedL l' with
    | none=>rw[hq]at h';cases h'
    | some p'=>
      rw[hq]at h';injection h' with h';subst h';have h5:=quotedL_len _ _ p'.1 p'.2 (Nat.le_refl _) hq;exact⟨quotedL_drop k l' p' hl' hq,by show p'.2.length≤_;omega⟩
   by_cases hc:c=39
   ·subst hc
    by_cases hh:l.head? =some 39
    ·cases l with
     | nil=>cases hh
     | cons d q=>
       injection hh with hh;subst hh;rw[quotedL_two]at h;obtain⟨h1,h2⟩:=sub q [39] (by rw[List.length_cons]at hl;omega) h
       rw[List.length_cons,List.length_cons,show q.length+1+1 - p.2.length=(q.length - p.2.length)+1+1 from by omega,List.drop_succ_cons,List.drop_succ_cons]
       exact h1
    ·rw[quotedL_end hh]at h;injection h with h;subst h;show l=_;rw[List.length_cons];show l=(39::l).drop (l.length+1 - l.length);rw[show l.length+1 - l.length=1 from by omega];rfl
   ·rw[quotedL_plain hc]at h;obtain⟨h1,h2⟩:=sub l [c] hl h;rw[List.length_cons,show l.length+1 - p.2.length=(l.length - p.2.length)+1 from by omega,List.drop_succ_cons]
    exact h1
theorem lexL_plain (h:sigL mark c=false) (h1:c=39→r.head? ≠some 39∧sigH mark r=false):lexL mark (n+1) (c::r)=(lexL mark n r).map (appL [c]):=
 (if_neg (by rw[h];decide)).trans ((if_neg fun e=>(h1 e.1).1 e.2).trans (if_neg fun e=>by have:=(h1 e.1).2;rw[e.2]at this;cases this))
end
theorem lexL_len (mark:Bool):∀(n:Nat) (l t r:List UInt8),lexL mark n l=some (t,r)→t.length+r.length≤l.length
 | 0,l,t,r,h=>by cases h
 | n+1,[],t,r,h=>by
   injection h with h;injection h with h1 h2;rw[←h1,←h2];exact Nat.le_refl _
 | n+1,c::l,t,r,h=>by
   have sub:∀(l' a:List UInt8),(lexL mark n l').map (appL a)=some (t,r)→t.length+r.length≤a.length+l'.length:=fun l' a h'=>by
    cases hq:lexL mark n l' with
    | none=>rw[hq]at h';cases h'
    | some p=>
      obtain⟨t',r'⟩:=p;rw[hq]at h';injection h' with h';injection h' with h1 h2;have:=lexL_len mark n l' t' r' hq;rw[←h1,←h2,List.length_append];show a.length+t'.length+r'.length≤_;omega
   unfold lexL at h;rw[List.length_cons];split at h
   ·injection h with h;injection h with h1 h2;rw[←h1,←h2,List.length_cons];show 0+(l.length+1)≤_;omega
   split at h
   ·have:=sub _ _ h;rw[List.length_tail]at this;show _≤_;rw[show [(39:UInt8)].length=1 from rfl]at this;omega
   split at h
   ·split at h
    ·cases h
    ·rename_i p hp
     have:=sub _ _ h;have h5:=quotedL_len _ _ p.1 p.2 (Nat.le_refl _) hp;omega
   ·have:=sub _ _ h;rw[show [c].length=1 from rfl]at this;omega
theorem quotedL_suf {l:List UInt8} {p:List UInt8×List UInt8} (h:quotedL l=some p):p.2 <:+ l:=by
 rw[List.suffix_iff_eq_drop];exact quotedL_drop _ l p (Nat.le_refl _) h
theorem lexL_suf (mark:Bool):∀(n:Nat) (l:List UInt8) (p:List UInt8×List UInt8),lexL mark n l=some p→p.2 <:+ l
 | 0,l,p,h=>by cases h
 | n+1,[],p,h=>by
   injection h with h;subst h;exact List.suffix_refl _
 | n+1,c::l,p,h=>by
   have sub:∀(l' a:List UInt8),l' <:+ c::l→(lexL mark n l').map (appL a)=some p→p.2 <:+ c::l:=fun l' a hs h'=>by
    obtain⟨p',hq,h'⟩:=Option.map_eq_some_iff.1 h';subst h';exact(lexL_suf mark n l' p' hq).trans hs
   have hc:l <:+ c::l:=List.suffix_cons c l;unfold lexL at h;split at h
   ·injection h with h;subst h;exact List.suffix_refl _
   split at h
   ·exact sub _ _ ((List.tail_suffix l).trans hc) h
   split at h
   ·split at h
    ·cases h
    ·rename_i q hq
     exact sub _ _ ((quotedL_suf hq).trans hc) h
   ·exact sub _ _ hc h
theorem bareM_drop {mark:Bool} {l:List UInt8} {p:List UInt8×List UInt8} (h:bareM mark l=some p):l.drop (l.length - p.2.length)=p.2:=by
 have:=lexL_suf mark _ l p h;rw[List.suffix_iff_eq_drop]at this;exact this.symm
theorem bareM_len {mark:Bool} {l t r:List UInt8} (h:bareM mark l=some (t,r)):t.length+r.length≤l.length:=lexL_len mark _ _ _ _ h
section
variable {β:Type} (g:List β→List Ned→List Ned) (cnt:List β→Nat)
def casA:List (ByteArray×List β)→List Ned→List Ned
 | [],l=>l
 | c::r,l=>casA r (g c.2 l)
def nodA:List (NdF β)→List Ned→List Ned
 | [],l=>l
 | x::r,l=>nodA r (casA g (casesR x) (addN l x.kind x.text))
def cntC (l:List (ByteArray×List β)):Nat:=(l.map fun c=>cnt c.2).sum
def cntM (m:List (NdF β)):Nat:=(m.map fun x=>1+cntC cnt (casesR x)).sum
theorem casA_at {l:List (ByteArray×List β)} {j:Nat} {n:List Ned} (h:j < l.length):casA g (l.drop j) n=casA g (l.drop (j+1)) (g l[j].2 n):=by
 rw[List.drop_eq_getElem_cons h];rfl
theorem nodA_at {m:List (NdF β)} {j:Nat} {n:List Ned} (h:j < m.length):nodA g (m.drop j) n=nodA g (m.drop (j+1)) (casA g (casesR m[j]) (addN n m[j].kind m[j].text)):=by
 rw[List.drop_eq_getElem_cons h];rfl
theorem cntC_at {l:List (ByteArray×List β)} {j:Nat} (h:j < l.length):cntC cnt (l.drop j)=cnt l[j].2+cntC cnt (l.drop (j+1)):=by
 unfold cntC;rw[List.drop_eq_getElem_cons h,List.map_cons,List.sum_cons]
theorem cntM_at {m:List (NdF β)} {j:Nat} (h:j < m.length):cntM cnt (m.drop j)=1+cntC cnt (casesR m[j])+cntM cnt (m.drop (j+1)):=by
 unfold cntM;rw[List.drop_eq_getElem_cons h,List.map_cons,List.sum_cons]
end
theorem all_walk {β:Type} {E:Enc β} (hE:E.Laws) (g:List β→List Ned→List Ned) (cnt:List β→Nat) (m:List (NdF β)) (v:Value) (q base:Nat) (l:List Ned) (lo:Nat) (w:World) (hv:ListOk (Enc.nodeF E) w lo base v m) (hS:NeS base q l w) (hbq:base≤q) (hm:m.length≤10000000)
 (hlen:Hid (∀ b n,(g b n).length≤n.length+cnt b)) (hl:l.length+cntM cnt m≤100000000) (hcl:∀ x∈m,x.cases.length≤10000000)
 (IH:Hid (∀ x∈m,∀ c∈x.cases,∀ W U n,Below base w W→base≤W.heap.size→ListOk E W lo base U c.2→NeS base q n W→n.length+cnt c.2≤100000000→Calls Tryz.prog 173 #[.pointer (some ⟨q,0,none⟩),U] W fun e w'=>e=.returned (.tuple #[])∧BK base W w'∧NeS base q (g c.2 n) w')):
 Calls Tryz.prog 173 #[.pointer (some ⟨q,0,none⟩),v] w fun e w'=>e=.returned (.tuple #[])∧BK base w w'∧NeS base q (nodA g m l) w':=by
 obtain⟨A,c,rfl,_⟩:=hv.form;have HV:Hid (∀ W,Below base w W→ListOk (Enc.nodeF E) W lo base (.slice A m.length c) m):=hid fun W hW=>hv.below (Enc.nodeF_laws hE) hW;have HCl:=hid hcl;have HS0:=hid hS;have hbw:base≤w.heap.size:=by obtain⟨v,h1,_⟩:=hS.box;have:=h1.lt;omega
 clear hv hS hcl
 go_enter Tryz.func173,Tryz.ntmps173
 go_wp2_with fail
 go_loopw [5,7,10] (fun _ _ i wr=>∃(j:Nat) (n:List Ned),j≤m.length∧i=.int .i64 (j:Int)∧Hid (nodA g m l=nodA g (m.drop j) n)∧n.length+cntM cnt (m.drop j)≤100000000∧NeS base q n wr∧BK base w wr∧base≤wr.heap.size) (fun _ _ i _=>m.length - (intOf i).toNat)
 case atStart=>exact⟨0,l,Nat.zero_le _,rfl,hid rfl,hl,HS0.out,⟨Below.refl _ _,fun _ _ _ h _ _=>h⟩,hbw⟩
 case round=>
  obtain⟨j,n,hj,rfl,HNo,hln,hS,hb,hbs⟩:=hrel;have HB:=hid hb
  by_cases hlt:j < m.length
  ·have i1:(0:Int)≤(j:Int):=Int.natCast_nonneg j;have i2:(j:Int) < (m.length:Int):=by omega
   have hmem:m[j]∈m:=List.getElem_mem hlt;have HNx:Hid (nodA g m l=nodA g (m.drop (j+1)) (casA g (casesR m[j]) (addN n m[j].kind m[j].text))):=hid (by rw[HNo.out,nodA_at g hlt])
   rw[cntM_at cnt hlt]at hln;have HIj:Hid (∀ c∈casesR m[j],∀ W U n,Below base w W→base≤W.heap.size→ListOk E W lo base U c.2→NeS base q n W→n.length+cnt c.2≤100000000→Calls Tryz.prog 173 #[.pointer (some ⟨q,0,none⟩),U] W fun e w'=>e=.returned (.tuple #[])∧BK base W w'∧NeS base q (g c.2 n) w'):=hid fun c hc=>IH.out _ hmem c (casesR_sub hc);have hcl:(casesR m[j]).length≤10000000:=by
    unfold casesR;split
    ·exact HCl.out _ hmem
    ·exact Nat.zero_le _
   obtain⟨b0,o0,V,rfl,_,_,x0,x1,x2,x3,hV⟩:=(HV.out _ hb.below).nodeAt j hlt;obtain⟨VA,Vc,rfl,_⟩:=hV.form;have hal:=addN_len n m[j].kind m[j].text;have HVb:Hid (∀ W,Below base wr W→ListOk (Enc.cas E) W lo base (.slice VA m[j].cases.length Vc) m[j].cases):=hid fun W hW=>hV.below (Enc.cas_laws hE) hW;have hS2:=hS.below ((Below.refl wr.heap.size wr).alloc (Nat.le_refl _) (.cells #[.int .i64 m[j].kind,.string m[j].text,.int .i64 m[j].off,.slice VA m[j].cases.length Vc] 197));have HAd:=hid (add_any n q base m[j].kind m[j].off m[j].text VA m[j].cases.length Vc _ hS2 hbq (by omega))
   have HCas:Hid (∀ W,Below base wr W→Calls Tryz.prog 188 #[.agg #[.int .i64 m[j].kind,.string m[j].text,.int .i64 m[j].off,.slice VA m[j].cases.length Vc]] W fun e w'=>(∃ V',e=.returned V'∧(V'=.slice VA m[j].cases.length Vc∨V'=.slice none 0 0)∧ListOk (Enc.cas E) W lo base V' (casesR m[j]))∧Below W.heap.size W w'):=hid fun W hW=>Cases_any (E:=E) m[j] _ lo base W (HVb.out W hW);clear hV hmem HNo hb hS hS2 HVb;generalize casesR m[j]=cs at *;generalize addN n m[j].kind m[j].text=n1 at *;generalize m[j]=x at *;obtain⟨y0,y1,y2,y3⟩:=x;dsimp only at x0 x1 x2 x3 HAd HCas;obtain⟨W2,eW2⟩:∃ W2,W2=wr.alloc (.cells #[.int .i64 y0,.string y1,.int .i64 y2,.slice VA y3.length Vc] 197):=⟨_,rfl⟩;have hb2:Below wr.heap.size wr W2:=by rw[eW2];exact(Below.refl _ _).alloc (Nat.le_refl _) _
   have M2:Hid (Blk W2 wr.heap.size 197 #[.int .i64 y0,.string y1,.int .i64 y2,.slice VA y3.length Vc]):=hid (by rw[eW2];exact Blk.new _ _ _)
   rw[←eW2]at HAd;have a0:W2.cell? ⟨wr.heap.size,0,none⟩=some (.int .i64 y0):=(M2.out.cell 0).trans rfl;have a1:W2.cell? ⟨wr.heap.size,1,none⟩=some (.string y1):=(M2.out.cell 1).trans rfl;have a2:W2.cell? ⟨wr.heap.size,2,none⟩=some (.int .i64 y2):=(M2.out.cell 2).trans rfl;have a3:W2.cell? ⟨wr.heap.size,3,none⟩=some (.slice VA y3.length Vc):=(M2.out.cell 3).trans rfl;have HB2:=hid (BK.of (base:=base) hb2 hbs);have HW2:=hid eW2;clear eW2 hb2;obtain⟨wo,rfl⟩:∃ wo:World,wo=wr:=⟨_,rfl⟩
   go_upto_region 3 with fail
   rw[←HW2.out];clear HW2
   go_wp2_with fail
   refine HAd.out.mono ?_;clear HAd;rintro e w3 ⟨rfl,hb3,hS3⟩;have HB3:=hid (HB2.out.trans hb3);have M3:=hid (hb3.keep _ _ _ M2.out (by decide) (by decide))
   have HS3:=hid hS3;have c0:=(M3.out.cell 0).trans (show _=some (.int .i64 y0)from rfl);have c1:=(M3.out.cell 1).trans (show _=some (.string y1)from rfl);have c2:=(M3.out.cell 2).trans (show _=some (.int .i64 y2)from rfl);have c3:=(M3.out.cell 3).trans (show _=some (.slice VA y3.length Vc)from rfl);have HC3:=hid (HCas.out w3 HB3.out.below);have hs3:=HB3.out.below.size;clear hb3 hS3 HB2 M2 a0 a1 a2 a3 x0 x1 x2 x3 HCas
   go_wp2_with fail
   refine HC3.out.mono ?_;clear HC3;rintro e w4 ⟨⟨V',rfl,_,hV'⟩,hb4⟩;have HB4:=hid (HB3.out.trans (BK.of (base:=base) hb4 (by omega)))
   have HS4:=hid (HS3.out.below hb4);have hV4:ListOk (Enc.cas E) w4 lo base V' cs:=hV'.keep (Enc.cas_laws hE) ((Alk.of_below hb4).mono (Nat.le_refl _) (by omega))
   obtain⟨CA,Cc,rfl,_⟩:=hV4.form;have HV4:Hid (∀ W,Below base w4 W→ListOk (Enc.cas E) W lo base (.slice CA cs.length Cc) cs):=hid fun W hW=>hV4.below (Enc.cas_laws hE) hW;have hs4:base≤w4.heap.size:=Nat.le_trans hbs (HB4.out.below.size);clear hb4 hV' hV4 c0 c1 c2 c3 M3 HB3 HS3
   go_wp2_with fail
   go_loopw [7,20] (fun _ k wq=>∃(p:Nat) (n2:List Ned),p≤cs.length∧k=.int .i64 (p:Int)∧Hid (casA g cs n1=casA g (cs.drop p) n2)∧n2.length+cntC cnt (cs.drop p)≤n1.length+cntC cnt cs∧NeS base q n2 wq∧BK base w4 wq∧base≤wq.heap.size) (fun _ k _=>cs.length - (intOf k).toNat)
   case atStart=>exact⟨0,n1,Nat.zero_le _,rfl,hid rfl,Nat.le_refl _,HS4.out,⟨Below.refl _ _,fun _ _ _ h _ _=>h⟩,hs4⟩
   case round=>
    obtain⟨p,n2,hp,rfl,HCn,hl2,hSq,hbq2,hsq⟩:=hrel;have HBq:=hid hbq2
    by_cases hlq:p < cs.length
    ·have i3:(0:Int)≤(p:Int):=Int.natCast_nonneg p;have i4:(p:Int) < (cs.length:Int):=by omega
     have hmq:cs[p]∈cs:=List.getElem_mem hlq;have HCx:Hid (casA g cs n1=casA g (cs.drop (p+1)) (g cs[p].2 n2)):=hid (by rw[HCn.out,casA_at g hlq])
     rw[cntC_at cnt hlq]at hl2;have hgl:=hlen.out cs[p].2 n2;obtain⟨b1,o1,U,rfl,_,_,z0,z1,hU⟩:=(HV4.out _ hbq2.below).casAt p hlq;obtain⟨UA,Uc,rfl,_⟩:=hU.form;have hbx:Below base wr (wr.alloc (.cells #[.string cs[p].1,.slice UA cs[p].2.length Uc] 253)):=(Below.refl _ _).alloc hsq _;have HAl:=hid (HIj.out _ hmq (wr.alloc (.cells #[.string cs[p].1,.slice UA cs[p].2.length Uc] 253)) (.slice UA cs[p].2.length Uc) n2 (((HB.out.below.trans HB4.out.below).trans hbq2.below).trans hbx) (by simp;omega) (hU.below hE hbx) (hSq.below ((Below.refl _ _).alloc (Nat.le_refl _) _)) (by omega))
     have HBa:=hid (BK.of (base:=base) ((Below.refl wr.heap.size wr).alloc (Nat.le_refl _) (.cells #[.string cs[p].1,.slice UA cs[p].2.length Uc] 253)) hsq);clear hU hmq HCn hbq2 hSq hbx;generalize g cs[p].2 n2=n3 at *;generalize cnt cs[p].2=k3 at *;generalize cs[p]=cc at *;obtain⟨ck,cb⟩:=cc;dsimp only at z0 z1 HAl HBa
     go_wp2_with fail
     refine HAl.out.mono ?_;clear HAl;rintro e w5 ⟨rfl,hb5,hS5⟩;have HB5:=hid ((HBq.out.trans HBa.out).trans hb5);have HS5:=hid hS5;have hs5:base≤w5.heap.size:=by have:=hb5.below.size;simp at this;omega
     clear hb5 hS5
     go_wp2_with fail
     go_roundw
     case rel=>exact⟨p+1,n3,by omega,by go_num,HCx,by omega,HS5.out,HB5.out,hs5⟩
     case measure=>simp[intOf];omega
    ·obtain rfl:p=cs.length:=by omega
     have HE:Hid (casA g cs n1=n2):=hid (by rw[HCn.out,List.drop_length];rfl)
     have HSq:=hid hSq;have h0:cntC cnt (cs.drop cs.length)=0:=by rw[List.drop_length];rfl
     have hfin:n2.length+cntM cnt (m.drop (j+1))≤100000000:=by omega
     clear hbq2 hSq HCn
     go_wp2_with fail
     go_roundw
     case rel=>exact⟨j+1,n2,by omega,by go_num,hid (by rw[HNx.out,HE.out]),hfin,HSq.out,(HB.out.trans HB4.out).trans HBq.out,hsq⟩
     case measure=>simp[intOf];omega
  ·obtain rfl:j=m.length:=by omega
   have HE:Hid (nodA g m l=n):=hid (by rw[HNo.out,List.drop_length];rfl)
   have HSn:=hid hS;clear hb HNo hS
   go_wp2_with fail
   go_end0
   exact⟨rfl,HB.out,by rw[HE.out];exact HSn.out⟩
def allN:(n:Nat)→List (Nd n)→List Ned→List Ned
 | 0,_,l=>l
 | n+1,m,l=>nodA (allN n) (m:List (NdF (Nd n))) l
def cntN:(n:Nat)→List (Nd n)→Nat
 | 0,_=>0
 | n+1,m=>cntM (cntN n) (m:List (NdF (Nd n)))
theorem casA_len {β:Type} {g:List β→List Ned→List Ned} {cnt:List β→Nat} (h:∀ b n,(g b n).length≤n.length+cnt b):∀(cs:List (ByteArray×List β)) (n:List Ned),(casA g cs n).length≤n.length+cntC cnt cs
 | [],n=>by show n.length≤_;omega
 | c::r,n=>by
   have h1:=casA_len h r (g c.2 n);have h2:=h c.2 n;have e:cntC cnt (c::r)=cnt c.2+cntC cnt r:=by unfold cntC;rw[List.map_cons,List.sum_cons]
   show(casA g r (g c.2 n)).length≤_;omega
theorem nodA_len {β:Type} {g:List β→List Ned→List Ned} {cnt:List β→Nat} (h:∀ b n,(g b n).length≤n.length+cnt b):∀(m:List (NdF β)) (n:List Ned),(nodA g m n).length≤n.length+cntM cnt m
 | [],n=>by show n.length≤_;omega
 | x::r,n=>by
   have h1:=nodA_len h r (casA g (casesR x) (addN n x.kind x.text));have h2:=casA_len h (casesR x) (addN n x.kind x.text);have h3:=addN_len n x.kind x.text;have e:cntM cnt (x::r)=1+cntC cnt (casesR x)+cntM cnt r:=by unfold cntM;rw[List.map_cons,List.sum_cons]
   show(nodA g r (casA g (casesR x) (addN n x.kind x.text))).length≤_;omega
theorem allN_len:(n:Nat)→(m:List (Nd n))→(l:List Ned)→(allN n m l).length≤l.length+cntN n m
 | 0,_,l=>by show l.length≤_;omega
 | n+1,m,l=>nodA_len (allN_len n) (m:List (NdF (Nd n))) l
theorem all_any:(n:Nat)→(m:List (Nd n))→(v:Value)→(q base:Nat)→(l:List Ned)→(lo:Nat)→(w:World)→MsgIn n m→ListOk (Enc.node n) w lo base v m→NeS base q l w→base≤q→l.length+cntN n m≤100000000→
 Calls Tryz.prog 173 #[.pointer (some ⟨q,0,none⟩),v] w fun e w'=>e=.returned (.tuple #[])∧BK base w w'∧NeS base q (allN n m l) w'
 | 0,m,v,q,base,l,lo,w,hm,hv,hS,hbq,hl=>by
   obtain rfl:=empty_list m;obtain⟨A,c,rfl,_⟩:=hv.form;exact all_walk (E:=Enc.none_) Enc.none_laws (fun _ n=>n) (fun _=>0) ([]:List (NdF Empty)) (.slice A 0 c) q base l lo w (ListOk.nil c A) hS hbq (Nat.zero_le _) (hid fun _ n=>Nat.le_refl _) (by show l.length+0≤_;omega) (fun x hx=>by cases hx) (hid fun x hx=>by cases hx)
 | n+1,m,v,q,base,l,lo,w,hm,hv,hS,hbq,hl=>by
   exact all_walk (E:=Enc.node n) (Enc.node_laws n) (allN n) (cntN n) (m:List (NdF (Nd n))) v q base l lo w hv hS hbq hm.len (hid (allN_len n)) hl (fun x hx=>by have h1:smallF (SmallN n) x:=hm.each x hx;exact h1.2.1)
    (hid fun x hx c hc W U n' hW hbs hU hS' hl'=>all_any n c.2 U q base n' lo W (hm.body hx hc) hU hS' hbq hl')
def ofR (n:Nat) (m:List (Nd n)):Int×List Ned:=
 if checkAll n m≠0 then(checkAll n m,[])else if(allN n m []).any (fun x=>x.num && x.text)=true then(7,[])else(0,allN n m [])
theorem of_any (n:Nat) (m:List (Nd n)) (v:Value) (lo:Nat) (w:World) (hm:MsgIn n m) (hc:cntN n m≤10000000) (hv:ListOk (Enc.node n) w lo w.heap.size v m) (hV:MV w):
 Calls Tryz.prog 128 #[v] w fun e w'=>Below w.heap.size w w'∧∃ u,e=.returned (.tuple #[u,errV (ofR n m).1])∧w'.ownsRow w.heap.size 194 3 u (ofR n m).2.length (flatN (ofR n m).2):=by
 have HC:=hid (Check_any n m v lo w hm hv hV);have HA:Hid (∀ W q,Below w.heap.size w W→w.heap.size≤q→NeS w.heap.size q [] W→Calls Tryz.prog 173 #[.pointer (some ⟨q,0,none⟩),v] W fun e w'=>e=.returned (.tuple #[])∧BK w.heap.size W w'∧NeS w.heap.size q (allN n m []) w'):=hid fun W q hW hq hS=>
  all_any n m v q w.heap.size [] lo W hm (hv.below (Enc.node_laws n) hW) hS hq (by show 0+_≤_;omega)
 have HR:Hid (ofR n m=if checkAll n m≠0 then(checkAll n m,[])else if(allN n m []).any (fun x=>x.num && x.text)=true then(7,[])else(0,allN n m [])):=hid rfl
 have hlen:(allN n m []).length≤10000000:=by have:=allN_len n m [];simp at this;omega
 generalize checkAll n m=ck at *;generalize allN n m []=L at *;clear hv hV hm hc
 go_enter Tryz.func128,Tryz.ntmps128
 go_wp2_with fail
 refine HC.out.mono ?_;clear HC;rintro e w1 ⟨rfl,hb1⟩;have HB1:=hid hb1;clear hb1
 by_cases h0:ck=0
 ·subst h0;rw[errV_zero];obtain⟨W2,eW2⟩:∃ W2,W2=w1.alloc (.cells #[.slice none 0 0] 188):=⟨_,rfl⟩;have hb2:Below w1.heap.size w1 W2:=by rw[eW2];exact(Below.refl _ _).alloc (Nat.le_refl _) _
  have m2:Blk W2 w1.heap.size 188 #[.slice none 0 0]:=by rw[eW2];exact Blk.new _ _ _
  have HB2:=hid (HB1.out.trans (hb2.mono HB1.out.size));have HA2:=hid (HA.out W2 w1.heap.size HB2.out HB1.out.size ⟨_,m2,own_nil⟩);have HW2:=hid eW2;have hs1:=HB1.out.size;clear eW2 hb2 m2 HA
  go_upto_region 5 with fail
  rw[←HW2.out];clear HW2
  go_wp2_with fail
  refine HA2.out.mono ?_;clear HA2;rintro e w3 ⟨rfl,hb3,hS3⟩;obtain⟨u,hq3,hr3⟩:=hS3.box;obtain⟨UA,Uc,rfl,_⟩:=own_slice hr3;have HB3:=hid (HB2.out.trans hb3.below);have x0:w3.cell? ⟨w1.heap.size,0,none⟩=some (.slice UA L.length Uc):=(hq3.cell 0).trans rfl;have HCo:=hid (containsO_any L (.slice UA L.length Uc) 0 w3 (neds_of_own hr3 (Nat.zero_le _) (Nat.le_refl _)) (by omega))
  have Q3:=hid hq3;have R3:=hid hr3;have HR2:Hid (ofR n m=if L.any (fun x=>x.num && x.text)=true then(7,[])else(0,L)):=hid (by rw[HR.out,if_neg (by simp)])
  generalize L.any (fun x=>x.num && x.text)=X at *;clear hb3 hS3 hq3 hr3 HR HB2
  go_wp2_with fail
  refine HCo.out.mono ?_;clear HCo;rintro e w4 ⟨rfl,hb4⟩;have HB4:=hid (HB3.out.trans (hb4.mono HB3.out.size));have R4:=hid (own_below R3.out hb4 (Nat.le_refl _));have x4:w4.cell? ⟨w1.heap.size,0,none⟩=some (.slice UA L.length Uc):=((Q3.out.below hb4 Q3.out.lt).cell 0).trans rfl;clear hb4 x0 Q3 R3;cases X with
  | true=>
    have HE:Hid (ofR n m=(7,[])):=hid (by rw[HR2.out,if_pos rfl])
    clear HR2
    go_wp2_with fail
    go_ret2
    refine⟨HB4.out,.slice none 0 0,?_,?_⟩
    ·rw[HE.out];rfl
    ·rw[HE.out];exact own_nil
  | false=>
    have HE:Hid (ofR n m=(0,L)):=hid (by rw[HR2.out,if_neg (by decide)])
    clear HR2
    go_wp2_with fail
    go_ret2
    refine⟨HB4.out,.slice UA L.length Uc,?_,?_⟩
    ·rw[HE.out];rfl
    ·rw[HE.out];exact R4.out
 ·have HE:Hid (ofR n m=(ck,[])):=hid (by rw[HR.out,if_pos h0])
  rw[errV_ne h0];clear HR HA
  go_wp2_with fail
  go_ret2
  refine⟨HB1.out,.slice none 0 0,?_,?_⟩
  ·rw[HE.out,errV_ne h0];rfl
  ·rw[HE.out];exact own_nil
theorem mem_sum {α:Type} (f:α→Nat):∀(l:List α) (x:α),x∈l→f x≤(l.map f).sum
 | a::l,x,h=>by
   rw[List.map_cons,List.sum_cons];rcases List.mem_cons.1 h with rfl|h
   ·omega
   ·have:=mem_sum f l x h;omega
theorem len_le_sum {α:Type} (f:α→Nat):∀(l:List α),(∀ x∈l,1≤f x)→l.length≤(l.map f).sum
 | [],_=>Nat.le_refl _
 | a::l,h=>by
   rw[List.map_cons,List.sum_cons,List.length_cons];have:=len_le_sum f l fun x hx=>h x (List.mem_cons_of_mem _ hx);have:=h a (List.mem_cons_self ..);omega
theorem sum_map_le {α:Type} (f g:α→Nat):∀(l:List α),(∀ x∈l,f x≤g x)→(l.map f).sum≤(l.map g).sum
 | [],_=>Nat.le_refl _
 | a::l,h=>by
   rw[List.map_cons,List.sum_cons,List.map_cons,List.sum_cons];have:=sum_map_le f g l fun x hx=>h x (List.mem_cons_of_mem _ hx);have:=h a (List.mem_cons_self ..);omega
theorem node_bulk (n:Nat) (x:NdF (Nd n)):(Enc.node (n+1)).bulk x=x.text.size+1+((x.cases.map (Enc.cas (Enc.node n)).bulk).sum+1):=rfl
theorem cas_bulk (n:Nat) (c:ByteArray×List (Nd n)):(Enc.cas (Enc.node n)).bulk c=c.1.size+1+((c.2.map (Enc.node n).bulk).sum+1):=rfl
theorem node_pos:(n:Nat)→(x:Nd n)→1≤(Enc.node n).bulk x
 | 0,x=>(show Empty from x).elim
 | n+1,x=>by rw[node_bulk n x];omega
theorem small_of_bulk:(n:Nat)→(x:Nd n)→(Enc.node n).bulk x≤10000000→SmallN n x
 | 0,_,_=>trivial
 | n+1,x,h=>by
   rw[node_bulk n x]at h;refine⟨by omega,?_,fun c hc=> ?_⟩
   ·have:=len_le_sum (Enc.cas (Enc.node n)).bulk (NdF.cases (α:=Nd n) x) fun c _=>by rw[cas_bulk];omega
    omega
   ·have h1:=mem_sum (Enc.cas (Enc.node n)).bulk (NdF.cases (α:=Nd n) x) c hc;rw[cas_bulk]at h1;have h2:=len_le_sum (Enc.node n).bulk c.2 fun y _=>node_pos n y;refine⟨by omega,by omega,fun y hy=>small_of_bulk n y ?_⟩
    have:=mem_sum (Enc.node n).bulk c.2 y hy;omega
theorem msgIn_of_bulk (n:Nat) (m:List (Nd n)) (h:(m.map (Enc.node n).bulk).sum≤10000000):MsgIn n m:=
 ⟨Nat.le_trans (len_le_sum (Enc.node n).bulk m fun y _=>node_pos n y) h,fun x hx=>small_of_bulk n x (Nat.le_trans (mem_sum _ m x hx) h)⟩
theorem cnt_of_bulk:(n:Nat)→(m:List (Nd n))→cntN n m≤(m.map (Enc.node n).bulk).sum
 | 0,_=>Nat.zero_le _
 | n+1,m=>by
   refine sum_map_le (fun x:NdF (Nd n)=>1+cntC (cntN n) (casesR x)) (Enc.node (n+1)).bulk m fun x _=> ?_;rw[node_bulk n x];have h1:cntC (cntN n) (casesR x)≤(x.cases.map (Enc.cas (Enc.node n)).bulk).sum:=by
    have h2:cntC (cntN n) x.cases≤(x.cases.map (Enc.cas (Enc.node n)).bulk).sum:=sum_map_le _ _ x.cases fun c _=>by
     rw[cas_bulk];have:=cnt_of_bulk n c.2;omega
    unfold casesR;split
    ·exact h2
    ·exact Nat.zero_le _
   omega
end Go.Proofs.YtagfnpdoooachaaGreatDoor
