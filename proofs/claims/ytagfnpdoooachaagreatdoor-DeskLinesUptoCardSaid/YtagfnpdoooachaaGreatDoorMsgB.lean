/- Arguments opened by induction on how deep they are read; nodes of messages. -/
import Derived.Test.YtagfnpdoooachaaGreatDoorDecG
set_option linter.unusedSimpArgs false
set_option linter.unusedVariables false
set_option maxHeartbeats 3200000
namespace Go.Proofs.YtagfnpdoooachaaGreatDoor
open Go.RowKit Go.ChangeShapes Go.WideShapes Go.ChangeAt
open Lib (hid)
section
variable {P:Program} {t e:TypeId}
end
structure NdF (α:Type) where
 kind:Int
 text:ByteArray
 off:Int
 cases:List (ByteArray×List α)
def Nd:Nat→Type
 | 0=>Empty
 | n+1=>NdF (Nd n)
def Enc.cas {α:Type} (E:Enc α):Enc (ByteArray×List α):=
 ⟨2,40,fun w lo hi cs c=>∃ v,cs=[.string c.1,v]∧ListOk E w lo hi v c.2,fun B c=>c.1.size≤B∧E.list.fits B c.2,fun c=>c.1.size+1+E.list.bulk c.2⟩
def Enc.nodeF {α:Type} (E:Enc α):Enc (NdF α):=
 ⟨4,56,fun w lo hi cs x=>∃ v,cs=[.int .i64 x.kind,.string x.text,.int .i64 x.off,v]∧ListOk (Enc.cas E) w lo hi v x.cases,fun B x=>(Lit.int .i64 x.kind).wf=true∧x.text.size≤B∧(Lit.int .i64 x.off).wf=true∧(Enc.cas E).list.fits B x.cases,
   fun x=>x.text.size+1+(Enc.cas E).list.bulk x.cases⟩
def Enc.none_:Enc Empty:=⟨4,56,fun _ _ _ _ _=>False,fun _ _=>True,fun _=>1⟩
def Enc.node:(n:Nat)→Enc (Nd n)
 | 0=>Enc.none_
 | n+1=>Enc.nodeF (Enc.node n)
theorem Enc.none_laws:Enc.none_.Laws:=⟨fun h=>h.elim,fun h _=>h.elim,fun h _ _=>h.elim⟩
theorem Enc.cas_laws {α:Type} {E:Enc α} (hE:E.Laws):(Enc.cas E).Laws:=
 ⟨fun⟨_,h,_⟩=>by cases h;rfl,fun⟨v,h,k⟩ ha=>⟨v,h,k.keep hE ha⟩,fun⟨v,h,k⟩ h1 h2=>⟨v,h,k.mono hE h1 h2⟩⟩
theorem Enc.nodeF_laws {α:Type} {E:Enc α} (hE:E.Laws):(Enc.nodeF E).Laws:=
 ⟨fun⟨_,h,_⟩=>by cases h;rfl,fun⟨v,h,k⟩ ha=>⟨v,h,k.keep (Enc.cas_laws hE) ha⟩,fun⟨v,h,k⟩ h1 h2=>⟨v,h,k.mono (Enc.cas_laws hE) h1 h2⟩⟩
theorem Enc.node_laws:(n:Nat)→(Enc.node n).Laws
 | 0=>Enc.none_laws
 | n+1=>Enc.nodeF_laws (Enc.node_laws n)
end Go.Proofs.YtagfnpdoooachaaGreatDoor
namespace Go.Proofs.YtagfnpdoooachaaGreatDoor
open Go.RowKit
open Lib (hid)
def restE (s:ByteArray):ByteArray:=⟨(Lib.trimPrefix s.data.toList [61]).toArray⟩
def isE (s:ByteArray):Bool:=Lib.hasPrefix s.data.toList [61]
def exactR (s:ByteArray):Int:=if isE s=false then -1 else match atoiO (bts (restE s))with
 | none=> -1
 | some n=>if n < 0 then -1 else if 999 < n then -1 else if((str (Lib.itoa n)).toList == (restE s).toList)=true then n else -1
theorem restE_size (s:ByteArray):(restE s).size≤s.size:=by
 have h:(Lib.trimPrefix s.data.toList [61]).length≤s.data.toList.length:=by
  unfold Lib.trimPrefix;split
  ·rw[List.length_drop];omega
  ·exact Nat.le_refl _
 have e1:(restE s).size=(Lib.trimPrefix s.data.toList [61]).length:=by
  show(Lib.trimPrefix s.data.toList [61]).toArray.size=_;simp
 have e2:s.data.toList.length=s.size:=by rw[Array.length_toList];rfl
 omega
theorem exact_any (s:ByteArray) (w:World) (hs:s.size≤1000000000) (hv:MV w):Calls Tryz.prog 233 #[.string s] w fun e w'=>e=.returned (.int .i64 (exactR s))∧Below w.heap.size w w':=by
 have HC:Hid (Calls Tryz.prog 109 #[.string s,.string ⟨#[61]⟩] w fun e w'=>e=.returned (.tuple #[.string (restE s),.bool (isE s)])∧w'=w):=hid (Tryz.strings_CutPrefix s ⟨#[61]⟩ w);have HA:=hid (atoi_any (restE s) w (Nat.le_trans (restE_size s) hs) hv);have HI:Hid (∀ W n,Below w.heap.size w W→0≤n→n≤999→Calls Tryz.prog 62 #[.int .i64 n] W fun e w'=>e=.returned (.string (str (Lib.itoa n)))∧Below W.heap.size W w'):=hid fun W n hW h0 h1=>itoaM_any n W h0 (by omega) (hv.below hW)
 have HR:Hid (exactR s=if isE s=false then -1 else match atoiO (bts (restE s))with
  | none=> -1
  | some n=>if n < 0 then -1 else if 999 < n then -1 else if((str (Lib.itoa n)).toList == (restE s).toList)=true then n else -1):=hid rfl
 clear hv;generalize restE s=r at *;generalize isE s=b at*
 go_enter Tryz.func233,Tryz.ntmps233
 go_wp2_with fail
 refine HC.out.mono ?_;clear HC;rintro e w1 ⟨rfl,rfl⟩
 go_wp2_with fail
 refine HA.out.mono ?_;clear HA;rintro e w2 ⟨⟨v,rfl,hn⟩|⟨v,t,p,rfl,hn⟩,hb2⟩
 ·have HB2:=hid hb2;rw[hn]at HR;have HR':Hid (exactR s=if b=false then -1 else if v < 0 then -1 else if 999 < v then -1 else if((str (Lib.itoa v)).toList == r.toList)=true then v else -1):=hid HR.out
  clear HR hn hb2;cases b with
  | false=>
    have HE:Hid (exactR s= -1):=hid (by rw[HR'.out,if_pos rfl])
    clear HR' HI
    go_wp2_with fail
    go_ret
    exact⟨by rw[HE.out];rfl,HB2.out⟩
  | true=>
    rw[if_neg (by decide)]at HR'
    by_cases h1:v < 0
    ·have HE:Hid (exactR s= -1):=hid (by rw[HR'.out,if_pos h1])
     clear HR' HI
     go_wp2_with fail
     go_ret
     exact⟨by rw[HE.out];rfl,HB2.out⟩
    ·rw[if_neg h1]at HR'
     by_cases h2:999 < v
     ·have HE:Hid (exactR s= -1):=hid (by rw[HR'.out,if_pos h2])
      clear HR' HI
      go_wp2_with fail
      go_ret
      exact⟨by rw[HE.out];rfl,HB2.out⟩
     ·rw[if_neg h2]at HR';have HI1:=hid (HI.out w2 v HB2.out (by omega) (by omega))
      obtain⟨X,hX⟩:∃ X,X=((str (Lib.itoa v)).toList == r.toList):=⟨_,rfl⟩;have hX':((str (Lib.itoa v)).toList == r.toList)=X:=hX.symm;rw[←hX]at HR';generalize str (Lib.itoa v)=T at *;clear HI hX
      go_wp2_with fail
      refine HI1.out.mono ?_;clear HI1;rintro e w3 ⟨rfl,hb3⟩;have HB3:=hid (HB2.out.trans (hb3.mono HB2.out.size));clear hb3;cases X with
      | true=>
        have HE:Hid (exactR s=v):=hid (by rw[HR'.out,if_pos rfl])
        clear HR'
        go_wp2_with fail
        go_ret
        exact⟨by rw[HE.out];rfl,HB3.out⟩
      | false=>
        have HE:Hid (exactR s= -1):=hid (by rw[HR'.out,if_neg (by decide)])
        clear HR'
        go_wp2_with fail
        go_ret
        exact⟨by rw[HE.out];rfl,HB3.out⟩
 ·have HB2:=hid hb2;rw[hn]at HR;have HE:Hid (exactR s= -1):=hid (by rw[HR.out];cases b <;> rfl)
  clear HR hn hb2 HI;cases b with
  | false=>
    go_wp2_with fail
    go_ret
    exact⟨by rw[HE.out];rfl,HB2.out⟩
  | true=>
    go_wp2_with fail
    go_ret
    exact⟨by rw[HE.out];rfl,HB2.out⟩
def hasCases (k:Int):Bool:=k == 4 || k == 5
def casesR {α:Type} (x:NdF α):List (ByteArray×List α):=if hasCases x.kind then x.cases else []
theorem Cases_any {α:Type} {E:Enc α} (x:NdF α) (V:Value) (lo hi:Nat) (w:World) (hV:ListOk (Enc.cas E) w lo hi V x.cases):
 Calls Tryz.prog 188 #[.agg #[.int .i64 x.kind,.string x.text,.int .i64 x.off,V]] w fun e w'=>(∃ V',e=.returned V'∧(V'=V∨V'=.slice none 0 0)∧ListOk (Enc.cas E) w lo hi V' (casesR x))∧Below w.heap.size w w':=by
 obtain⟨VA,Vc,rfl,_⟩:=hV.form;obtain⟨W1,eW1⟩:∃ W1,W1=w.alloc (.cells #[.int .i64 x.kind,.string x.text,.int .i64 x.off,.slice VA x.cases.length Vc] 197):=⟨_,rfl⟩;have hb1:Below w.heap.size w W1:=by rw[eW1];exact(Below.refl _ _).alloc (Nat.le_refl _) _
 have m1:Blk W1 w.heap.size 197 #[.int .i64 x.kind,.string x.text,.int .i64 x.off,.slice VA x.cases.length Vc]:=by rw[eW1];exact Blk.new _ _ _
 have k0:W1.cell? ⟨w.heap.size,0,none⟩=some (.int .i64 x.kind):=(m1.cell 0).trans rfl;have k3:W1.cell? ⟨w.heap.size,3,none⟩=some (.slice VA x.cases.length Vc):=(m1.cell 3).trans rfl;have HB1:=hid hb1;have HW1:=hid eW1;have HR:Hid (casesR x=if hasCases x.kind then x.cases else []):=hid rfl
 have HV:=hid hV;clear hV eW1 hb1 m1
 go_enter Tryz.func188,Tryz.ntmps188
 go_upto_region 1 with fail
 rw[←HW1.out];clear HW1
 by_cases h4:x.kind=4
 ·have q4:(x.kind == 4)=true:=by rw[h4];rfl
  have HE:Hid (casesR x=x.cases):=hid (by rw[HR.out];unfold hasCases;rw[h4];rfl)
  clear HR h4
  go_wp2_with fail
  go_ret
  exact⟨⟨_,rfl,.inl rfl,by rw[HE.out];exact HV.out⟩,HB1.out⟩
 ·have q4:(x.kind == 4)=false:=by rw[beq_eq_false_iff_ne];exact h4
  by_cases h5:x.kind=5
  ·have q5:(x.kind == 5)=true:=by rw[h5];rfl
   have HE:Hid (casesR x=x.cases):=hid (by rw[HR.out];unfold hasCases;rw[h5];rfl)
   clear HR h5 h4
   go_wp2_with fail
   go_ret
   exact⟨⟨_,rfl,.inl rfl,by rw[HE.out];exact HV.out⟩,HB1.out⟩
  ·have q5:(x.kind == 5)=false:=by rw[beq_eq_false_iff_ne];exact h5
   have HE:Hid (casesR x=[]):=hid (by rw[HR.out];unfold hasCases;rw[q4,q5];rfl)
   clear HR h5 h4
   go_wp2_with fail
   go_ret
   exact⟨⟨_,rfl,.inr rfl,by rw[HE.out];exact ListOk.nil 0 none⟩,HB1.out⟩
def keyM (kind:Int) (k:ByteArray):Bool:=if kind=5 then nameR k else kindsB.any (eqs · k) || decide (0≤exactR k)
theorem key_any (kind off:Int) (text k:ByteArray) (A:Option Addr) (n c:Nat) (w:World) (hs:k.size≤1000000000) (hv:MV w):
 Calls Tryz.prog 221 #[.agg #[.int .i64 kind,.string text,.int .i64 off,.slice A n c],.string k] w fun e w'=>e=.returned (.bool (keyM kind k))∧Below w.heap.size w w':=by
 obtain⟨W1,eW1⟩:∃ W1,W1=w.alloc (.cells #[.int .i64 kind,.string text,.int .i64 off,.slice A n c] 197):=⟨_,rfl⟩;have hb1:Below w.heap.size w W1:=by rw[eW1];exact(Below.refl _ _).alloc (Nat.le_refl _) _
 have m1:Blk W1 w.heap.size 197 #[.int .i64 kind,.string text,.int .i64 off,.slice A n c]:=by rw[eW1];exact Blk.new _ _ _
 have k0:W1.cell? ⟨w.heap.size,0,none⟩=some (.int .i64 kind):=(m1.cell 0).trans rfl;have HB1:=hid hb1;have HW1:=hid eW1
 by_cases h5:kind=5
 ·have q5:(kind == 5)=true:=by rw[h5];rfl
  have HE:Hid (keyM kind k=nameR k):=hid (by unfold keyM;rw[if_pos h5])
  have HN:=hid (name_any k W1);generalize nameR k=X at *;clear h5 eW1 hb1 m1 hv
  go_enter Tryz.func221,Tryz.ntmps221
  go_upto_region 1 with fail
  rw[←HW1.out];clear HW1
  go_wp2_with fail
  refine HN.out.mono ?_;clear HN;rintro e w2 ⟨rfl,hb2⟩;have HB2:=hid (HB1.out.trans (hb2.mono HB1.out.size));clear hb2
  go_wp2_with fail
  go_ret
  exact⟨by rw[HE.out];rfl,HB2.out⟩
 ·have q5:(kind == 5)=false:=by rw[beq_eq_false_iff_ne];exact h5
  have HE:Hid (keyM kind k=(kindsB.any (eqs · k) || decide (0≤exactR k))):=hid (by unfold keyM;rw[if_neg h5])
  obtain⟨b,o,c',k1,k2,k3,k4⟩:=(hv.below hb1).kin;have hl:ListOk Enc.str W1 0 W1.heap.size (.slice (some ⟨b,o,none⟩) 6 c') kindsB:=⟨some ⟨b,o,none⟩,c',rfl,k1,fun i hi=>⟨b,o,[.string kindsB[i]],rfl,Nat.zero_le _,k2,fun j u hj=>by
   match j,hj with
   | 0,hj=>
     simp only[List.getElem?_cons_zero,Option.some.injEq]at hj;subst hj;have e:o+i*Enc.str.sz+0=o+i:=by show o+i*1+0=o+i;omega
     rw[e];exact k4 i hi
   | j+1,hj=>simp at hj,rfl⟩⟩
  have HS:=hid (containsS_any kindsB _ k 0 _ W1 hl (by decide))
  have HX:=hid (exact_any k W1 hs (hv.below hb1));generalize kindsB.any (eqs · k)=X at *;generalize exactR k=Y at *;clear h5 eW1 hb1 m1 hv k4 hl
  go_enter Tryz.func221,Tryz.ntmps221
  go_upto_region 1 with fail
  rw[←HW1.out];clear HW1
  go_wp2_with fail
  refine HS.out.mono ?_;clear HS;rintro e w2 ⟨rfl,rfl⟩;cases X with
  | true=>
    have HE2:Hid (keyM kind k=true):=hid (by rw[HE.out];rfl)
    clear HE HX
    go_wp2_with fail
    go_ret
    exact⟨by rw[HE2.out];rfl,HB1.out⟩
  | false=>
    have HE2:Hid (keyM kind k=decide (0≤Y)):=hid (by rw[HE.out];simp)
    clear HE
    go_wp2_with fail
    refine HX.out.mono ?_;clear HX;rintro e w3 ⟨rfl,hb3⟩;have HB3:=hid (HB1.out.trans (hb3.mono HB1.out.size));clear hb3
    go_wp2_with fail
    go_ret
    exact⟨by rw[HE2.out];rfl,HB3.out⟩
theorem ListOk.nodeAt {α:Type} {E:Enc α} {w:World} {lo hi:Nat} {A:Option Addr} {n c:Nat} {l:List (NdF α)} (h:ListOk (Enc.nodeF E) w lo hi (.slice A n c) l) (i:Nat) (hl:i < l.length):
 ∃ b o v,A=some ⟨b,o,none⟩∧lo≤b∧b < hi∧w.cell? ⟨b,o+i*4,none⟩=some (.int .i64 l[i].kind)∧w.cell? ⟨b,o+i*4+1,none⟩=some (.string l[i].text)∧w.cell? ⟨b,o+i*4+2,none⟩=some (.int .i64 l[i].off)∧w.cell? ⟨b,o+i*4+3,none⟩=some v∧ListOk (Enc.cas E) w lo hi v l[i].cases:=by
 obtain⟨A',c',hv,_,hi'⟩:=h;injection hv with hv1 _ _;subst hv1;obtain⟨b,o,cs,hA,h1,h2,h3,v,h4,h5⟩:=hi' i hl;subst h4;exact⟨b,o,v,hA,h1,h2,h3 0 _ rfl,h3 1 _ rfl,h3 2 _ rfl,h3 3 _ rfl,h5⟩
theorem ListOk.casAt {α:Type} {E:Enc α} {w:World} {lo hi:Nat} {A:Option Addr} {n c:Nat} {l:List (ByteArray×List α)} (h:ListOk (Enc.cas E) w lo hi (.slice A n c) l) (i:Nat) (hl:i < l.length):
 ∃ b o v,A=some ⟨b,o,none⟩∧lo≤b∧b < hi∧w.cell? ⟨b,o+i*2,none⟩=some (.string l[i].1)∧w.cell? ⟨b,o+i*2+1,none⟩=some v∧ListOk E w lo hi v l[i].2:=by
 obtain⟨A',c',hv,_,hi'⟩:=h;injection hv with hv1 _ _;subst hv1;obtain⟨b,o,cs,hA,h1,h2,h3,v,h4,h5⟩:=hi' i hl;subst h4;exact⟨b,o,v,hA,h1,h2,h3 0 _ rfl,h3 1 _ rfl,h5⟩
def fineM (k:Int) (t:ByteArray) (last:Option Int) (mark:Bool):Bool:=
 if k=1 then !t.toList.isEmpty && (match last with|none=>true|some l=>l != 1)else if k=2∨k=3∨k=4∨k=5 then nameR t else k == 6 && mark
theorem fineM_any {α:Type} {E:Enc α} (kind off:Int) (text:ByteArray) (C:Option Addr) (n c:Nat) (al:List (NdF α)) (vA:Value) (mark:Bool) (lo:Nat) (w:World) (hA:ListOk (Enc.nodeF E) w lo w.heap.size vA al) (hE:E.Laws) (ha:al.length≤1000000000):
 Calls Tryz.prog 189 #[.agg #[.int .i64 kind,.string text,.int .i64 off,.slice C n c],vA,.bool mark] w fun e w'=>e=.returned (.bool (fineM kind text (al.getLast?.map (·.kind)) mark))∧Below w.heap.size w w':=by
 obtain⟨AA,Ac,rfl,_⟩:=hA.form;obtain⟨W1,eW1⟩:∃ W1,W1=w.alloc (.cells #[.int .i64 kind,.string text,.int .i64 off,.slice C n c] 197):=⟨_,rfl⟩;have hb1:Below w.heap.size w W1:=by rw[eW1];exact(Below.refl _ _).alloc (Nat.le_refl _) _
 have m1:Blk W1 w.heap.size 197 #[.int .i64 kind,.string text,.int .i64 off,.slice C n c]:=by rw[eW1];exact Blk.new _ _ _
 have k0:W1.cell? ⟨w.heap.size,0,none⟩=some (.int .i64 kind):=(m1.cell 0).trans rfl;have k1:W1.cell? ⟨w.heap.size,1,none⟩=some (.string text):=(m1.cell 1).trans rfl;have HB1:=hid hb1;have HW1:=hid eW1;have HN:=hid (name_any text W1);have hA1:=hA.below (Enc.nodeF_laws hE) hb1;have HR:Hid (fineM kind text (al.getLast?.map (·.kind)) mark=if kind=1 then !text.toList.isEmpty && (match al.getLast?.map (·.kind)with|none=>true|some l=>l != 1)else if kind=2∨kind=3∨kind=4∨kind=5 then nameR text else kind == 6 && mark):=hid rfl
 clear hA eW1 hb1 m1
 by_cases h1:kind=1
 ·subst h1;rw[if_pos rfl]at HR;obtain⟨T,hT⟩:∃ T,T=text.toList.isEmpty:=⟨_,rfl⟩;have hT':text.toList.isEmpty=T:=hT.symm;rw[←hT]at HR;clear hT;cases T with
  | true=>
    have HE:Hid (fineM 1 text (al.getLast?.map (·.kind)) mark=false):=hid (by rw[HR.out];rfl)
    clear HR HN
    go_enter Tryz.func189,Tryz.ntmps189
    go_upto_region 1 with fail
    rw[←HW1.out];clear HW1
    go_wp2_with fail
    go_ret
    exact⟨by rw[HE.out];rfl,HB1.out⟩
  | false=>
    by_cases h0:al.length=0
    ·obtain rfl:=List.length_eq_zero_iff.1 h0;have HE:Hid (fineM 1 text (([]:List (NdF α)).getLast?.map (·.kind)) mark=true):=hid (by rw[HR.out];rfl)
     clear HR HN
     go_enter Tryz.func189,Tryz.ntmps189
     go_upto_region 1 with fail
     rw[←HW1.out];clear HW1
     go_wp2_with fail
     go_ret
     exact⟨by rw[HE.out];rfl,HB1.out⟩
    ·obtain⟨j,hj⟩:∃ j,al.length=j+1:=⟨al.length - 1,by omega⟩
     have hjl:j < al.length:=by omega
     obtain⟨b,o,v,rfl,_,_,x0,_,_,_,_⟩:=hA1.nodeAt j hjl;have hl:al.getLast?.map (·.kind)=some al[j].kind:=by
      rw[List.getLast?_eq_getElem?,show al.length - 1=j from by omega,List.getElem?_eq_getElem hjl]
      rfl
     rw[hl]at HR ⊢;generalize al[j].kind=lk at *;have HE:Hid (fineM 1 text (some lk) mark=(lk != 1)):=hid (by rw[HR.out];simp)
     have hz:((al.length:Int) == 0)=false:=by rw[beq_eq_false_iff_ne];omega
     have hsub:(al.length:Int) - 1=(j:Int):=by omega
     have i1:(0:Int)≤(j:Int):=Int.natCast_nonneg j;have i2:(j:Int) < (al.length:Int):=by omega
     have hw:wrap64 ((al.length:Int) - 1)=(j:Int):=by unfold wrap64;omega
     clear HR HN hA1 hl hj h0
     go_enter Tryz.func189,Tryz.ntmps189
     go_upto_region 1 with fail
     rw[←HW1.out];clear HW1
     go_wp2_with fail
     go_ret
     exact⟨by rw[HE.out];rfl,HB1.out⟩
 ·rw[if_neg h1]at HR;have q1:(kind == 1)=false:=by rw[beq_eq_false_iff_ne];exact h1
  by_cases hm:kind=2∨kind=3∨kind=4∨kind=5
  ·rw[if_pos hm]at HR;have HE:=hid HR.out;generalize nameR text=X at *;clear HR hA1 q1 h1;rcases hm with rfl|rfl|rfl|rfl
   all_goals
    go_enter Tryz.func189,Tryz.ntmps189
    go_upto_region 1 with fail
    rw[←HW1.out];clear HW1
    go_wp2_with fail
    refine HN.out.mono ?_;clear HN;rintro e w2 ⟨rfl,hb2⟩;have HB2:=hid (HB1.out.trans (hb2.mono HB1.out.size));clear hb2
    go_wp2_with fail
    go_ret
    exact⟨by rw[HE.out];rfl,HB2.out⟩
  ·rw[if_neg hm]at HR;have q2:(kind == 2)=false:=by rw[beq_eq_false_iff_ne];omega
   have q3:(kind == 3)=false:=by rw[beq_eq_false_iff_ne];omega
   have q4:(kind == 4)=false:=by rw[beq_eq_false_iff_ne];omega
   have q5:(kind == 5)=false:=by rw[beq_eq_false_iff_ne];omega
   obtain⟨Y,hY⟩:∃ Y,Y=(kind == 6):=⟨_,rfl⟩;have q6:(kind == 6)=Y:=hY.symm;rw[←hY]at HR;clear hY hm h1 HN hA1;cases Y with
   | true=>
     have HE:Hid (fineM kind text (al.getLast?.map (·.kind)) mark=mark):=hid (by rw[HR.out];simp)
     clear HR
     go_enter Tryz.func189,Tryz.ntmps189
     go_upto_region 1 with fail
     rw[←HW1.out];clear HW1
     go_wp2_with fail
     go_ret
     exact⟨by rw[HE.out];rfl,HB1.out⟩
   | false=>
     have HE:Hid (fineM kind text (al.getLast?.map (·.kind)) mark=false):=hid (by rw[HR.out];rfl)
     clear HR
     go_enter Tryz.func189,Tryz.ntmps189
     go_upto_region 1 with fail
     rw[←HW1.out];clear HW1
     go_wp2_with fail
     go_ret
     exact⟨by rw[HE.out];rfl,HB1.out⟩
end Go.Proofs.YtagfnpdoooachaaGreatDoor
