/- linguisterlaw4.DeskLines. -/
import Derived.Test.YtagfnpdoooachaaGreatDoorRefC
import Derived.Test.YtagfnpdoooachaaGreatDoorCards
import Derived.Test.YtagfnpdoooachaaGreatDoorTie
set_option linter.unusedSimpArgs false
set_option linter.unusedVariables false
set_option maxHeartbeats 6400000
set_option maxRecDepth 100000
namespace Go.Proofs.YtagfnpdoooachaaGreatDoor
open Go.RowKit
open Lib (hid)
theorem own_emptyS {w:World} {g base:Nat} (h:Blk w g 9 #[]) (hb:base≤g):w.ownsRow base 9 1 (.slice (some ⟨g,0,none⟩) 0 0) 0 []:=
 ⟨rfl,.inr ⟨g,0,#[],rfl,hb,h,Nat.le_refl _,by unfold maxLen;omega,rfl,rfl⟩⟩
theorem runA_len (s:ByteArray):(runA s).length≤100:=by
 unfold runA;split
 ·show 1≤100;omega
 ·rw[List.length_map];omega
def nlB:ByteArray:=⟨#[10]⟩
theorem run_both {S t:ByteArray} (h:bts S=[]∨∃ a,bts S=a++[10]) (hn:(splitS S ⟨#[10]⟩).length+(splitS t ⟨#[10]⟩).length≤100):runA (S++t)=runA S++runA t:=by
 have e:S++t=str (bts S++bts t):=by rw[←str_app,str_bts,str_bts]
 rw[e];exact run_app h hn
theorem ends_nl {s:ByteArray} {k:Nat} (hk:s.size=k+1) (h:s[k]=10):∃ a,bts s=a++[10]:=by
 have hl:(bts s).length=k+1:=by rw[bts_len];exact hk
 refine⟨(bts s).take k,?_⟩;have h1:(bts s).take (k+1)=(bts s).take k++[(bts s)[k]'(by omega)]:=by rw[List.take_add_one,List.getElem?_eq_getElem (by omega)];rfl
 rw[←hl,List.take_length]at h1;have h2:(bts s)[k]'(by omega)=s[k]:=bts_get s k (by omega)
 rw[h2,h]at h1;exact h1
theorem put_nl (s:ByteArray):∃ a,bts (s++nlB)=a++[10]:=⟨bts s,by
 have e:s++nlB=str (bts s++[10]):=by rw[←str_app,str_bts];rfl
 rw[e,bts_str]⟩
theorem deskLines_any (s t:ByteArray) (w:World) (hs:s.size≤1048576) (ht:t.size≤1048576) (hv:EvV w) (hA:AheadV w):
 Calls Tryz.prog 3 #[.string s,.string t] w fun e w'=>e=.returned (.bool true)∧Below w.heap.size w w':=by
 have HRn:Hid (∀ W x,Below w.heap.size w W→x.size≤10000000→Calls Tryz.prog 5 #[.string x] W fun e w'=>∃ v,e=.returned v∧ListOk Enc.str w' W.heap.size w'.heap.size v (runA x)∧Below W.heap.size W w'):=hid fun W x hW hx=>run_any x W (by omega) (hv.below hW) (hA.below hW)
 have HF:Hid (Calls Tryz.prog 5 #[.string ⟨#[107,105,110,100,32,101,110,32,49,10,110,117,109,32,49,50,51,52,46,53]⟩] w fun e w'=>∃ v,e=.returned v∧ListOk Enc.str w' w.heap.size w'.heap.size v [⟨#[111,110,101]⟩,⟨#[49,44,50,51,52,46,53]⟩]∧Below w.heap.size w w'):=hid (by
  have h:=HRn.out w ⟨#[107,105,110,100,32,101,110,32,49,10,110,117,109,32,49,50,51,52,46,53]⟩ (Below.refl _ _) (by decide)
  rw[run_fact]at h;exact h)
 clear hv hA
 by_cases hse:s=ByteArray.empty
 ·have HEnd:Hid (bts s=[]∨∃ a,bts s=a++[10]):=hid (.inl (by rw[hse];rfl))
  have hx0:(s.toList == (⟨#[]⟩:ByteArray).toList)=true:=(eqs_iff _ _).2 hse;have ee:ByteArray.empty.toList=[]:=by rw[ByteArray.toList_eq];rfl
  have hx1:s.toList.isEmpty=true:=by rw[hse,ee];rfl
  have hx2:s.size=0:=by rw[hse];rfl
  clear hse ee
  go_enter Tryz.func3,Tryz.ntmps3
  go_wp2_with fail
  refine HF.out.mono ?_;clear HF;rintro e w1 ⟨v1,rfl,hl1,hb1⟩;obtain⟨A1,c1,rfl,_⟩:=hl1.form;obtain⟨W2,eW2⟩:∃ W,W=w1.alloc (.cells #[.string ⟨#[111,110,101]⟩,.string ⟨#[49,44,50,51,52,46,53]⟩] 9):=⟨_,rfl⟩;have hb2:Below w1.heap.size w1 W2:=by rw[eW2];exact(Below.refl _ _).alloc (Nat.le_refl _) _
  have hk2:Blk W2 w1.heap.size 9 #[.string ⟨#[111,110,101]⟩,.string ⟨#[49,44,50,51,52,46,53]⟩]:=by rw[eW2];exact Blk.new _ _ _
  have hl2:ListOk Enc.str W2 0 W2.heap.size (.slice (some ⟨w1.heap.size,0,none⟩) 2 2) [⟨#[111,110,101]⟩,⟨#[49,44,50,51,52,46,53]⟩]:=ListOk.ofCells (l:=[⟨#[111,110,101]⟩,⟨#[49,44,50,51,52,46,53]⟩]) (o:=0) (c:=2) (Nat.zero_le _) hk2.lt (Nat.le_refl _) fun j hj=>by
   have hj2:j < 2:=hj
   match j,hj2 with
   | 0,_=>exact(hk2.cell 0).trans rfl
   | 1,_=>exact(hk2.cell 1).trans rfl
  have HT:=hid (texts_any _ _ _ _ _ _ _ _ W2 ((hl1.below Enc.str_laws hb2).mono Enc.str_laws (Nat.le_refl _) hb2.size) hl2 (by decide) (by decide))
  have HB2:=hid (hb1.trans (hb2.mono hb1.size));have EW2:=hid eW2;clear hl1 hl2 hb1 hb2 hk2 eW2
  go_wp2_with fail
  rw[←EW2.out];clear EW2;refine HT.out.mono ?_;clear HT;rintro e w3 ⟨rfl,nq,hw3⟩;rw[show decide True=true from rfl];have HB3:Hid (Below w.heap.size w w3):=hid (by rw[hw3];exact below_drewN HB2.out nq)
  clear hw3 HB2;have HApp:Hid ((splitS s ⟨#[10]⟩).length+(splitS t ⟨#[10]⟩).length≤100→runA (s++t)=runA s++runA t):=hid fun hn=>run_both HEnd.out hn;have H6:=hid (HRn.out w3 s HB3.out (by omega))
  have H7:Hid (∀ W,Below w.heap.size w W→Calls Tryz.prog 5 #[.string t] W fun e w'=>∃ v,e=.returned v∧ListOk Enc.str w' W.heap.size w'.heap.size v (runA t)∧Below W.heap.size W w'):=hid fun W hW=>HRn.out W t hW (by omega)
  have hst:(s++t).size=s.size+t.size:=ByteArray.size_append;have H8:Hid (∀ W,Below w.heap.size w W→Calls Tryz.prog 5 #[.string (s++t)] W fun e w'=>∃ v,e=.returned v∧ListOk Enc.str w' W.heap.size w'.heap.size v (runA (s++t))∧Below W.heap.size W w'):=hid fun W hW=>HRn.out W (s++t) hW (by omega)
  have HC1:Hid (∀ W,Calls Tryz.prog 6 #[.string s,.string ⟨#[10]⟩] W fun e w'=>∃ v,e=.returned v∧w'.ownsRow W.heap.size 9 1 v (splitS s ⟨#[10]⟩).length ((splitS s ⟨#[10]⟩).map .string)∧(splitS s ⟨#[10]⟩).length≤s.size+1∧Below W.heap.size W w'):=hid fun W=>refCut_any s 10 W (by omega)
  have HC2:Hid (∀ W,Calls Tryz.prog 6 #[.string t,.string ⟨#[10]⟩] W fun e w'=>∃ v,e=.returned v∧w'.ownsRow W.heap.size 9 1 v (splitS t ⟨#[10]⟩).length ((splitS t ⟨#[10]⟩).map .string)∧(splitS t ⟨#[10]⟩).length≤t.size+1∧Below W.heap.size W w'):=hid fun W=>refCut_any t 10 W (by omega)
  have q8:¬(9223372036854775807 < s.size+t.size):=by omega
  have r6:=runA_len s;have r7:=runA_len t;have r8:=runA_len (s++t);generalize (splitS s ⟨#[10]⟩).map Value.string=x1 at *;generalize (splitS t ⟨#[10]⟩).map Value.string=x2 at *;generalize (splitS s ⟨#[10]⟩).length=n1 at *;generalize (splitS t ⟨#[10]⟩).length=n2 at *;generalize runA s=RS at *;generalize runA t=RT at *;generalize runA (s++t)=RU at *;clear HRn HEnd hst
  go_wp2_with fail
  refine H6.out.mono ?_;clear H6;rintro e w4 ⟨v4,rfl,hl4,hb4⟩;obtain⟨A4,c4,rfl,_⟩:=hl4.form;have HB4:=hid (HB3.out.trans (hb4.mono HB3.out.size));have HL4:=hid hl4;have H7b:=hid (H7.out w4 HB4.out);clear hl4 hb4 HB3 H7
  go_wp2_with fail
  refine H7b.out.mono ?_;clear H7b;rintro e w5 ⟨v5,rfl,hl5,hb5⟩;obtain⟨A5,c5,rfl,_⟩:=hl5.form;have HB5:=hid (HB4.out.trans (hb5.mono HB4.out.size));have HL4:=hid ((HL4.out.below Enc.str_laws hb5).mono Enc.str_laws (Nat.zero_le _) hb5.size);have HL5:=hid (hl5.mono Enc.str_laws (Nat.zero_le _) (Nat.le_refl _));have H8b:=hid (H8.out w5 HB5.out);clear hl5 hb5 HB4 H8
  go_wp2_with fail
  refine H8b.out.mono ?_;clear H8b;rintro e w6 ⟨v6,rfl,hl6,hb6⟩;obtain⟨A6,c6,rfl,_⟩:=hl6.form;have HB6:=hid (HB5.out.trans (hb6.mono HB5.out.size));have HL4:=hid ((HL4.out.below Enc.str_laws hb6).mono Enc.str_laws (Nat.zero_le _) hb6.size);have HL5:=hid ((HL5.out.below Enc.str_laws hb6).mono Enc.str_laws (Nat.zero_le _) hb6.size);have HL6:=hid (hl6.mono Enc.str_laws (Nat.zero_le _) (Nat.le_refl _));have HC1b:=hid (HC1.out w6);clear hl6 hb6 HB5 HC1
  go_wp2_with fail
  refine HC1b.out.mono ?_;clear HC1b;rintro e w7 ⟨v7,rfl,ho7,m7,hb7⟩;obtain⟨A7,c7,rfl,_⟩:=own_slice ho7;have HB7:=hid (HB6.out.trans (hb7.mono HB6.out.size));have HL4:=hid ((HL4.out.below Enc.str_laws hb7).mono Enc.str_laws (Nat.zero_le _) hb7.size);have HL5:=hid ((HL5.out.below Enc.str_laws hb7).mono Enc.str_laws (Nat.zero_le _) hb7.size);have HL6:=hid ((HL6.out.below Enc.str_laws hb7).mono Enc.str_laws (Nat.zero_le _) hb7.size);have HC2b:=hid (HC2.out w7);clear ho7 hb7 HB6 HC2
  go_wp2_with fail
  refine HC2b.out.mono ?_;clear HC2b;rintro e w8 ⟨v8,rfl,ho8,m8,hb8⟩;obtain⟨A8,c8,rfl,_⟩:=own_slice ho8;have HB8:=hid (HB7.out.trans (hb8.mono HB7.out.size));have HL4:=hid ((HL4.out.below Enc.str_laws hb8).mono Enc.str_laws (Nat.zero_le _) hb8.size);have HL5:=hid ((HL5.out.below Enc.str_laws hb8).mono Enc.str_laws (Nat.zero_le _) hb8.size);have HL6:=hid ((HL6.out.below Enc.str_laws hb8).mono Enc.str_laws (Nat.zero_le _) hb8.size);clear ho8 hb8 HB7
  by_cases hbig:n1+n2≤100
  ·have HRU:=hid (HApp.out hbig);have hgt:¬((100:Int) < (n1:Int)+(n2:Int)):=by omega
   obtain⟨wo,rfl⟩:∃ wo:World,wo=w8:=⟨_,rfl⟩;obtain⟨W9,eW9⟩:∃ W,W=wo.alloc (.cells #[] 9):=⟨_,rfl⟩;have hb9:Below wo.heap.size wo W9:=by rw[eW9];exact(Below.refl _ _).alloc (Nat.le_refl _) _
   have ho9:W9.ownsRow wo.heap.size 9 1 (.slice (some ⟨wo.heap.size,0,none⟩) 0 0) 0 []:=own_emptyS (by rw[eW9];exact Blk.new _ _ _) (Nat.le_refl _)
   have HO9:=hid ho9;have HB9:=hid hb9;have HZ9:Hid (wo.heap.size≤W9.heap.size):=hid hb9.size;have HM9:=hid (news_strs (HL4.out.below Enc.str_laws hb9));have EW9:=hid eW9;clear ho9 hb9 eW9 hbig HApp m7 m8
   go_wp2_with (at_builtin;rw[←EW9.out];refine wpList_append_any rfl _ _ 23 rfl wo.heap.size 9 Tryz.underlying23 info_string rfl (by decide) [] rfl HO9.out (RS.map .string) rfl (by rw[List.length_map];exact(Nat.mul_one _).symm) HM9.out (by simp[Value.oneCell']) (by unfold maxLen;omega) (by omega) HZ9.out ?_)
   intro v10 W10 hown10 hgrow10 _;have HB10:=hid (HB9.out.grown hgrow10 HZ9.out (fun k hk=>(own_lt HO9.out hk).1));have ho10:W10.ownsRow wo.heap.size 9 1 v10 RS.length (RS.map .string):=by simpa using hown10
   obtain⟨B10,d10,rfl,_⟩:=own_slice ho10;have HO10:=hid ho10;have HM10:=hid (news_strs (HL5.out.below Enc.str_laws HB10.out));have HZ10:Hid (wo.heap.size≤W10.heap.size):=hid HB10.out.size;clear hown10 hgrow10 ho10 HO9 HM9 HB9
   go_wp2_with (at_builtin;refine wpList_append_any rfl _ _ 23 rfl wo.heap.size 9 Tryz.underlying23 info_string rfl (by decide) (RS.map .string) rfl HO10.out (RT.map .string) rfl (by rw[List.length_map];exact(Nat.mul_one _).symm) HM10.out (by simp[Value.oneCell']) (by unfold maxLen;omega) (by omega) HZ10.out ?_)
   intro v11 W11 hown11 hgrow11 _;have HB11:=hid (HB10.out.grown hgrow11 HZ10.out (fun k hk=>(own_lt HO10.out hk).1));obtain⟨B11,d11,rfl,_⟩:=own_slice hown11;have hl11:ListOk Enc.str W11 0 W11.heap.size (.slice B11 (RS.length+RT.length) d11) (RS++RT):=ListOk.strs_of_own (base:=wo.heap.size) (by rw[List.length_append,List.map_append];exact hown11) (Nat.zero_le _) (Nat.le_refl _)
   have HT2:=hid (texts_any _ _ _ _ _ _ _ _ W11 ((HL6.out.below Enc.str_laws HB11.out).mono Enc.str_laws (Nat.le_refl _) HB11.out.size) hl11 (by omega) (by rw[List.length_append];omega))
   rw[decide_eq_true HRU.out]at HT2;clear hown11 hgrow11 hl11 HO10 HM10 HB10
   go_wp2_with fail
   refine HT2.out.mono ?_;clear HT2;rintro e w12 ⟨rfl,n12,hw12⟩;have HB12:Hid (Below w.heap.size w w12):=hid (by rw[hw12];exact below_drewN (HB8.out.trans (HB11.out.mono HB8.out.size)) n12)
   clear hw12
   go_wp2_with fail
   go_ret
   exact⟨rfl,HB12.out⟩
  ·have hgt:(100:Int) < (n1:Int)+(n2:Int):=by omega
   clear HApp hbig
   go_wp2_with fail
   go_ret
   exact⟨rfl,HB8.out⟩
 ·obtain⟨k,hk⟩:∃ k,s.size=k+1:=⟨s.size - 1,by
   have:s.size≠0:=fun h=>hse (by
    apply bts_inj;have:(bts s).length=0:=by rw[bts_len];exact h
    rw[List.length_eq_zero_iff.1 this];rfl)
   omega⟩
  have hx0:(s.toList == (⟨#[]⟩:ByteArray).toList)=false:=by
   cases he:(s.toList == (⟨#[]⟩:ByteArray).toList)with
   | false=>rfl
   | true=>exact absurd ((eqs_iff _ _).1 he) hse
  have e0:(⟨#[]⟩:ByteArray).toList=[]:=by rw[ByteArray.toList_eq]
  have hx1:s.toList.isEmpty=false:=by
   cases hq:s.toList with
   | nil=>rw[hq,e0]at hx0;exact absurd hx0 (by decide)
   | cons a b=>rfl
  have hkl:k < s.size:=by omega
  have j0:(0:Int)≤(k:Int):=Int.natCast_nonneg k;have j1:(k:Int) < (k:Int)+1:=by omega
  have jw:wrap64 ((k:Int)+1 - 1)=(k:Int):=by unfold wrap64;omega
  clear e0 hse
  by_cases h10:s[k]=10
  ·have HEnd:Hid (bts s=[]∨∃ a,bts s=a++[10]):=hid (.inr (ends_nl hk h10));have hc:s[k].toNat=10:=by rw[h10];rfl
   have f1:((s[k].toNat:Int) == 10)=true:=by rw[beq_iff_eq];omega
   have f2:((s[k].toNat:Int) != 10)=false:=by rw[bne,f1];rfl
   clear h10
   go_enter Tryz.func3,Tryz.ntmps3
   go_wp2_with fail
   refine HF.out.mono ?_;clear HF;rintro e w1 ⟨v1,rfl,hl1,hb1⟩;obtain⟨A1,c1,rfl,_⟩:=hl1.form;obtain⟨W2,eW2⟩:∃ W,W=w1.alloc (.cells #[.string ⟨#[111,110,101]⟩,.string ⟨#[49,44,50,51,52,46,53]⟩] 9):=⟨_,rfl⟩;have hb2:Below w1.heap.size w1 W2:=by rw[eW2];exact(Below.refl _ _).alloc (Nat.le_refl _) _
   have hk2:Blk W2 w1.heap.size 9 #[.string ⟨#[111,110,101]⟩,.string ⟨#[49,44,50,51,52,46,53]⟩]:=by rw[eW2];exact Blk.new _ _ _
   have hl2:ListOk Enc.str W2 0 W2.heap.size (.slice (some ⟨w1.heap.size,0,none⟩) 2 2) [⟨#[111,110,101]⟩,⟨#[49,44,50,51,52,46,53]⟩]:=ListOk.ofCells (l:=[⟨#[111,110,101]⟩,⟨#[49,44,50,51,52,46,53]⟩]) (o:=0) (c:=2) (Nat.zero_le _) hk2.lt (Nat.le_refl _) fun j hj=>by
    have hj2:j < 2:=hj
    match j,hj2 with
    | 0,_=>exact(hk2.cell 0).trans rfl
    | 1,_=>exact(hk2.cell 1).trans rfl
   have HT:=hid (texts_any _ _ _ _ _ _ _ _ W2 ((hl1.below Enc.str_laws hb2).mono Enc.str_laws (Nat.le_refl _) hb2.size) hl2 (by decide) (by decide))
   have HB2:=hid (hb1.trans (hb2.mono hb1.size));have EW2:=hid eW2;clear hl1 hl2 hb1 hb2 hk2 eW2
   go_wp2_with fail
   rw[←EW2.out];clear EW2;refine HT.out.mono ?_;clear HT;rintro e w3 ⟨rfl,nq,hw3⟩;rw[show decide True=true from rfl];have HB3:Hid (Below w.heap.size w w3):=hid (by rw[hw3];exact below_drewN HB2.out nq)
   clear hw3 HB2;have HApp:Hid ((splitS s ⟨#[10]⟩).length+(splitS t ⟨#[10]⟩).length≤100→runA (s++t)=runA s++runA t):=hid fun hn=>run_both HEnd.out hn;have H6:=hid (HRn.out w3 s HB3.out (by omega))
   have H7:Hid (∀ W,Below w.heap.size w W→Calls Tryz.prog 5 #[.string t] W fun e w'=>∃ v,e=.returned v∧ListOk Enc.str w' W.heap.size w'.heap.size v (runA t)∧Below W.heap.size W w'):=hid fun W hW=>HRn.out W t hW (by omega)
   have hst:(s++t).size=s.size+t.size:=ByteArray.size_append;have H8:Hid (∀ W,Below w.heap.size w W→Calls Tryz.prog 5 #[.string (s++t)] W fun e w'=>∃ v,e=.returned v∧ListOk Enc.str w' W.heap.size w'.heap.size v (runA (s++t))∧Below W.heap.size W w'):=hid fun W hW=>HRn.out W (s++t) hW (by omega)
   have HC1:Hid (∀ W,Calls Tryz.prog 6 #[.string s,.string ⟨#[10]⟩] W fun e w'=>∃ v,e=.returned v∧w'.ownsRow W.heap.size 9 1 v (splitS s ⟨#[10]⟩).length ((splitS s ⟨#[10]⟩).map .string)∧(splitS s ⟨#[10]⟩).length≤s.size+1∧Below W.heap.size W w'):=hid fun W=>refCut_any s 10 W (by omega)
   have HC2:Hid (∀ W,Calls Tryz.prog 6 #[.string t,.string ⟨#[10]⟩] W fun e w'=>∃ v,e=.returned v∧w'.ownsRow W.heap.size 9 1 v (splitS t ⟨#[10]⟩).length ((splitS t ⟨#[10]⟩).map .string)∧(splitS t ⟨#[10]⟩).length≤t.size+1∧Below W.heap.size W w'):=hid fun W=>refCut_any t 10 W (by omega)
   have q8:¬(9223372036854775807 < s.size+t.size):=by omega
   have r6:=runA_len s;have r7:=runA_len t;have r8:=runA_len (s++t);generalize (splitS s ⟨#[10]⟩).map Value.string=x1 at *;generalize (splitS t ⟨#[10]⟩).map Value.string=x2 at *;generalize (splitS s ⟨#[10]⟩).length=n1 at *;generalize (splitS t ⟨#[10]⟩).length=n2 at *;generalize runA s=RS at *;generalize runA t=RT at *;generalize runA (s++t)=RU at *;clear HRn HEnd hst
   go_wp2_with fail
   refine H6.out.mono ?_;clear H6;rintro e w4 ⟨v4,rfl,hl4,hb4⟩;obtain⟨A4,c4,rfl,_⟩:=hl4.form;have HB4:=hid (HB3.out.trans (hb4.mono HB3.out.size));have HL4:=hid hl4;have H7b:=hid (H7.out w4 HB4.out);clear hl4 hb4 HB3 H7
   go_wp2_with fail
   refine H7b.out.mono ?_;clear H7b;rintro e w5 ⟨v5,rfl,hl5,hb5⟩;obtain⟨A5,c5,rfl,_⟩:=hl5.form;have HB5:=hid (HB4.out.trans (hb5.mono HB4.out.size));have HL4:=hid ((HL4.out.below Enc.str_laws hb5).mono Enc.str_laws (Nat.zero_le _) hb5.size);have HL5:=hid (hl5.mono Enc.str_laws (Nat.zero_le _) (Nat.le_refl _));have H8b:=hid (H8.out w5 HB5.out);clear hl5 hb5 HB4 H8
   go_wp2_with fail
   refine H8b.out.mono ?_;clear H8b;rintro e w6 ⟨v6,rfl,hl6,hb6⟩;obtain⟨A6,c6,rfl,_⟩:=hl6.form;have HB6:=hid (HB5.out.trans (hb6.mono HB5.out.size));have HL4:=hid ((HL4.out.below Enc.str_laws hb6).mono Enc.str_laws (Nat.zero_le _) hb6.size);have HL5:=hid ((HL5.out.below Enc.str_laws hb6).mono Enc.str_laws (Nat.zero_le _) hb6.size);have HL6:=hid (hl6.mono Enc.str_laws (Nat.zero_le _) (Nat.le_refl _));have HC1b:=hid (HC1.out w6);clear hl6 hb6 HB5 HC1
   go_wp2_with fail
   refine HC1b.out.mono ?_;clear HC1b;rintro e w7 ⟨v7,rfl,ho7,m7,hb7⟩;obtain⟨A7,c7,rfl,_⟩:=own_slice ho7;have HB7:=hid (HB6.out.trans (hb7.mono HB6.out.size));have HL4:=hid ((HL4.out.below Enc.str_laws hb7).mono Enc.str_laws (Nat.zero_le _) hb7.size);have HL5:=hid ((HL5.out.below Enc.str_laws hb7).mono Enc.str_laws (Nat.zero_le _) hb7.size);have HL6:=hid ((HL6.out.below Enc.str_laws hb7).mono Enc.str_laws (Nat.zero_le _) hb7.size);have HC2b:=hid (HC2.out w7);clear ho7 hb7 HB6 HC2
   go_wp2_with fail
   refine HC2b.out.mono ?_;clear HC2b;rintro e w8 ⟨v8,rfl,ho8,m8,hb8⟩;obtain⟨A8,c8,rfl,_⟩:=own_slice ho8;have HB8:=hid (HB7.out.trans (hb8.mono HB7.out.size));have HL4:=hid ((HL4.out.below Enc.str_laws hb8).mono Enc.str_laws (Nat.zero_le _) hb8.size);have HL5:=hid ((HL5.out.below Enc.str_laws hb8).mono Enc.str_laws (Nat.zero_le _) hb8.size);have HL6:=hid ((HL6.out.below Enc.str_laws hb8).mono Enc.str_laws (Nat.zero_le _) hb8.size);clear ho8 hb8 HB7
   by_cases hbig:n1+n2≤100
   ·have HRU:=hid (HApp.out hbig);have hgt:¬((100:Int) < (n1:Int)+(n2:Int)):=by omega
    obtain⟨wo,rfl⟩:∃ wo:World,wo=w8:=⟨_,rfl⟩;obtain⟨W9,eW9⟩:∃ W,W=wo.alloc (.cells #[] 9):=⟨_,rfl⟩;have hb9:Below wo.heap.size wo W9:=by rw[eW9];exact(Below.refl _ _).alloc (Nat.le_refl _) _
    have ho9:W9.ownsRow wo.heap.size 9 1 (.slice (some ⟨wo.heap.size,0,none⟩) 0 0) 0 []:=own_emptyS (by rw[eW9];exact Blk.new _ _ _) (Nat.le_refl _)
    have HO9:=hid ho9;have HB9:=hid hb9;have HZ9:Hid (wo.heap.size≤W9.heap.size):=hid hb9.size;have HM9:=hid (news_strs (HL4.out.below Enc.str_laws hb9));have EW9:=hid eW9;clear ho9 hb9 eW9 hbig HApp m7 m8
    go_wp2_with (at_builtin;rw[←EW9.out];refine wpList_append_any rfl _ _ 23 rfl wo.heap.size 9 Tryz.underlying23 info_string rfl (by decide) [] rfl HO9.out (RS.map .string) rfl (by rw[List.length_map];exact(Nat.mul_one _).symm) HM9.out (by simp[Value.oneCell']) (by unfold maxLen;omega) (by omega) HZ9.out ?_)
    intro v10 W10 hown10 hgrow10 _;have HB10:=hid (HB9.out.grown hgrow10 HZ9.out (fun k hk=>(own_lt HO9.out hk).1));have ho10:W10.ownsRow wo.heap.size 9 1 v10 RS.length (RS.map .string):=by simpa using hown10
    obtain⟨B10,d10,rfl,_⟩:=own_slice ho10;have HO10:=hid ho10;have HM10:=hid (news_strs (HL5.out.below Enc.str_laws HB10.out));have HZ10:Hid (wo.heap.size≤W10.heap.size):=hid HB10.out.size;clear hown10 hgrow10 ho10 HO9 HM9 HB9
    go_wp2_with (at_builtin;refine wpList_append_any rfl _ _ 23 rfl wo.heap.size 9 Tryz.underlying23 info_string rfl (by decide) (RS.map .string) rfl HO10.out (RT.map .string) rfl (by rw[List.length_map];exact(Nat.mul_one _).symm) HM10.out (by simp[Value.oneCell']) (by unfold maxLen;omega) (by omega) HZ10.out ?_)
    intro v11 W11 hown11 hgrow11 _;have HB11:=hid (HB10.out.grown hgrow11 HZ10.out (fun k hk=>(own_lt HO10.out hk).1));obtain⟨B11,d11,rfl,_⟩:=own_slice hown11;have hl11:ListOk Enc.str W11 0 W11.heap.size (.slice B11 (RS.length+RT.length) d11) (RS++RT):=ListOk.strs_of_own (base:=wo.heap.size) (by rw[List.length_append,List.map_append];exact hown11) (Nat.zero_le _) (Nat.le_refl _)
    have HT2:=hid (texts_any _ _ _ _ _ _ _ _ W11 ((HL6.out.below Enc.str_laws HB11.out).mono Enc.str_laws (Nat.le_refl _) HB11.out.size) hl11 (by omega) (by rw[List.length_append];omega))
    rw[decide_eq_true HRU.out]at HT2;clear hown11 hgrow11 hl11 HO10 HM10 HB10
    go_wp2_with fail
    refine HT2.out.mono ?_;clear HT2;rintro e w12 ⟨rfl,n12,hw12⟩;have HB12:Hid (Below w.heap.size w w12):=hid (by rw[hw12];exact below_drewN (HB8.out.trans (HB11.out.mono HB8.out.size)) n12)
    clear hw12
    go_wp2_with fail
    go_ret
    exact⟨rfl,HB12.out⟩
   ·have hgt:(100:Int) < (n1:Int)+(n2:Int):=by omega
    clear HApp hbig
    go_wp2_with fail
    go_ret
    exact⟨rfl,HB8.out⟩
  ·have hS:(s++(⟨#[10]⟩:ByteArray)).size=s.size+1:=ByteArray.size_append;have q3:¬(9223372036854775807 < s.size+1):=by omega
   have hc:¬ s[k].toNat=10:=fun h=>h10 (UInt8.toNat_inj.1 h);have f1:((s[k].toNat:Int) == 10)=false:=by rw[beq_eq_false_iff_ne];omega
   have f2:((s[k].toNat:Int) != 10)=true:=by rw[bne,f1];rfl
   obtain⟨S,eS⟩:∃ S,S=s++(⟨#[10]⟩:ByteArray):=⟨_,rfl⟩;have HEnd:Hid (bts S=[]∨∃ a,bts S=a++[10]):=hid (.inr (by rw[eS];exact put_nl s))
   rw[←eS]at hS;have hSz:S.size≤1048577:=by omega
   have ES:=hid eS;clear h10 eS hS
   go_enter Tryz.func3,Tryz.ntmps3
   go_wp2_with fail
   refine HF.out.mono ?_;clear HF;rintro e w1 ⟨v1,rfl,hl1,hb1⟩;obtain⟨A1,c1,rfl,_⟩:=hl1.form;obtain⟨W2,eW2⟩:∃ W,W=w1.alloc (.cells #[.string ⟨#[111,110,101]⟩,.string ⟨#[49,44,50,51,52,46,53]⟩] 9):=⟨_,rfl⟩;have hb2:Below w1.heap.size w1 W2:=by rw[eW2];exact(Below.refl _ _).alloc (Nat.le_refl _) _
   have hk2:Blk W2 w1.heap.size 9 #[.string ⟨#[111,110,101]⟩,.string ⟨#[49,44,50,51,52,46,53]⟩]:=by rw[eW2];exact Blk.new _ _ _
   have hl2:ListOk Enc.str W2 0 W2.heap.size (.slice (some ⟨w1.heap.size,0,none⟩) 2 2) [⟨#[111,110,101]⟩,⟨#[49,44,50,51,52,46,53]⟩]:=ListOk.ofCells (l:=[⟨#[111,110,101]⟩,⟨#[49,44,50,51,52,46,53]⟩]) (o:=0) (c:=2) (Nat.zero_le _) hk2.lt (Nat.le_refl _) fun j hj=>by
    have hj2:j < 2:=hj
    match j,hj2 with
    | 0,_=>exact(hk2.cell 0).trans rfl
    | 1,_=>exact(hk2.cell 1).trans rfl
   have HT:=hid (texts_any _ _ _ _ _ _ _ _ W2 ((hl1.below Enc.str_laws hb2).mono Enc.str_laws (Nat.le_refl _) hb2.size) hl2 (by decide) (by decide))
   have HB2:=hid (hb1.trans (hb2.mono hb1.size));have EW2:=hid eW2;clear hl1 hl2 hb1 hb2 hk2 eW2
   go_wp2_with fail
   rw[←EW2.out];clear EW2;refine HT.out.mono ?_;clear HT;rintro e w3 ⟨rfl,nq,hw3⟩;rw[show decide True=true from rfl];have HB3:Hid (Below w.heap.size w w3):=hid (by rw[hw3];exact below_drewN HB2.out nq)
   clear hw3 HB2;have HApp:Hid ((splitS S ⟨#[10]⟩).length+(splitS t ⟨#[10]⟩).length≤100→runA (S++t)=runA S++runA t):=hid fun hn=>run_both HEnd.out hn;have H6:=hid (HRn.out w3 S HB3.out (by omega))
   have H7:Hid (∀ W,Below w.heap.size w W→Calls Tryz.prog 5 #[.string t] W fun e w'=>∃ v,e=.returned v∧ListOk Enc.str w' W.heap.size w'.heap.size v (runA t)∧Below W.heap.size W w'):=hid fun W hW=>HRn.out W t hW (by omega)
   have hst:(S++t).size=S.size+t.size:=ByteArray.size_append;have H8:Hid (∀ W,Below w.heap.size w W→Calls Tryz.prog 5 #[.string (S++t)] W fun e w'=>∃ v,e=.returned v∧ListOk Enc.str w' W.heap.size w'.heap.size v (runA (S++t))∧Below W.heap.size W w'):=hid fun W hW=>HRn.out W (S++t) hW (by omega)
   have HC1:Hid (∀ W,Calls Tryz.prog 6 #[.string S,.string ⟨#[10]⟩] W fun e w'=>∃ v,e=.returned v∧w'.ownsRow W.heap.size 9 1 v (splitS S ⟨#[10]⟩).length ((splitS S ⟨#[10]⟩).map .string)∧(splitS S ⟨#[10]⟩).length≤S.size+1∧Below W.heap.size W w'):=hid fun W=>refCut_any S 10 W (by omega)
   have HC2:Hid (∀ W,Calls Tryz.prog 6 #[.string t,.string ⟨#[10]⟩] W fun e w'=>∃ v,e=.returned v∧w'.ownsRow W.heap.size 9 1 v (splitS t ⟨#[10]⟩).length ((splitS t ⟨#[10]⟩).map .string)∧(splitS t ⟨#[10]⟩).length≤t.size+1∧Below W.heap.size W w'):=hid fun W=>refCut_any t 10 W (by omega)
   have q8:¬(9223372036854775807 < S.size+t.size):=by omega
   have r6:=runA_len S;have r7:=runA_len t;have r8:=runA_len (S++t);generalize (splitS S ⟨#[10]⟩).map Value.string=x1 at *;generalize (splitS t ⟨#[10]⟩).map Value.string=x2 at *;generalize (splitS S ⟨#[10]⟩).length=n1 at *;generalize (splitS t ⟨#[10]⟩).length=n2 at *;generalize runA S=RS at *;generalize runA t=RT at *;generalize runA (S++t)=RU at *;clear HRn HEnd hst
   go_upto_region 4 with fail
   rw[←ES.out];clear ES
   go_wp2_with fail
   refine H6.out.mono ?_;clear H6;rintro e w4 ⟨v4,rfl,hl4,hb4⟩;obtain⟨A4,c4,rfl,_⟩:=hl4.form;have HB4:=hid (HB3.out.trans (hb4.mono HB3.out.size));have HL4:=hid hl4;have H7b:=hid (H7.out w4 HB4.out);clear hl4 hb4 HB3 H7
   go_wp2_with fail
   refine H7b.out.mono ?_;clear H7b;rintro e w5 ⟨v5,rfl,hl5,hb5⟩;obtain⟨A5,c5,rfl,_⟩:=hl5.form;have HB5:=hid (HB4.out.trans (hb5.mono HB4.out.size));have HL4:=hid ((HL4.out.below Enc.str_laws hb5).mono Enc.str_laws (Nat.zero_le _) hb5.size);have HL5:=hid (hl5.mono Enc.str_laws (Nat.zero_le _) (Nat.le_refl _));have H8b:=hid (H8.out w5 HB5.out);clear hl5 hb5 HB4 H8
   go_wp2_with fail
   refine H8b.out.mono ?_;clear H8b;rintro e w6 ⟨v6,rfl,hl6,hb6⟩;obtain⟨A6,c6,rfl,_⟩:=hl6.form;have HB6:=hid (HB5.out.trans (hb6.mono HB5.out.size));have HL4:=hid ((HL4.out.below Enc.str_laws hb6).mono Enc.str_laws (Nat.zero_le _) hb6.size);have HL5:=hid ((HL5.out.below Enc.str_laws hb6).mono Enc.str_laws (Nat.zero_le _) hb6.size);have HL6:=hid (hl6.mono Enc.str_laws (Nat.zero_le _) (Nat.le_refl _));have HC1b:=hid (HC1.out w6);clear hl6 hb6 HB5 HC1
   go_wp2_with fail
   refine HC1b.out.mono ?_;clear HC1b;rintro e w7 ⟨v7,rfl,ho7,m7,hb7⟩;obtain⟨A7,c7,rfl,_⟩:=own_slice ho7;have HB7:=hid (HB6.out.trans (hb7.mono HB6.out.size));have HL4:=hid ((HL4.out.below Enc.str_laws hb7).mono Enc.str_laws (Nat.zero_le _) hb7.size);have HL5:=hid ((HL5.out.below Enc.str_laws hb7).mono Enc.str_laws (Nat.zero_le _) hb7.size);have HL6:=hid ((HL6.out.below Enc.str_laws hb7).mono Enc.str_laws (Nat.zero_le _) hb7.size);have HC2b:=hid (HC2.out w7);clear ho7 hb7 HB6 HC2
   go_wp2_with fail
   refine HC2b.out.mono ?_;clear HC2b;rintro e w8 ⟨v8,rfl,ho8,m8,hb8⟩;obtain⟨A8,c8,rfl,_⟩:=own_slice ho8;have HB8:=hid (HB7.out.trans (hb8.mono HB7.out.size));have HL4:=hid ((HL4.out.below Enc.str_laws hb8).mono Enc.str_laws (Nat.zero_le _) hb8.size);have HL5:=hid ((HL5.out.below Enc.str_laws hb8).mono Enc.str_laws (Nat.zero_le _) hb8.size);have HL6:=hid ((HL6.out.below Enc.str_laws hb8).mono Enc.str_laws (Nat.zero_le _) hb8.size);clear ho8 hb8 HB7
   by_cases hbig:n1+n2≤100
   ·have HRU:=hid (HApp.out hbig);have hgt:¬((100:Int) < (n1:Int)+(n2:Int)):=by omega
    obtain⟨wo,rfl⟩:∃ wo:World,wo=w8:=⟨_,rfl⟩;obtain⟨W9,eW9⟩:∃ W,W=wo.alloc (.cells #[] 9):=⟨_,rfl⟩;have hb9:Below wo.heap.size wo W9:=by rw[eW9];exact(Below.refl _ _).alloc (Nat.le_refl _) _
    have ho9:W9.ownsRow wo.heap.size 9 1 (.slice (some ⟨wo.heap.size,0,none⟩) 0 0) 0 []:=own_emptyS (by rw[eW9];exact Blk.new _ _ _) (Nat.le_refl _)
    have HO9:=hid ho9;have HB9:=hid hb9;have HZ9:Hid (wo.heap.size≤W9.heap.size):=hid hb9.size;have HM9:=hid (news_strs (HL4.out.below Enc.str_laws hb9));have EW9:=hid eW9;clear ho9 hb9 eW9 hbig HApp m7 m8
    go_wp2_with (at_builtin;rw[←EW9.out];refine wpList_append_any rfl _ _ 23 rfl wo.heap.size 9 Tryz.underlying23 info_string rfl (by decide) [] rfl HO9.out (RS.map .string) rfl (by rw[List.length_map];exact(Nat.mul_one _).symm) HM9.out (by simp[Value.oneCell']) (by unfold maxLen;omega) (by omega) HZ9.out ?_)
    intro v10 W10 hown10 hgrow10 _;have HB10:=hid (HB9.out.grown hgrow10 HZ9.out (fun k hk=>(own_lt HO9.out hk).1));have ho10:W10.ownsRow wo.heap.size 9 1 v10 RS.length (RS.map .string):=by simpa using hown10
    obtain⟨B10,d10,rfl,_⟩:=own_slice ho10;have HO10:=hid ho10;have HM10:=hid (news_strs (HL5.out.below Enc.str_laws HB10.out));have HZ10:Hid (wo.heap.size≤W10.heap.size):=hid HB10.out.size;clear hown10 hgrow10 ho10 HO9 HM9 HB9
    go_wp2_with (at_builtin;refine wpList_append_any rfl _ _ 23 rfl wo.heap.size 9 Tryz.underlying23 info_string rfl (by decide) (RS.map .string) rfl HO10.out (RT.map .string) rfl (by rw[List.length_map];exact(Nat.mul_one _).symm) HM10.out (by simp[Value.oneCell']) (by unfold maxLen;omega) (by omega) HZ10.out ?_)
    intro v11 W11 hown11 hgrow11 _;have HB11:=hid (HB10.out.grown hgrow11 HZ10.out (fun k hk=>(own_lt HO10.out hk).1));obtain⟨B11,d11,rfl,_⟩:=own_slice hown11;have hl11:ListOk Enc.str W11 0 W11.heap.size (.slice B11 (RS.length+RT.length) d11) (RS++RT):=ListOk.strs_of_own (base:=wo.heap.size) (by rw[List.length_append,List.map_append];exact hown11) (Nat.zero_le _) (Nat.le_refl _)
    have HT2:=hid (texts_any _ _ _ _ _ _ _ _ W11 ((HL6.out.below Enc.str_laws HB11.out).mono Enc.str_laws (Nat.le_refl _) HB11.out.size) hl11 (by omega) (by rw[List.length_append];omega))
    rw[decide_eq_true HRU.out]at HT2;clear hown11 hgrow11 hl11 HO10 HM10 HB10
    go_wp2_with fail
    refine HT2.out.mono ?_;clear HT2;rintro e w12 ⟨rfl,n12,hw12⟩;have HB12:Hid (Below w.heap.size w w12):=hid (by rw[hw12];exact below_drewN (HB8.out.trans (HB11.out.mono HB8.out.size)) n12)
    clear hw12
    go_wp2_with fail
    go_ret
    exact⟨rfl,HB12.out⟩
   ·have hgt:(100:Int) < (n1:Int)+(n2:Int):=by omega
    clear HApp hbig
    go_wp2_with fail
    go_ret
    exact⟨rfl,HB8.out⟩
end Go.Proofs.YtagfnpdoooachaaGreatDoor
namespace Go.Proofs.YtagfnpdoooachaaGreatDoor.deskLinesUpto
open Go.RowKit Go.ChangeShapes Go.WideShapes Go.ChangeAt
open Lib (hid)
theorem band {a b:Bool} (h:a=true) (k:b=true):(a && b)=true:=by rw[h,k];rfl
theorem fact0:(Rows.deskLinesUptoRow.wf (OpenSpec.ofChange Rows.deskLinesSpec))=true:=by kernel_rfl
theorem fact1:(laidOutB Tryz.prog)=true:=by kernel_rfl
theorem fact2:(mapsRowed Tryz.prog)=true:=by kernel_rfl
theorem fact3:(Tryz.f3.params.all (Tryz.prog.readableRec ·))=true:=by kernel_rfl
theorem fact4:(namedTie Tryz.prog Rows.deskLinesUptoRow.named Rows.deskLinesSpec.vars)=true:=by kernel_rfl
theorem fact5:((Rows.deskLinesUptoRow.stops == []))=true:=by kernel_rfl
theorem fact6:((Tryz.prog.stops == []))=true:=by kernel_rfl
theorem fact7:((Rows.deskLinesUptoRow.knobs == []))=true:=by kernel_rfl
theorem fact8:((Tryz.prog.stopKnobs == []))=true:=by kernel_rfl
theorem fact9:((Rows.deskLinesUptoRow.inPlace == Tryz.prog.inPlace 3))=true:=by kernel_rfl
theorem fact10:((Rows.deskLinesUptoRow.unfollowed == Tryz.prog.unfollowed 3))=true:=by kernel_rfl
theorem fact11:((Rows.deskLinesUptoRow.recurses == Tryz.prog.recurses 3))=true:=by kernel_rfl
theorem fact12:((Rows.deskLinesUptoRow.named == Tryz.prog.varsNamed 3))=true:=by kernel_rfl
theorem fact13:((Rows.deskLinesUptoRow.maps == (Tryz.f3.params.toList++Rows.deskLinesSpec.plain.varTypes Tryz.prog).any (Tryz.prog.mapsRec ·)))=true:=by kernel_rfl
theorem fact14:((Rows.deskLinesUptoRow.ifaces == (Tryz.f3.params.toList++Rows.deskLinesSpec.plain.varTypes Tryz.prog).any (Tryz.prog.ifacesRec ·)))=true:=by kernel_rfl
theorem fact15:((Rows.deskLinesUptoRow.mapsOut == Tryz.prog.mapsAmong Tryz.f3.resultTypes.toList))=true:=by kernel_rfl
theorem fact16:((Rows.deskLinesUptoRow.loops == (Tryz.f3.params.toList++Rows.deskLinesSpec.plain.varTypes Tryz.prog).any (Tryz.prog.loopsFrom ·)))=true:=by kernel_rfl
theorem fact17:((Rows.deskLinesUptoRow.wideKeys == (Tryz.f3.params.toList++Rows.deskLinesSpec.plain.varTypes Tryz.prog++Tryz.f3.resultTypes.toList).any (Tryz.prog.wideKeysFrom ·)))=true:=by kernel_rfl
theorem fact18:(Rows.deskLinesSpec.vars.all (Tryz.prog.varReadable ·))=true:=by kernel_rfl
theorem fact19:(Tryz.f3.resultTypes.all (fun t=>Tryz.prog.readableRec t && decide (t < Tryz.prog.types.size)))=true:=by kernel_rfl
theorem fact20:((Rows.deskLinesUptoRow.ifacesOut == Tryz.f3.resultTypes.toList.any (Tryz.prog.ifacesRec ·)))=true:=by kernel_rfl
theorem fact21:((Rows.deskLinesUptoRow.loopsOut == Tryz.f3.resultTypes.toList.any (Tryz.prog.loopsFrom ·)))=true:=by kernel_rfl
theorem fact22:((Rows.deskLinesUptoRow.plainKeys == Tryz.prog.plainKeys))=true:=by kernel_rfl
theorem fact23:(Rows.deskLinesUptoRow.shortTexts.isNone)=true:=by kernel_rfl
theorem fact24:(Tryz.prog.stopsHeard)=true:=by kernel_rfl
theorem fact25:(Tryz.prog.mayEnter)=true:=by kernel_rfl
theorem fact26:((Rows.deskLinesUptoRow.lifted == Tryz.prog.liftsFinal))=true:=by kernel_rfl
theorem fact27:((Tryz.prog.make == some Rows.deskLinesUptoRow.make))=true:=by kernel_rfl
theorem fact28:((Rows.deskLinesUptoRow.kinds == (if Rows.deskLinesUptoRow.domain.isEmpty then []else Tryz.f3.params.toList.map fun t=>match Tryz.prog.underlying t with|some (.int k)=>some k|_=>none)))=true:=by kernel_rfl
theorem fact29:((Rows.deskLinesUptoRow.pinned == Rows.deskLinesUptoRow.pinnedBy))=true:=by kernel_rfl
theorem fact30:((Rows.deskLinesUptoRow.veiled == (Tryz.f3.params.toList++Rows.deskLinesSpec.plain.varTypes Tryz.prog++Tryz.f3.resultTypes.toList).any (Tryz.prog.veiledRec ·)))=true:=by kernel_rfl
theorem fact31:(Rows.deskLinesUptoRow.veiledFits Tryz.prog Tryz.f3.params.toList (Tryz.f3.params.toList++Rows.deskLinesSpec.plain.varTypes Tryz.prog++Tryz.f3.resultTypes.toList))=true:=by kernel_rfl
theorem closed:joinedFacts Tryz.prog 3 Tryz.f3 Rows.deskLinesSpec Rows.deskLinesUptoRow=true:=band (band (band (band (band (band (band (band (band (band (band (band (band (band (band (band (band (band (band (band (band (band (band (band (band (band (band (band (band (band (band (fact0) fact1) fact2) fact3) fact4) fact5) fact6) fact7) fact8) fact9) fact10) fact11) fact12) fact13) fact14) fact15) fact16) fact17) fact18) fact19) fact20) fact21) fact22) fact23) fact24) fact25) fact26) fact27) fact28) fact29) fact30) fact31
end Go.Proofs.YtagfnpdoooachaaGreatDoor.deskLinesUpto
