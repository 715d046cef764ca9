/- desk.number; what a form tells; the forms "num" and "short". -/
import Derived.Test.YtagfnpdoooachaaGreatDoorDskS
set_option linter.unusedSimpArgs false
set_option linter.unusedVariables false
set_option maxHeartbeats 3200000
set_option maxRecDepth 100000
namespace Go.Proofs.YtagfnpdoooachaaGreatDoor
open Go.RowKit
open Lib (hid)
def TellR (r:Tell) (w:World) (e:Ending) (w':World):Prop:=Below w.heap.size w w'∧((r.2=0∧e=.returned (.string (str r.1)))∨(r.2≠0∧e=.panicked (thrown r.2)))
theorem number_desk (s:ByteArray) (w:World) (hs:s.size≤1000000000) (hv:EvV w):
 Calls Tryz.prog 30 #[.string s] w fun e w'=>Below w.heap.size w w'∧((∃ n,numberP s=some n∧ -1073741824≤n∧n≤1073741824∧e=.returned (.int .i64 n))∨(numberP s=none∧e=.panicked (thrown 9))):=by
 have HA:=hid (atoiV_any s w hs hv.rv);have HV:Hid (∀ W,Below w.heap.size w W→EvV W):=hid fun W hW=>hv.below hW;have HP:Hid (numberP s=(atoiV (bts s)).bind fun v=>if -1073741824≤v∧v≤1073741824∧Lib.itoa v=bts s then some v else none):=hid rfl
 clear hv
 go_enter Tryz.func30,Tryz.ntmps30
 go_wp2_with fail
 refine HA.out.mono ?_;clear HA;rintro e w1 ⟨hres,hb1⟩;have HB1:=hid hb1;clear hb1;rcases hres with⟨v,rfl,hn⟩|⟨v,t,p,rfl,hn⟩
 ·have hbd:=atoiV_bounds hn;have HP2:Hid (numberP s=if -1073741824≤v∧v≤1073741824∧Lib.itoa v=bts s then some v else none):=hid (by rw[HP.out,hn];rfl)
  have HR:=hid (read_int (.int .i64 v) w1);have HI:=hid (itoaD_any v w1 hbd.1 hbd.2 (HV.out w1 HB1.out).mv);clear hn HP HV
  go_wp2_with fail
  refine HR.out.mono ?_;clear HR;rintro e w2 ⟨rfl,rfl⟩
  by_cases h0:v < -1073741824
  ·have HN:Hid (numberP s=none):=hid (by rw[HP2.out,if_neg (by omega)])
   clear HI
   go_wp2_with fail
   exact⟨rfl,HB1.out,.inr ⟨HN.out,rfl⟩⟩
  ·by_cases h1:1073741824 < v
   ·have HN:Hid (numberP s=none):=hid (by rw[HP2.out,if_neg (by omega)])
    clear HI
    go_wp2_with fail
    exact⟨rfl,HB1.out,.inr ⟨HN.out,rfl⟩⟩
   ·go_wp2_with fail
    refine HI.out.mono ?_;clear HI;rintro e w3 ⟨rfl,hb3⟩;have HB3:=hid (HB1.out.trans (hb3.mono HB1.out.size));clear hb3
    by_cases h2:Lib.itoa v=bts s
    ·have HN:Hid (numberP s=some v):=hid (by rw[HP2.out,if_pos ⟨by omega,by omega,h2⟩])
     rw[h2,str_bts];clear h2 HP2
     go_wp2_with fail
     go_ret
     exact⟨HB3.out,.inl ⟨v,HN.out,by omega,by omega,rfl⟩⟩
    ·have HN:Hid (numberP s=none):=hid (by rw[HP2.out,if_neg (fun h=>h2 h.2.2)])
     have hne:=neq_str h2;generalize str (Lib.itoa v)=z at *;clear h2 HP2
     go_wp2_with fail
     exact⟨rfl,HB3.out,.inr ⟨HN.out,rfl⟩⟩
 ·have HN:Hid (numberP s=none):=hid (by rw[HP.out,hn];rfl)
  have HR:=hid (read_int_no (.int .i64 v) t p w1);clear hn HP HV
  go_wp2_with fail
  refine HR.out.mono ?_;clear HR;rintro e w2 ⟨rfl,rfl⟩
  go_wp2_with fail
  exact⟨rfl,HB1.out,.inr ⟨HN.out,rfl⟩⟩
theorem form_num (b o n c:Nat) (s:ByteArray) (w:World) (hn:0 < n) (hc:w.cell? ⟨b,o,none⟩=some (.string s)) (hs:s.size≤1000000000) (hv:EvV w):
 Calls Tryz.prog 26 #[.slice (some ⟨b,o,none⟩) n c] w fun e w'=>TellR (numA s) w e w':=by
 have HD:=hid (dparse_any s w hs hv);have HV:Hid (∀ W,Below w.heap.size w W→EvV W):=hid fun W hW=>hv.below hW;have i1:(0:Int) < (n:Int):=by omega
 clear hv
 go_enter Tryz.func26,Tryz.ntmps26
 go_wp2_with fail
 refine HD.out.mono ?_;clear HD;rintro e w1 ⟨hres,hb1⟩;have HB1:=hid hb1;clear hb1 hc;rcases hres with⟨d,hd,rfl⟩|⟨hd,rfl⟩
 ·have HA:Hid (numA s=if numE d≠0 then([],numE d)else(numT d,0)):=hid (by unfold numA;rw[hd])
  obtain⟨dc,ds⟩:=d;have HR:=hid (read_dec dc ds w1);have HN:Hid (∀ W,Below w.heap.size w W→Calls Tryz.prog 27 #[.agg #[.int .i64 dc,.int .i64 ds]] W fun e w'=>e=.returned (.tuple #[.string (str (numT ⟨dc,ds⟩)),errD (numE ⟨dc,ds⟩)])∧Below W.heap.size W w'):=hid fun W hW=>numeral_any ⟨dc,ds⟩ W (HV.out W hW);clear hd HV;unfold DecV.v;dsimp only
  go_wp2_with fail
  refine HR.out.mono ?_;clear HR;rintro e w2 ⟨rfl,hb2⟩;have hb2':=HB1.out.trans (hb2.mono HB1.out.size);have HB2:=hid hb2';have HN2:=hid (HN.out w2 hb2');clear hb2 hb2' HN
  go_wp2_with fail
  refine HN2.out.mono ?_;clear HN2;rintro e w3 ⟨rfl,hb3⟩;have HB3:=hid (HB2.out.trans (hb3.mono HB2.out.size));clear hb3;generalize (⟨dc,ds⟩:DecV)=d at*
  by_cases h0:numE d=0
  ·have HA2:Hid (numA s=(numT d,0)):=hid (by rw[HA.out,if_neg (fun h=>h h0)])
   have HM:=hid (must_str (.string (str (numT d))) w3);rw[h0,errD_zero];clear h0 HA
   go_wp2_with fail
   refine HM.out.mono ?_;clear HM;rintro e w4 ⟨rfl,rfl⟩
   go_wp2_with fail
   go_ret
   exact⟨HB3.out,.inl ⟨by rw[HA2.out],by rw[HA2.out];rfl⟩⟩
  ·have HA2:Hid (numA s=([],numE d)):=hid (by rw[HA.out,if_pos h0])
   have HM:=hid (must_str_no (.string (str (numT d))) (numE d) w3);have H0:=hid h0;rw[errD_ne h0];clear h0 HA
   go_wp2_with fail
   refine HM.out.mono ?_;clear HM;rintro e w4 ⟨rfl,rfl⟩
   go_wp2_with fail
   exact⟨rfl,HB3.out,.inr ⟨by rw[HA2.out];exact H0.out,by rw[HA2.out]⟩⟩
 ·have HA:Hid (numA s=([],9)):=hid (by unfold numA;rw[hd])
  have HR:=hid (read_dec_no 0 0 27 (.int .i64 3) w1);clear hd HV;unfold DecV.v;dsimp only
  go_wp2_with fail
  refine HR.out.mono ?_;clear HR;rintro e w2 ⟨rfl,hb2⟩;have HB2:=hid (HB1.out.trans (hb2.mono HB1.out.size));clear hb2
  go_wp2_with fail
  exact⟨rfl,HB2.out,.inr ⟨by rw[HA.out];decide,by rw[HA.out]⟩⟩
theorem form_short (b o n c:Nat) (s:ByteArray) (w:World) (hn:0 < n) (hc:w.cell? ⟨b,o,none⟩=some (.string s)) (hs:s.size≤1000000000) (hv:EvV w):
 Calls Tryz.prog 28 #[.slice (some ⟨b,o,none⟩) n c] w fun e w'=>TellR (shortA s) w e w':=by
 have HD:=hid (number_desk s w hs hv);have HV:Hid (∀ W,Below w.heap.size w W→EvV W):=hid fun W hW=>hv.below hW;have i1:(0:Int) < (n:Int):=by omega
 clear hv
 go_enter Tryz.func28,Tryz.ntmps28
 go_wp2_with fail
 refine HD.out.mono ?_;clear HD;rintro e w1 ⟨hb1,hres⟩;have HB1:=hid hb1;clear hb1 hc;rcases hres with⟨m,hm,m0,m1,rfl⟩|⟨hm,rfl⟩
 ·have HA:Hid (shortA s=shortT m):=hid (by unfold shortA;rw[hm])
  have HS:=hid (short_any m w1 (by omega) (by omega) (HV.out w1 HB1.out).mv)
  clear hm HV
  go_wp2_with fail
  refine HS.out.mono ?_;clear HS;rintro e w2 ⟨hres,hb2⟩;have HB2:=hid (HB1.out.trans (hb2.mono HB1.out.size));clear hb2;rcases hres with⟨h0,rfl⟩|⟨h0,rfl⟩
  ·have HM:=hid (must_str (.string (str (shortT m).1)) w2);have H0:=hid h0;clear h0
   go_wp2_with fail
   refine HM.out.mono ?_;clear HM;rintro e w3 ⟨rfl,rfl⟩
   go_wp2_with fail
   go_ret
   exact⟨HB2.out,.inl ⟨by rw[HA.out];exact H0.out,by rw[HA.out];rfl⟩⟩
  ·have HM:=hid (must_str_no (.string ⟨#[]⟩) 1 w2);have H0:=hid h0;clear h0
   go_wp2_with fail
   refine HM.out.mono ?_;clear HM;rintro e w3 ⟨rfl,rfl⟩
   go_wp2_with fail
   exact⟨rfl,HB2.out,.inr ⟨by rw[HA.out,H0.out];decide,by rw[HA.out,H0.out]⟩⟩
 ·have HA:Hid (shortA s=([],9)):=hid (by unfold shortA;rw[hm])
  clear hm HV
  go_wp2_with fail
  exact⟨rfl,HB1.out,.inr ⟨by rw[HA.out];decide,by rw[HA.out]⟩⟩
def AheadV (w:World):Prop:=∀ k,k < 13→w.cell? ⟨6,k,none⟩=some (.int .i64 (aheadD k))
theorem leap_any (y:Int) (w:World) (h0:0≤y) (h1:y≤20000):Calls Tryz.prog 169 #[.int .i64 y] w fun e w'=>e=.returned (.bool (leapD y))∧w'=w:=by
 have HL:Hid (leapD y=(decide (y % 4=0) && decide (y % 100≠0) || decide (y % 400=0))):=hid rfl
 by_cases a:y % 4=0
 ·by_cases b:y % 100=0
  ·by_cases c:y % 400=0
   ·go_enter Tryz.func169,Tryz.ntmps169
    go_wp2_with fail
    go_ret
    exact⟨by rw[HL.out];simp[a,b,c],rfl⟩
   ·go_enter Tryz.func169,Tryz.ntmps169
    go_wp2_with fail
    go_ret
    exact⟨by rw[HL.out];simp[a,b,c],rfl⟩
  ·go_enter Tryz.func169,Tryz.ntmps169
   go_wp2_with fail
   go_ret
   exact⟨by rw[HL.out];simp[a,b],rfl⟩
 ·by_cases c:y % 400=0
  ·go_enter Tryz.func169,Tryz.ntmps169
   go_wp2_with fail
   go_ret
   exact⟨by rw[HL.out];simp[a,c],rfl⟩
  ·go_enter Tryz.func169,Tryz.ntmps169
   go_wp2_with fail
   go_ret
   exact⟨by rw[HL.out];simp[a,c],rfl⟩
theorem year_any (y:Int) (w:World) (h0:1≤y) (h1:y≤20000):Calls Tryz.prog 116 #[.int .i64 y] w fun e w'=>e=.returned (.int .i64 (yearD y))∧w'=w:=by
 have HY:Hid (yearD y=365*(y - 1)+(y - 1) / 4 - (y - 1) / 100+(y - 1) / 400):=hid rfl
 go_enter Tryz.func116,Tryz.ntmps116
 go_wp2_with fail
 go_ret
 exact⟨by rw[HY.out];rfl,rfl⟩
theorem digits_any (n least:Int) (w:World) (h0:0≤n) (h1:n≤1000000000) (l0:0≤least) (l1:least≤20) (hv:MV w):Calls Tryz.prog 113 #[.int .i64 n,.int .i64 least] w fun e w'=>e=.returned (.string (str (padN n least)))∧Below w.heap.size w w':=by
 have HI:=hid (itoaD_any n w (by omega) (by omega) hv)
 have hil:=Lib.itoa_length_le n (by omega) (by omega)
 have HP:Hid (padN n least=Lib.repeatL [48] (least - (Lib.itoa n).length).toNat++Lib.itoa n):=hid rfl;have HR:Hid (∀ W,Calls Tryz.prog 96 #[.string ⟨#[48]⟩,.int .i64 ((least - (Lib.itoa n).length).toNat:Nat)] W fun e w'=>e=.returned (.string (str (Lib.repeatL [48] (least - (Lib.itoa n).length).toNat)))∧Below W.heap.size W w'):=hid fun W=>
  Tryz.strings_Repeat ⟨#[48]⟩ (least - (Lib.itoa n).length).toNat W (by omega) (by
   show 1*_≤_;omega)
 have hmx:max (0:Int) (least - ((Lib.itoa n).length:Int))=((least - (Lib.itoa n).length).toNat:Nat):=by omega
 have hrl:(Lib.repeatL [48] (least - (Lib.itoa n).length).toNat).length≤20:=by rw[Lib.repeatL_length,List.length_singleton];omega
 generalize padN n least=pd at *;generalize Lib.itoa n=it at *;generalize hp:(least - (it.length:Int)).toNat=p at *;generalize Lib.repeatL [48] p=rl at *;have hsz:=str_size it;have q1:¬(9223372036854775807 < (str rl).size+(str it).size):=by rw[str_size,str_size];omega
 have HA:=hid (str_app rl it);clear hv hp
 go_enter Tryz.func113,Tryz.ntmps113
 go_wp2_with fail
 refine HI.out.mono ?_;clear HI;rintro e w1 ⟨rfl,hb1⟩;have HB1:=hid hb1;have HR1:=hid (HR.out w1);clear hb1 HR
 go_wp2_with fail
 refine HR1.out.mono ?_;clear HR1;rintro e w2 ⟨rfl,hb2⟩;have HB2:=hid (HB1.out.trans (hb2.mono HB1.out.size));clear hb2
 go_wp2_with fail
 go_ret
 exact⟨by rw[HP.out,←HA.out];rfl,HB2.out⟩
theorem wdigits_any (n least:Int) (w:World) (h0:0≤n) (h1:n≤1000000000) (l0:0≤least) (l1:least≤20) (hv:MV w):Calls Tryz.prog 66 #[.int .i64 n,.int .i64 least] w fun e w'=>e=.returned (.string (str (padN n least)))∧Below w.heap.size w w':=by
 have HI:=hid (itoaD_any n w (by omega) (by omega) hv)
 have hil:=Lib.itoa_length_le n (by omega) (by omega)
 have HP:Hid (padN n least=Lib.repeatL [48] (least - (Lib.itoa n).length).toNat++Lib.itoa n):=hid rfl;have HR:Hid (∀ W,Calls Tryz.prog 96 #[.string ⟨#[48]⟩,.int .i64 ((least - (Lib.itoa n).length).toNat:Nat)] W fun e w'=>e=.returned (.string (str (Lib.repeatL [48] (least - (Lib.itoa n).length).toNat)))∧Below W.heap.size W w'):=hid fun W=>
  Tryz.strings_Repeat ⟨#[48]⟩ (least - (Lib.itoa n).length).toNat W (by omega) (by
   show 1*_≤_;omega)
 have hmx:max (0:Int) (least - ((Lib.itoa n).length:Int))=((least - (Lib.itoa n).length).toNat:Nat):=by omega
 have hrl:(Lib.repeatL [48] (least - (Lib.itoa n).length).toNat).length≤20:=by rw[Lib.repeatL_length,List.length_singleton];omega
 generalize padN n least=pd at *;generalize Lib.itoa n=it at *;generalize hp:(least - (it.length:Int)).toNat=p at *;generalize Lib.repeatL [48] p=rl at *;have hsz:=str_size it;have q1:¬(9223372036854775807 < (str rl).size+(str it).size):=by rw[str_size,str_size];omega
 have HA:=hid (str_app rl it);clear hv hp
 go_enter Tryz.func66,Tryz.ntmps66
 go_wp2_with fail
 refine HI.out.mono ?_;clear HI;rintro e w1 ⟨rfl,hb1⟩;have HB1:=hid hb1;have HR1:=hid (HR.out w1);clear hb1 HR
 go_wp2_with fail
 refine HR1.out.mono ?_;clear HR1;rintro e w2 ⟨rfl,hb2⟩;have HB2:=hid (HB1.out.trans (hb2.mono HB1.out.size));clear hb2
 go_wp2_with fail
 go_ret
 exact⟨by rw[HP.out,←HA.out];rfl,HB2.out⟩
theorem firstW_eq (y:Int):firstW y=365*(y - 1)+(y - 1) / 4 - (y - 1) / 100+(y - 1) / 400+3 - (365*(y - 1)+(y - 1) / 4 - (y - 1) / 100+(y - 1) / 400+3) % 7:=rfl
theorem firstW_bounds (y:Int) (h0:1≤y) (h1:y≤20000):0≤firstW y∧firstW y≤10000000:=by
 rw[firstW_eq];omega
theorem firstW_step (y:Int) (h0:1≤y) (h1:y≤20000):350≤firstW (y+1) - firstW y∧firstW (y+1) - firstW y≤380:=by
 rw[firstW_eq,firstW_eq];omega
theorem first_any (y:Int) (w:World) (h0:1≤y) (h1:y≤20000):Calls Tryz.prog 68 #[.int .i64 y] w fun e w'=>e=.returned (.int .i64 (firstW y))∧w'=w:=by
 have HF:=hid (firstW_eq y);have h2:0≤365*(y - 1)+(y - 1) / 4 - (y - 1) / 100+(y - 1) / 400+3:=by omega
 go_enter Tryz.func68,Tryz.ntmps68
 go_wp2_with fail
 go_ret
 exact⟨by rw[HF.out];rfl,rfl⟩
def weeksV (y:Int):Value:=if y < 1∨9999 < y then .tuple #[.int .i64 0,.iface 27 (.int .i64 1)]else .tuple #[.int .i64 ((firstW (y+1) - firstW y) / 7),.nilIface]
theorem weeks_any (y:Int) (w:World) (h0: -1000000≤y) (h1:y≤1000000):Calls Tryz.prog 114 #[.int .i64 y] w fun e w'=>e=.returned (weeksV y)∧w'=w:=by
 by_cases a:y < 1
 ·have HW:Hid (weeksV y=.tuple #[.int .i64 0,.iface 27 (.int .i64 1)]):=hid (if_pos (.inl a));generalize weeksV y=wv at*
  go_enter Tryz.func114,Tryz.ntmps114
  go_wp2_with fail
  go_ret2
  exact⟨by rw[HW.out];rfl,rfl⟩
 ·by_cases b:9999 < y
  ·have HW:Hid (weeksV y=.tuple #[.int .i64 0,.iface 27 (.int .i64 1)]):=hid (if_pos (.inr b));generalize weeksV y=wv at*
   go_enter Tryz.func114,Tryz.ntmps114
   go_wp2_with fail
   go_ret2
   exact⟨by rw[HW.out];rfl,rfl⟩
  ·have HW:Hid (weeksV y=.tuple #[.int .i64 ((firstW (y+1) - firstW y) / 7),.nilIface]):=hid (if_neg (by omega))
   generalize weeksV y=wv at *;have H1:=hid (first_any (y+1) w (by omega) (by omega))
   have H2:=hid (first_any y w (by omega) (by omega))
   have h3:=firstW_bounds (y+1) (by omega) (by omega)
   have h4:=firstW_bounds y (by omega) (by omega)
   have h5:=firstW_step y (by omega) (by omega)
   generalize firstW (y+1)=f1 at *;generalize firstW y=f0 at *;have h6:0≤f1 - f0:=by omega
   go_enter Tryz.func114,Tryz.ntmps114
   go_wp2_with fail
   refine H1.out.mono ?_;rintro e w1 ⟨rfl,rfl⟩
   go_wp2_with fail
   refine H2.out.mono ?_;rintro e w2 ⟨rfl,rfl⟩
   go_wp2_with fail
   go_ret2
   exact⟨by rw[HW.out];rfl,rfl⟩
theorem aheadD_bounds:∀ k,k < 13→0≤aheadD k∧aheadD k≤365:=by decide
theorem before_any (y m:Int) (w:World) (y0:1≤y) (y1:y≤20000) (m0:1≤m) (m1:m≤13) (hA:AheadV w):Calls Tryz.prog 117 #[.int .i64 y,.int .i64 m] w fun e w'=>e=.returned (.int .i64 (beforeD y m))∧w'=w:=by
 obtain⟨k,hk⟩:∃ k:Nat,m=(k:Int)+1:=⟨(m - 1).toNat,by omega⟩
 subst hk;have hk13:k < 13:=by omega
 have c0:=hA k hk13;have hb:=aheadD_bounds k hk13;have hbe:beforeD y ((k:Int)+1)=aheadD k+(if 2 < (k:Int)+1∧leapD y=true then 1 else 0):=by unfold beforeD;rw[show((k:Int)+1 - 1).toNat=k from by omega]
 have HBy:Hid (2 < (k:Int)+1→leapD y=true→beforeD y ((k:Int)+1)=aheadD k+1):=hid fun h1 h2=>by rw[hbe,if_pos ⟨h1,h2⟩]
 have HBn:Hid (¬(2 < (k:Int)+1∧leapD y=true)→beforeD y ((k:Int)+1)=aheadD k):=hid fun h=>by rw[hbe,if_neg h,Int.add_zero]
 generalize beforeD y ((k:Int)+1)=bv at *;clear hbe;have HL:=hid (leap_any y w (by omega) y1)
 generalize leapD y=z at *;generalize aheadD k=q at *;clear hA
 by_cases h2:2 < (k:Int)+1
 ·cases z with
  | true=>
    have HR:=hid (HBy.out h2 rfl);clear HBy HBn
    go_enter Tryz.func117,Tryz.ntmps117
    go_wp2_with fail
    refine HL.out.mono ?_;rintro e w1 ⟨rfl,rfl⟩
    go_wp2_with fail
    go_ret
    exact⟨by rw[HR.out];rfl,rfl⟩
  | false=>
    have HR:=hid (HBn.out (fun h=>by cases h.2))
    clear HBy HBn
    go_enter Tryz.func117,Tryz.ntmps117
    go_wp2_with fail
    refine HL.out.mono ?_;rintro e w1 ⟨rfl,rfl⟩
    go_wp2_with fail
    go_ret
    exact⟨by rw[HR.out];rfl,rfl⟩
 ·have HR:=hid (HBn.out (fun h=>h2 h.1));clear HBy HBn
  go_enter Tryz.func117,Tryz.ntmps117
  go_wp2_with fail
  go_ret
  exact⟨by rw[HR.out];rfl,rfl⟩
end Go.Proofs.YtagfnpdoooachaaGreatDoor
