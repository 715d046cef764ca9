/- linguisterlaw4.ServeReloads. -/
import Derived.Test.YtpfmmbbggcghiaaGreatDoorSrvU
import Derived.Test.YtpfmmbbggcghiaaGreatDoorSrvG
set_option linter.unusedSimpArgs false
set_option linter.unusedVariables false
namespace Go.Proofs.YtpfmmbbggcghiaaGreatDoor
open Go.RowKit Go.Maps
open Lib (hid)
set_option maxHeartbeats 12800000 in
set_option maxRecDepth 100000 in
theorem serveReloads_any (n:Int) (l m:List Bun) (vl vm:Value) (tg ky:ByteArray) (args:List ArgV) (vA:Value) (w:World) (hH:Hands w args vA) (hL:HandsL w l vl) (hM:HandsL w m vm) (ht:tg.size≤1048576) (hk:ky.size≤1048576) (hE:ErrVar w):
 Calls Tryz.prog 5 #[.int .i64 n,vl,vm,.string tg,.string ky,vA] w fun e w'=>e=.returned (.bool true)∧Below w.heap.size w w':=by
 obtain⟨lA,lc,rfl,_⟩:=hL.lie.form;obtain⟨mA,mc,rfl,_⟩:=hM.lie.form;have HSv:=hid (served4_any w (hH.ev w (Below.refl _ _)));have HHa:=hid hH;have HLa:=hid hL;have HMa:=hid hM;have HEr:Hid (∀ W,Below w.heap.size w W→ErrVar W):=hid fun W hW=>hE.below hW hE.lt;clear hH hL hM hE
 go_enter Tryz.func5,Tryz.ntmps5
 go_wp2_with fail
 refine HSv.out.mono ?_;clear HSv;rintro e w1 ⟨rfl,hb1⟩;have HB1:=hid hb1;clear hb1
 by_cases hn:1≤n∧n≤50
 ·have HY:Hid (∀ W,Calls Tryz.prog 8 #[.int .i64 n] W fun e w'=>∃ s:SvD,e=.returned (.tuple #[.pointer (some ⟨s.p,0,none⟩),.nilIface])∧SrvNew n.toNat s W w'):=hid fun W=>by
   have h1:=srvNew_yes n.toNat W (by omega) (by omega)
   rwa[show((n.toNat:Nat):Int)=n from by omega]at h1
  have HNa:=hid (HY.out w1);clear hn
  go_wp2_with fail
  refine HNa.out.mono ?_;clear HNa;rintro e w2 ⟨a,rfl,hna⟩;have HA2:=hid hna;have HNb:=hid (HY.out w2);clear hna
  go_wp2_with fail
  refine HNb.out.mono ?_;clear HNb HY;rintro e w3 ⟨b,rfl,hnb⟩;have hd3:=duo_new HB1.out HA2.out hnb;have hsa:=HA2.out.stn.on hnb.below;have HC0:Hid (a.cnt=0∧b.cnt=0∧a.v=0):=hid ⟨HA2.out.cnt,hnb.cnt,HA2.out.v⟩;have HSb3:=hid hnb.stn;have HD3:=hid hd3;have hok:StOk a w3:=by obtain⟨T,h1,_⟩:=hd3.ex;exact hsa.ok h1
  have HLo:=hid (hd3.load2 hok (by rw[HA2.out.v];decide) HLa.out HHa.out)
  clear hd3 hsa hnb HA2 hok
  go_wp2_with fail
  refine HLo.out.mono ?_;clear HLo;rintro e w4 ⟨hf4,a1,hn4,hd4⟩;have HSb4:=hid (HSb3.out.fr hf4 (fun k h1 h2=>HD3.out.ab k h2 h1));obtain⟨r1,hr1⟩:∃ r,r=loadE l:=⟨_,rfl⟩;have hee:=hn4.e;rw[HC0.out.2.2,←hr1]at hee;obtain⟨V1,hV1⟩:∃ V:Nat,V=if r1=0 then 0+1 else 0:=⟨_,rfl⟩
  rw[←hV1]at hee;subst hee;have HN4:=hid hn4;have HD4:=hid hd4;obtain⟨S1,hS1⟩:∃ S,S=srvS a1.l a1.v tg ky args:=⟨_,rfl⟩;have hsay:=hd4.say2 hn4.st HHa.out ht hk (by have:=hn4.cnt;have:=HC0.out;omega)
  unfold SaidE at hsay;rw[←hS1,hn4.p]at hsay;have HSy:=hid hsay;have HR1:=hid (And.intro hr1 hV1);have HS1:=hid hS1;clear hf4 hn4 hd4 HSb3 HD3 hsay hr1 hV1 hS1
  go_wp2_with fail
  refine HSy.out.mono ?_;clear HSy;rintro e w5 ⟨hf5,rfl,a2,ha2,hst5,hd5⟩;have HSb5:=hid (HSb4.out.fr hf5 (fun k h1 h2=>HD4.out.ab k h2.x h1));have hv2:a2.v≤1:=by
   rw[ha2.v,HN4.out.v,HC0.out.2.2];split <;> omega
  have hld:=hd5.load2 hst5 (by omega) HMa.out HHa.out
  rw[ha2.p,HN4.out.p]at hld;have HLo:=hid hld;have HA5:=hid ha2;have HV2:=hid hv2;have HD5:=hid hd5;clear hf5 ha2 hst5 hd5 HSb4 HD4 hld hv2
  go_wp2_with fail
  refine HLo.out.mono ?_;clear HLo;rintro e w6 ⟨hf6,a3,hn6,hd6⟩;have hsb6:=HSb5.out.fr hf6 (fun k h1 h2=>HD5.out.ab k h2 h1);obtain⟨r2,hr2⟩:∃ r,r=loadE m:=⟨_,rfl⟩;have hee:=hn6.e;rw[←hr2]at hee;obtain⟨V3,hV3⟩:∃ V:Nat,V=if r2=0 then a2.v+1 else 0:=⟨_,rfl⟩
  rw[←hV3]at hee;subst hee;have HN6:=hid hn6;have HR2:=hid hr2;have HLo:=hid (hd6.swap.load hsb6 HMa.out HHa.out);have HT6:=hid hn6.st;clear hf6 hn6 hd6 HSb5 HD5 hsb6 hV3 hr2
  go_wp2_with fail
  refine HLo.out.mono ?_;clear HLo;rintro e w7 ⟨_,b1,hfb,hd7⟩;have hee:=hfb.e;rw[←HR2.out]at hee;obtain⟨V4,hV4⟩:∃ V:Nat,V=if r2=0 then 1 else 0:=⟨_,rfl⟩
  rw[←hV4]at hee;subst hee;obtain⟨S2,hS2⟩:∃ S,S=srvS a3.l a3.v tg ky args:=⟨_,rfl⟩;obtain⟨S3,hS3⟩:∃ S,S=srvS b1.l b1.v tg ky args:=⟨_,rfl⟩;have hca:a3.cnt≤1:=by have h1:=HN6.out.cnt;have h2:=HA5.out.cnt;have h3:=HN4.out.cnt;have h4:=HC0.out;omega
  have hcb:b1.cnt≤1:=by have h1:=hfb.cnt;have h4:=HC0.out;omega
  have hsay:=hd7.swap.say HHa.out ht hk (show a3.cnt≤1000000000 by omega)
  unfold SaidE at hsay;rw[←hS2,HN6.out.p,HA5.out.p,HN4.out.p]at hsay;have HSy:=hid hsay;have HFb:=hid hfb;have HSb:Hid (∀ W a4,Duo w W a4 b1→Calls Tryz.prog 10 #[.pointer (some ⟨b.p,0,none⟩),.string tg,.string ky,vA] W fun e w'=>e=.returned (.tuple #[.string (str S3.1),errD S3.2])∧∃ b2,Duo w w' a4 b2):=hid fun W a4 hW=>by
   have h1:=hW.swap.say HHa.out ht hk (show b1.cnt≤1000000000 by omega)
   unfold SaidE at h1;rw[←hS3,HFb.out.p]at h1;exact h1.mono fun e w' ⟨g1,b2,_,g2⟩=>⟨g1,b2,g2.swap⟩
  have HQ1:Hid (r2≠0→S2=S1∧a3.v≤1):=hid fun h=>by
   have h2:loadE m≠0:=by rw[←HR2.out];exact h
   rw[hS2,HS1.out,HN6.out.l,HN6.out.v,if_neg h2,if_neg h2,HA5.out.l,HA5.out.v];exact⟨rfl,by have:=HV2.out;rw[HA5.out.v]at this;exact this⟩
  have HQ2:Hid (r2=0→S2=S3∧a3.v=a2.v+1):=hid fun h=>by
   have h2:loadE m=0:=by rw[←HR2.out];exact h
   rw[hS2,hS3,HN6.out.l,HN6.out.v,if_pos h2,if_pos h2,HFb.out.l h2,HFb.out.v,if_pos h2];exact⟨srvS_new (Nat.succ_ne_zero _) (by decide),rfl⟩
  have HQ3:Hid (r1=0→a2.v=1):=hid fun h=>by
   rw[HA5.out.v,HN4.out.v,←HR1.out.1,if_pos h,HC0.out.2.2]
  have HP3:Hid (a3.p=a.p):=hid (by rw[HN6.out.p,HA5.out.p,HN4.out.p])
  clear hfb hd7 hsay hV4 hca hcb hS2 hS3 HT6 HN6 HN4 HS1 HR1
  go_wp2_with fail
  refine HSy.out.mono ?_;clear HSy;rintro e w8 ⟨rfl,a4,ha4,hd8⟩;have HSb8:=hid (HSb.out w8 a4 hd8);have HA4:=hid ha4;clear HSb ha4 hd8
  go_wp2_with fail
  refine HSb8.out.mono ?_;clear HSb8;rintro e w9 ⟨rfl,b2,hd9⟩;have HD9:=hid hd9;have hto:=stold_any r2 r2 w9 (HEr.out w9 hd9.below);rw[show decide (r2=r2)=true from decide_eq_true rfl]at hto;have HTo:=hid hto;clear hd9 hto
  go_wp2_with fail
  refine HTo.out.mono ?_;clear HTo;rintro e w10 ⟨rfl,hb10⟩;have HD10:=hid (HD9.out.on hb10);clear hb10 HD9
  by_cases hr:r2=0
  ·obtain⟨hs,hv⟩:=HQ2.out hr;subst hs;have hto:=stold_any S2.2 S2.2 w10 (HEr.out w10 HD10.out.below);rw[show decide (S2.2=S2.2)=true from decide_eq_true rfl,errDV]at hto;have HTo:=hid hto;have HV:=hid hv;rw[hr,errV_zero];clear hr hto hv HQ1 HQ2
   go_wp2_with fail
   refine HTo.out.mono ?_;clear HTo;rintro e w11 ⟨rfl,hb11⟩;have HD11:=hid (HD10.out.on hb11);clear hb11
   by_cases h1:r1=0
   ·have hve:=HD11.out.version;rw[HA4.out.p,HP3.out,HA4.out.v,HV.out,HQ3.out h1]at hve;have HVe:=hid hve;rw[h1,errV_zero];clear hve h1
    go_wp2_with fail
    refine HVe.out.mono ?_;rintro e w12 ⟨rfl,rfl⟩
    go_wp2_with fail
    go_ret
    exact⟨rfl,HD11.out.below⟩
   ·rw[errV_ne h1]
    go_wp2_with fail
    go_ret
    exact⟨rfl,HD11.out.below⟩
  ·obtain⟨hs,hv⟩:=HQ1.out hr;subst hs;have hto:=stold_any S2.2 S2.2 w10 (HEr.out w10 HD10.out.below);rw[show decide (S2.2=S2.2)=true from decide_eq_true rfl,errDV]at hto;have HTo:=hid hto;rw[errV_ne hr];clear hr hto HQ1 HQ2
   go_wp2_with fail
   refine HTo.out.mono ?_;clear HTo;rintro e w11 ⟨rfl,hb11⟩;have HD11:=hid (HD10.out.on hb11);have hve:=HD11.out.version;rw[HA4.out.p,HP3.out,HA4.out.v]at hve;have HVe:=hid hve;have hvi:((a3.v:Nat):Int)≤1:=by omega
   clear hb11 hve
   go_wp2_with fail
   refine HVe.out.mono ?_;rintro e w12 ⟨rfl,rfl⟩
   go_wp2_with fail
   go_ret
   exact⟨rfl,HD11.out.below⟩
 ·have HN:Hid (∀ W,Calls Tryz.prog 8 #[.int .i64 n] W fun e w'=>e=.returned (.tuple #[.pointer none,.iface 35 (.int .i64 1)])∧w'=W):=hid fun W=>srvNew_no n W (by omega)
  have HNa:=hid (HN.out w1);clear hn
  go_wp2_with fail
  refine HNa.out.mono ?_;rintro e w2 ⟨rfl,rfl⟩
  go_wp2_with fail
  refine HNa.out.mono ?_;rintro e w3 ⟨rfl,rfl⟩
  go_wp2_with fail
  go_ret
  exact⟨rfl,HB1.out⟩
end Go.Proofs.YtpfmmbbggcghiaaGreatDoor
