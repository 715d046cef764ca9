/- linguisterlaw4.ServeSizes. -/
import Derived.Test.YtpfmmbbggcghiaaGreatDoorSrvG
import Derived.Test.YtpfmmbbggcghiaaGreatDoorMsgE
namespace Go.Proofs.YtpfmmbbggcghiaaGreatDoor
open Go.RowKit Go.Maps
set_option maxHeartbeats 12800000 in
set_option maxRecDepth 100000 in
theorem serveSizes_any (n m:Int) (l:List Bun) (vl:Value) (tags keys:List ByteArray) (vt vk:Value) (args:List ArgV) (vA:Value) (w:World) (hH:Hands w args vA) (hL:HandsL w l vl) (ht:ListOk Enc.str w 0 w.heap.size vt tags) (hk:ListOk Enc.str w 0 w.heap.size vk keys)
 (hts:∀ t∈tags,t.size≤1048576) (hks:∀ t∈keys,t.size≤1048576) (htl:tags.length≤1048576) (hE:ErrVar w):
 Calls Tryz.prog 4 #[.int .i64 n,.int .i64 m,vl,vt,vk,vA] w fun e w'=>e=.returned (.bool true)∧Below w.heap.size w w':=by
 obtain⟨tA,tc,rfl,_⟩:=ht.form;obtain⟨kA,kc,rfl,_⟩:=hk.form;obtain⟨lA,lc,rfl,_⟩:=hL.lie.form;have HSv:=Lib.hid (served4_any w (hH.ev w (Below.refl _ _)));have HY:Hid (∀ x:Int,1≤x∧x≤50→∀ W,Calls Tryz.prog 8 #[.int .i64 x] W fun e w'=>∃ s:SvD,e=.returned (.tuple #[.pointer (some ⟨s.p,0,none⟩),.nilIface])∧SrvNew x.toNat s W w'):=Lib.hid fun x hx W=>by
  have h1:=srvNew_yes x.toNat W (by omega) (by omega)
  rwa[show((x.toNat:Nat):Int)=x from by omega]at h1
 have HN:Hid (∀ x:Int,¬(1≤x∧x≤50)→∀ W,Calls Tryz.prog 8 #[.int .i64 x] W fun e w'=>e=.returned (.tuple #[.pointer none,.iface 35 (.int .i64 1)])∧w'=W):=Lib.hid fun x hx W=>srvNew_no x W (by omega)
 have HHa:=Lib.hid hH;have HLa:=Lib.hid hL;have HEr:Hid (∀ W,Below w.heap.size w W→ErrVar W):=Lib.hid fun W hW=>hE.below hW hE.lt;have HTk:=Lib.hid (And.intro ht hk);have HSz:=Lib.hid (And.intro hts hks);clear hH hL ht hk hts hks hE
 go_enter Tryz.func4,Tryz.ntmps4
 go_wp2_with fail
 refine HSv.out.mono ?_;clear HSv;rintro e w1 ⟨rfl,hb1⟩;have HB1:=Lib.hid hb1;clear hb1
 by_cases hn:1≤n∧n≤50
 ·have HNa:=Lib.hid (HY.out n hn w1)
  by_cases hm:1≤m∧m≤50
  ·go_wp2_with fail
   refine HNa.out.mono ?_;clear HNa;rintro e w2 ⟨a,rfl,hna⟩;have HA2:=Lib.hid hna;have HNb:=Lib.hid (HY.out m hm w2);clear hna hm hn
   go_wp2_with fail
   refine HNb.out.mono ?_;clear HNb;rintro e w3 ⟨b,rfl,hnb⟩;have hd3:=duo_new HB1.out HA2.out hnb;have hsa:=HA2.out.stn.on hnb.below;have HC0:Hid (a.cnt=0∧b.cnt=0):=Lib.hid ⟨HA2.out.cnt,hnb.cnt⟩;have HSb3:=Lib.hid hnb.stn;have HD3:=Lib.hid hd3;have HLo:=Lib.hid (hd3.load hsa HLa.out HHa.out);clear hd3 hsa hnb HA2
   go_wp2_with fail
   refine HLo.out.mono ?_;clear HLo;rintro e w4 ⟨hf4,a1,hfa,hd4⟩;have hsb4:=HSb3.out.fr hf4 (fun k h1 h2=>HD3.out.ab k h2 h1);have HLo:=Lib.hid (hd4.swap.load hsb4 HLa.out HHa.out);have HFa:=Lib.hid hfa;obtain⟨r,hr⟩:∃ r,r=loadE l:=⟨_,rfl⟩;obtain⟨V,hV⟩:∃ V:Nat,V=if loadE l=0 then 1 else 0:=⟨_,rfl⟩
   have hee:=hfa.e;rw[←hV,←hr]at hee;subst hee;have HVr:=Lib.hid (And.intro hV hr);have hz4:V≠0→loadE l=0:=fun h=>by
    by_cases h0:loadE l=0
    ·exact h0
    ·rw[if_neg h0]at hV;exact absurd hV h
   have HVz:=Lib.hid hz4;clear hf4 hd4 hsb4 hfa HSb3 HD3 hV hr hz4
   go_wp2_with fail
   refine HLo.out.mono ?_;clear HLo;rintro e w5 ⟨_,b1,hfb,hd5⟩;have hee:=hfb.e;rw[←HVr.out.1,←HVr.out.2]at hee;subst hee;have HFb:=Lib.hid hfb;have HD5:=Lib.hid hd5.swap;have hto:=stold_any r r w5 (HEr.out w5 hd5.below);rw[show decide (r=r)=true from decide_eq_true rfl]at hto;have HTo:=Lib.hid hto;clear hfb hd5 hto
   go_wp2_with fail
   refine HTo.out.mono ?_;clear HTo;rintro e w6 ⟨rfl,hb6⟩;have HD6:=Lib.hid (HD5.out.on hb6);clear hb6 HD5
   go_wp2_with fail
   go_loopw [23] (fun i wr=>∃(j:Nat) (a' b':SvD),j≤tags.length∧j≤keys.length∧i=.int .i64 (j:Int)∧Duo w wr a' b'∧a'.p=a.p∧b'.p=b.p∧a'.v=V∧b'.v=V∧(V≠0→a'.l=l∧b'.l=l)∧a'.cnt≤j∧b'.cnt≤j) (fun i _=>tags.length - (intOf i).toNat)
   case atStart=>
    have h1:=HFa.out.cnt;have h2:=HFb.out.cnt;have h3:=HC0.out;exact⟨0,a1,b1,Nat.zero_le _,Nat.zero_le _,rfl,HD6.out,HFa.out.p,HFb.out.p,by rw[HFa.out.v,HVr.out.1],by rw[HFb.out.v,HVr.out.1],fun h=>⟨HFa.out.l (HVz.out h),HFb.out.l (HVz.out h)⟩,by omega,by omega⟩
   case round=>
    obtain⟨j,a',b',hj1,hj2,rfl,hd,hpa,hpb,hva,hvb,hll,hca,hcb⟩:=hrel;obtain⟨wo,rfl⟩:∃ wo:World,wo=wr:=⟨_,rfl⟩
    by_cases hlt:j < tags.length∧j < keys.length
    ·have i1:(0:Int)≤(j:Int):=Int.natCast_nonneg j;have i2:(j:Int) < (tags.length:Int):=by omega
     have i3:(j:Int) < (keys.length:Int):=by omega
     obtain⟨tb,tO,hTA,_,htb,t0⟩:=HTk.out.1.strAt j hlt.1;obtain⟨kb,kO,hKA,_,hkb,k0⟩:=HTk.out.2.strAt j hlt.2;have hsz1:=HSz.out.1 _ (List.getElem_mem hlt.1);have hsz2:=HSz.out.2 _ (List.getElem_mem hlt.2);subst hTA;subst hKA;generalize tags[j]=t at *;generalize keys[j]=k at *;have HCe:Hid (∀ W,Below w.heap.size w W→W.cell? ⟨tb,tO+j,none⟩=some (.string t)∧W.cell? ⟨kb,kO+j,none⟩=some (.string k)):=Lib.hid fun W hW=>⟨(hW.cell (p:=⟨tb,tO+j,none⟩) htb).trans t0,(hW.cell (p:=⟨kb,kO+j,none⟩) hkb).trans k0⟩;obtain⟨S,hS⟩:∃ S,S=srvS l V t k args:=⟨_,rfl⟩;have HSa:Hid (∀ W,Duo w W a' b'→Calls Tryz.prog 10 #[.pointer (some ⟨a.p,0,none⟩),.string t,.string k,vA] W fun e w'=>e=.returned (.tuple #[.string (str S.1),errD S.2])∧∃ a2,Asked a' a2∧Duo w w' a2 b'):=Lib.hid fun W hW=>by
      have h1:=hW.say HHa.out hsz1 hsz2 (show a'.cnt≤1000000000 by omega)
      rw[hpa]at h1;unfold SaidE at h1;rw[said_same hva fun h=>(hll h).1,←hS]at h1;exact h1
     have HSb:Hid (∀ W a2,Duo w W a2 b'→Calls Tryz.prog 10 #[.pointer (some ⟨b.p,0,none⟩),.string t,.string k,vA] W fun e w'=>e=.returned (.tuple #[.string (str S.1),errD S.2])∧∃ b2,Asked b' b2∧Duo w w' b2 a2):=Lib.hid fun W a2 hW=>by
      have h1:=hW.swap.say HHa.out hsz1 hsz2 (show b'.cnt≤1000000000 by omega)
      rw[hpb]at h1;unfold SaidE at h1;rw[said_same hvb fun h=>(hll h).2,←hS]at h1;exact h1
     have HNc:Hid (∀ W,Calls Tryz.prog 8 #[.int .i64 1] W fun e w'=>∃ s:SvD,e=.returned (.tuple #[.pointer (some ⟨s.p,0,none⟩),.nilIface])∧SrvNew 1 s W w'):=Lib.hid fun W=>srvNew_yes 1 W (Nat.le_refl _) (by decide)
     have HSc:Hid (∀ w8 W c1,c1.v=V→(V≠0→c1.l=l)→c1.cnt≤0→Below w.heap.size w w8→Solo w8 W c1→Calls Tryz.prog 10 #[.pointer (some ⟨c1.p,0,none⟩),.string t,.string k,vA] W fun e w'=>e=.returned (.tuple #[.string (str S.1),errD S.2])∧Below w8.heap.size w8 w'):=Lib.hid fun w8 W c1 h1 h2 h3 h4 h5=>by
      have h6:=h5.say (HHa.out.on h4) hsz1 hsz2 (show c1.cnt≤1000000000 by omega)
      unfold SaidE at h6;rw[said_same h1 h2,←hS]at h6;exact h6.mono fun e w' ⟨g1,_,_,g2⟩=>⟨g1,g2.below⟩
     have HS:=Lib.hid hS;have HD:=Lib.hid hd;have HA':Hid (a'.p=a.p∧b'.p=b.p∧a'.v=V∧b'.v=V∧(V≠0→a'.l=l∧b'.l=l)∧a'.cnt≤j∧b'.cnt≤j):=Lib.hid ⟨hpa,hpb,hva,hvb,hll,hca,hcb⟩;obtain⟨tc1,kc1⟩:=HCe.out wo hd.below;have tc1d:wo.drew.cell? ⟨tb,tO+j,none⟩=some (.string t):=tc1;have kc1d:wo.drew.cell? ⟨kb,kO+j,none⟩=some (.string k):=kc1;have HDd:Hid (Duo w wo.drew a' b'):=Lib.hid (hd.on (Below.refl _ _).drew);clear hd hpa hpb hva hvb hll hca hcb hS t0 k0 hsz1 hsz2
     go_wp2_with fail
     go_region_held3 (fun w'=>w'.cell? ⟨tb,tO+j,none⟩=some (.string t)∧w'.cell? ⟨kb,kO+j,none⟩=some (.string k)) (first|(with_reducible exact⟨tc2,kc2⟩)|(with_reducible exact⟨tc1d,kc1d⟩)|(with_reducible exact⟨tc1,kc1⟩))
      (first
        | (go_at_call 10
           refine(HSa.out _ HDd.out).mono ?_;rintro e w7 ⟨rfl,a2,haa,hd7⟩;obtain⟨tc2,kc2⟩:=HCe.out w7 hd7.below;have HAa:=Lib.hid haa;have HD7:=Lib.hid hd7;clear haa hd7))
     have tc2d:w7.drew.cell? ⟨tb,tO+j,none⟩=some (.string t):=tc2;have kc2d:w7.drew.cell? ⟨kb,kO+j,none⟩=some (.string k):=kc2;have HD7d:Hid (Duo w w7.drew a2 b'):=Lib.hid (HD7.out.on (Below.refl _ _).drew);clear tc1 kc1 tc1d kc1d HSa HDd
     go_wp2_with fail
     go_region_held3 (fun w'=>w'.cell? ⟨tb,tO+j,none⟩=some (.string t)∧w'.cell? ⟨kb,kO+j,none⟩=some (.string k)) (first|(with_reducible exact⟨tc3,kc3⟩)|(with_reducible exact⟨tc2d,kc2d⟩)|(with_reducible exact⟨tc2,kc2⟩))
      (first
        | (go_at_call 10
           refine(HSb.out _ a2 HD7d.out).mono ?_;rintro e w8 ⟨rfl,b2,hbb,hd8⟩;obtain⟨tc3,kc3⟩:=HCe.out w8 hd8.below;have HBb:=Lib.hid hbb;have HD8:=Lib.hid hd8;clear hbb hd8))
     have HN8:=Lib.hid (HNc.out w8);clear tc2 kc2 tc2d kc2d HSb HD7d HNc tc3 kc3
     go_wp2_with fail
     refine HN8.out.mono ?_;clear HN8;rintro e w9 ⟨c,rfl,hnc⟩;have HSo:=Lib.hid hnc.solo;have HLc:=Lib.hid (hnc.solo.load hnc.stn (HLa.out.on HD8.out.below) (HHa.out.on HD8.out.below));have HCc:=Lib.hid hnc.cnt;clear hnc
     go_wp2_with fail
     refine HLc.out.mono ?_;clear HLc;rintro e w10 ⟨c1,hfc,hsc⟩;have hee:=hfc.e;rw[←HVr.out.1,←HVr.out.2]at hee;subst hee;obtain⟨tc4,kc4⟩:=HCe.out w10 (HD8.out.below.trans (hsc.below.mono HD8.out.below.size));have hscd:Solo w8 w10.drew c1:=hsc.on (Below.refl _ _).drew;have hsay:=HSc.out w8 w10.drew c1 (by rw[hfc.v,HVr.out.1]) (fun h=>hfc.l (HVz.out h)) (by have:=hfc.cnt;have:=HCc.out;omega) HD8.out.below hscd
     rw[hfc.p]at hsay;have HSay:=Lib.hid hsay;have tc4d:w10.drew.cell? ⟨tb,tO+j,none⟩=some (.string t):=tc4;have kc4d:w10.drew.cell? ⟨kb,kO+j,none⟩=some (.string k):=kc4;have HZ8:=Lib.hid HD8.out.below;clear hfc hsc hscd hsay HSc HSo
     go_wp2_with fail
     go_region_held3 (fun w'=>w'.cell? ⟨tb,tO+j,none⟩=some (.string t)∧w'.cell? ⟨kb,kO+j,none⟩=some (.string k)) (first|(with_reducible exact⟨tc5,kc5⟩)|(with_reducible exact⟨tc4d,kc4d⟩)|(with_reducible exact⟨tc4,kc4⟩))
      (first
        | (go_at_call 10
           refine HSay.out.mono ?_;rintro e w11 ⟨rfl,hb11⟩;obtain⟨tc5,kc5⟩:=HCe.out w11 (HZ8.out.trans (hb11.mono HZ8.out.size));have HB11:=Lib.hid hb11;clear hb11))
     clear tc4 kc4 tc4d kc4d tc5 kc5 HSay;have hE11:=HEr.out w11 (HZ8.out.trans (HB11.out.mono HZ8.out.size));have hto:=stold_any S.2 S.2 w11 hE11;rw[show decide (S.2=S.2)=true from decide_eq_true rfl,errDV]at hto;have HTo:=Lib.hid hto;clear hto hE11
     go_wp2_with fail
     refine HTo.out.mono ?_;clear HTo;rintro e w12 ⟨rfl,hb12⟩;have HB12:=Lib.hid (HB11.out.trans (hb12.mono HB11.out.size));have hto:=stold_any S.2 S.2 w12 (HEr.out w12 (HZ8.out.trans (HB12.out.mono HZ8.out.size)));rw[show decide (S.2=S.2)=true from decide_eq_true rfl,errDV]at hto;have HTo:=Lib.hid hto;clear hto hb12
     go_wp2_with fail
     refine HTo.out.mono ?_;clear HTo;rintro e w13 ⟨rfl,hb13⟩;have HB13:=Lib.hid (HB12.out.trans (hb13.mono HB12.out.size));clear hb13
     go_wp2_with fail
     go_roundw
     case rel=>
      have h1:=HA'.out;have h2:=HAa.out;have h3:=HBb.out;refine⟨j+1,a2,b2,by omega,by omega,by go_num,(HD8.out.on HB13.out).swap,by rw[h2.p,h1.1],by rw[h3.p,h1.2.1],by rw[h2.v,h1.2.2.1],by rw[h3.v,h1.2.2.2.1],fun h=>⟨by rw[h2.l,(h1.2.2.2.2.1 h).1],by rw[h3.l,(h1.2.2.2.2.1 h).2]⟩,?_,?_⟩
      ·have:=h2.cnt;have:=h1.2.2.2.2.2.1;omega
      ·have:=h3.cnt;have:=h1.2.2.2.2.2.2;omega
     case measure=>simp[intOf];omega
    ·have HD:=Lib.hid hd;have hb:=hd.below;clear hd
     by_cases h1:j < tags.length
     ·have i1:(0:Int)≤(j:Int):=Int.natCast_nonneg j;have i2:(j:Int) < (tags.length:Int):=by omega
      have i3:¬((j:Int) < (keys.length:Int)):=by omega
      clear hlt
      go_wp2_with fail
      go_ret
      exact⟨rfl,HD.out.below⟩
     ·have i2:¬((j:Int) < (tags.length:Int)):=by omega
      clear hlt
      go_wp2_with fail
      go_ret
      exact⟨rfl,HD.out.below⟩
  ·have HNb:=Lib.hid (HN.out m hm)
   go_wp2_with fail
   refine HNa.out.mono ?_;clear HNa;rintro e w2 ⟨a,rfl,hna⟩;have HB2:=Lib.hid (HB1.out.trans (hna.below.mono HB1.out.size));have HNb2:=Lib.hid (HNb.out w2);clear hna hn hm
   go_wp2_with fail
   refine HNb2.out.mono ?_;rintro e w3 ⟨rfl,rfl⟩
   go_wp2_with fail
   go_ret
   exact⟨rfl,HB2.out⟩
 ·have HNa:=Lib.hid (HN.out n hn w1)
  by_cases hm:1≤m∧m≤50
  ·have HNb:=Lib.hid (HY.out m hm w1);clear hn hm
   go_wp2_with fail
   refine HNa.out.mono ?_;rintro e w2 ⟨rfl,rfl⟩
   go_wp2_with fail
   refine HNb.out.mono ?_;rintro e w3 ⟨b,rfl,hnb⟩;have HB3:=Lib.hid (HB1.out.trans (hnb.below.mono HB1.out.size));clear hnb
   go_wp2_with fail
   go_ret
   exact⟨rfl,HB3.out⟩
  ·have HNb:=Lib.hid (HN.out m hm w1);clear hn hm
   go_wp2_with fail
   refine HNa.out.mono ?_;rintro e w2 ⟨rfl,rfl⟩
   go_wp2_with fail
   refine HNb.out.mono ?_;rintro e w3 ⟨rfl,rfl⟩
   go_wp2_with fail
   go_ret
   exact⟨rfl,HB1.out⟩
end Go.Proofs.YtpfmmbbggcghiaaGreatDoor
