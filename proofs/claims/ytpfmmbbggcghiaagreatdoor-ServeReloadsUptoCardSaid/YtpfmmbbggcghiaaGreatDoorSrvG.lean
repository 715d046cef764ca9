/- The fact of chapter 4's statements on servers: linguisterlaw4.served. -/
import Derived.Test.YtpfmmbbggcghiaaGreatDoorSrvF
set_option linter.unusedSimpArgs false
set_option linter.unusedVariables false
namespace Go.Proofs.YtpfmmbbggcghiaaGreatDoor
open Go.RowKit Go.Maps
open Lib (hid)
theorem small_list {w1:World} {lo:Nat} {A:Option Addr} {c:Nat} (h:ListOk Enc.ent w1 lo w1.heap.size (.slice A 1 c) [⟨hiK,helloT⟩]) (hlo:lo≤w1.heap.size):ListOk Enc.bun (w1.alloc (.cells #[.string en,.slice A 1 c] 49)) lo (w1.heap.size+1) (.slice (some ⟨w1.heap.size,0,none⟩) 1 1) [smallBun]:=by
 refine⟨some ⟨w1.heap.size,0,none⟩,1,rfl,Nat.le_refl _,fun i hi=> ?_⟩;have hi0:i=0:=by simpa using hi
 subst hi0;refine⟨w1.heap.size,0,[.string en,.slice A 1 c],rfl,hlo,Nat.lt_succ_self _,fun j u hj=> ?_,_,rfl,?_⟩
 ·rw[show 0+0*Enc.bun.sz+j=j from by omega,(Blk.new w1 49 #[.string en,.slice A 1 c]).cell j];simpa using hj
 ·exact(h.below Enc.ent_laws ((Below.refl _ _).alloc (Nat.le_refl _) _)).mono Enc.ent_laws (Nat.le_refl _) (Nat.le_succ _)
theorem you_list (w:World):ListOk Enc.argV (w.alloc (.cells #[.string ⟨#[110,97,109,101]⟩,.bool false,.int .i64 0,.int .i64 0,.string ⟨#[121,111,117]⟩] 67)) w.heap.size (w.heap.size+1) (.slice (some ⟨w.heap.size,0,none⟩) 1 1) youA:=by
 refine⟨some ⟨w.heap.size,0,none⟩,1,rfl,Nat.le_refl _,fun i hi=> ?_⟩;have hi0:i=0:=by have h1:youA.length=1:=rfl;omega
 subst hi0;refine⟨w.heap.size,0,[.string ⟨#[110,97,109,101]⟩,.bool false,.int .i64 0,.int .i64 0,.string ⟨#[121,111,117]⟩],rfl,Nat.le_refl _,Nat.lt_succ_self _,fun j u hj=> ?_,rfl⟩;rw[show 0+0*Enc.argV.sz+j=j from by omega,(Blk.new w 67 #[.string ⟨#[110,97,109,101]⟩,.bool false,.int .i64 0,.int .i64 0,.string ⟨#[121,111,117]⟩]).cell j];simpa using hj
theorem youA_in:∀ m:List (Nd 7),(m.map (Enc.node 7).bulk).sum≤1048576→SayIn 7 m youA:=fun m h=>
 ⟨h,by decide,fun a ha=>by obtain rfl:=List.mem_singleton.1 ha;decide,fun a ha=>by obtain rfl:=List.mem_singleton.1 ha;decide⟩
set_option maxHeartbeats 6400000 in
set_option maxRecDepth 100000 in
theorem served4_any (w:World) (hV:EvV w):Calls Tryz.prog 19 #[] w fun e w'=>e=.returned (.bool true)∧Below w.heap.size w w':=by
 have HN:=hid (srvNew_yes 1 w (Nat.le_refl _) (by decide))
 have HV:Hid (∀ W,Below w.heap.size w W→EvV W):=hid fun W hW=>hV.below hW;have HSm:Hid (∀ W,Calls Tryz.prog 59 #[] W fun e w'=>Below W.heap.size W w'∧∃ A c,e=.returned (.agg #[.string en,.slice A 1 c])∧ListOk Enc.ent w' W.heap.size w'.heap.size (.slice A 1 c) [⟨hiK,helloT⟩]):=hid fun W=>small_any W;clear hV
 go_enter Tryz.func19,Tryz.ntmps19
 go_wp2_with fail
 refine HN.out.mono ?_;clear HN;rintro e w1 ⟨s,rfl,hn⟩;have HNw:=hid hn;have HS1:=hid (HSm.out w1);clear hn HSm
 go_wp2_with fail
 refine HS1.out.mono ?_;clear HS1;rintro e w2 ⟨hb2,A,c,rfl,hsl⟩;obtain⟨W3,eW3⟩:∃ W3,W3=w2.alloc (.cells #[.string en,.slice A 1 c] 49):=⟨_,rfl⟩;have hz3:W3.heap.size=w2.heap.size+1:=by rw[eW3,World.size_alloc]
 have hb3:Below w1.heap.size w1 W3:=by rw[eW3];exact hb2.alloc hb2.size _
 have hls:=small_list hsl hb2.size;rw[←eW3,←hz3]at hls;have hz1:=HNw.out.below.size;have hz2:=hb2.size;have HB3:Hid (Below w.heap.size w W3):=hid (HNw.out.below.trans (hb3.mono hz1));have hst:StoreSt w.heap.size w1.heap.size W3 s.sp s.M s.vs:=by rw[HNw.out.vs];exact HNw.out.st.keep hb3
 have HL:=hid (srvLoad_any (SX s) s w.heap.size w1.heap.size [smallBun] (.slice (some ⟨w2.heap.size,0,none⟩) 1 1) w1.heap.size W3 (HNw.out.r.below hb3) hst (by rw[HNw.out.v,HNw.out.vs];rfl) HNw.out.Mm (by rw[HNw.out.vs];decide) (by omega) w.heap.size (fun k hk=>(HNw.out.own k hk).1) (by omega) (fun W hW=>HV.out W (HB3.out.trans hW)) W3.heap.size hls (Nat.le_refl _) (fun k hk=>.inl (HNw.out.own k hk).2)
  (fun b hb=>by
    rw[List.mem_singleton.1 hb];exact⟨by decide +kernel,by decide +kernel,fun e he=>by rw[List.mem_singleton.1 he];exact⟨by decide +kernel,by decide +kernel⟩⟩) (by decide))
 have EW3:=hid eW3;clear hb2 hsl eW3 hb3 hls hst;have HBz:Hid (w1.heap.size≤W3.heap.size∧w.heap.size≤w1.heap.size):=hid ⟨by omega,by omega⟩
 clear hz3 hz2 hz1
 go_wp2_with fail
 rw[←EW3.out];clear EW3;refine HL.out.mono ?_;clear HL;rintro e w4 ⟨hf4,hres⟩;rcases hres with⟨hbad,_⟩|⟨_,rfl,s',hp',_,_,hv',hl',hc',_,hx',hr',_⟩
 ·exact absurd small_load hbad
 have hz4:=hf4.size;have HB4:Hid (Below w.heap.size w w4):=hid (Fr.below HB3.out hf4 HB3.out.size fun k hk=>(HNw.out.own k hk).1);obtain⟨W5,eW5⟩:∃ W5,W5=w4.alloc (.cells #[.string ⟨#[110,97,109,101]⟩,.bool false,.int .i64 0,.int .i64 0,.string ⟨#[121,111,117]⟩] 67):=⟨_,rfl⟩;have hb5:Below w4.heap.size w4 W5:=by rw[eW5];exact(Below.refl _ _).alloc (Nat.le_refl _) _
 have hz5:W5.heap.size=w4.heap.size+1:=by rw[eW5,World.size_alloc]
 have hyl:ListOk Enc.argV W5 w4.heap.size (w4.heap.size+1) (.slice (some ⟨w4.heap.size,0,none⟩) 1 1) youA:=by rw[eW5];exact you_list w4
 have hs5:=hr'.below hb5;have HB5:Hid (Below w.heap.size w W5):=hid (HB4.out.trans (hb5.mono HB4.out.size));have hTw:∀ k,(SX s k∨SX s' k)→w.heap.size≤k:=fun k hk=>by
  rcases hk with hk|hk
  ·exact(HNw.out.own k hk).1
  ·rcases hx' k hk with hk|hk
   ·exact(HNw.out.own k hk).1
   ·have:=HBz.out;omega
 have HSy:=hid (srvSay_any _ s' ⟨#[100,101]⟩ ⟨#[104,105]⟩ youA (.slice (some ⟨w4.heap.size,0,none⟩) 1 1) w4.heap.size W5 hs5 (by decide) (by decide) (by rw[hc'];decide) w.heap.size hTw HB5.out.size (fun W hW=>HV.out W (HB5.out.trans hW)) youA_in (w4.heap.size+1) hyl (by omega) (fun k hk=>.inl (hr'.low k (hr'.sub k hk.x))))
 have HP':=hid hp';have HV':Hid (s'.v=1):=hid (by rw[hv',HNw.out.v])
 have HL':=hid hl';have hv0:((s.v+1:Nat):Int)=1:=by rw[HNw.out.v];rfl
 rw[hv0];have HTw:=hid hTw;have EW5:=hid eW5;clear hf4 hp' hv' hl' hc' hx' hr' eW5 hb5 hz5 hyl hs5 hv0 hTw hz4
 go_wp2_with fail
 rw[←EW5.out,←HP'.out];clear EW5;refine HSy.out.mono ?_;clear HSy;rintro e w6 ⟨rfl,hand,cnt,ps,f,_,_,hs6,hf6⟩;rw[HV'.out,HL'.out,small_said];have hve:=version_any _ _ w6 hs6;have hve:Calls Tryz.prog 20 #[.pointer (some ⟨s'.p,0,none⟩)] w6 fun e w'=>e=.returned (.int .i64 (s'.v:Int))∧w'=w6:=hve;rw[HV'.out]at hve;have HVe:=hid hve;have HB6:Hid (Below w.heap.size w w6):=hid (Fr.below HB5.out hf6 HB5.out.size fun k hk=>HTw.out k (hs6.sub k hk.x));have h97:(str [104,101,108,108,111,32,121,111,117])=(⟨#[104,101,108,108,111,32,121,111,117]⟩:ByteArray):=rfl;rw[h97,errD_zero];clear hs6 hf6 h97 hve
 go_wp2_with fail
 refine HVe.out.mono ?_;clear HVe;rintro e w7 ⟨rfl,rfl⟩
 go_wp2_with fail
 go_ret
 exact⟨rfl,HB6.out⟩
end Go.Proofs.YtpfmmbbggcghiaaGreatDoor
