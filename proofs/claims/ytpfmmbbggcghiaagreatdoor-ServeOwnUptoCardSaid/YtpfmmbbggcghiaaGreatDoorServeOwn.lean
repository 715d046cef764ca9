/- linguisterlaw5.ServeOwn. -/
import Derived.Test.YtpfmmbbggcghiaaGreatDoorSrvX
import Derived.Test.YtpfmmbbggcghiaaGreatDoorSpIn
set_option linter.unusedSimpArgs false
set_option linter.unusedVariables false
namespace Go.Proofs.YtpfmmbbggcghiaaGreatDoor
open Go.RowKit Go.Maps
open Lib (hid)
set_option maxHeartbeats 12800000 in
set_option maxRecDepth 100000 in
theorem serveOwn_any (n:Int) (l:List Bun) (vl:Value) (tg ky:ByteArray) (args:List ArgV) (vA:Value) (x:ByteArray) (w:World) (hH:Hands w args vA) (hL:HandsL w l vl) (ht:tg.size≤1048576) (hk:ky.size≤1048576) (hal:args.length≤1048576) (hE:ErrVar w):
 Calls Tryz.prog 6 #[.int .i64 n,vl,.string tg,.string ky,vA,.string x] w fun e w'=>e=.returned (.bool true)∧Below w.heap.size w w':=by
 obtain⟨A,c,rfl,_⟩:=hL.lie.form;obtain⟨aA,ac,rfl,_⟩:=hH.lie.form;have HHa:=hid hH;have HLa:=hid hL;have HEr:Hid (∀ W,Below w.heap.size w W→ErrVar W):=hid fun W hW=>hE.below hW hE.lt;have HBu:Hid (∀ W,Below w.heap.size w W→BunsIn W (.slice A l.length c) l):=hid fun W hW=>⟨⟨0,(hL.lie.below Enc.bun_laws hW).mono Enc.bun_laws (Nat.le_refl _) hW.size⟩,hL.len,hL.each⟩;have HAr:Hid (∀ W,Below w.heap.size w W→ListOk Enc.argV W 0 W.heap.size (.slice aA args.length ac) args):=hid fun W hW=>(hH.lie.below Enc.argV_laws hW).mono Enc.argV_laws (Nat.le_refl _) hW.size;have hlen:l.length*40≤140737488355328:=hL.len;clear hH hL hE
 go_enter Tryz.func6,Tryz.ntmps6
 by_cases hn:1≤n∧n≤50
 ·have HY:Hid (∀ W,Calls Tryz.prog 8 #[.int .i64 n] W fun e w'=>∃ s:SvD,e=.returned (.tuple #[.pointer (some ⟨s.p,0,none⟩),.nilIface])∧SrvNew n.toNat s W w'):=hid fun W=>by
   have h1:=srvNew_yes n.toNat W (by omega) (by omega)
   rwa[show((n.toNat:Nat):Int)=n from by omega]at h1
  have HNa:=hid (HY.out w);clear hn
  go_wp2_with fail
  refine HNa.out.mono ?_;clear HNa;rintro e w2 ⟨a,rfl,hna⟩;have HA2:=hid hna;have HNb:=hid (HY.out w2);clear hna
  go_wp2_with fail
  refine HNb.out.mono ?_;clear HNb HY;rintro e w3 ⟨b,rfl,hnb⟩;have hd3:=duo_new (Below.refl w.heap.size w) HA2.out hnb;have HSa:=hid (HA2.out.stn.on hnb.below);have HC0:Hid (a.cnt=0∧b.cnt=0):=hid ⟨HA2.out.cnt,hnb.cnt⟩;have HSb:=hid hnb.stn;have HD3:=hid hd3.z;have hb3:w.heap.size≤w3.heap.size:=hd3.below.size;have HB3:=hid hd3.below;clear hd3 hnb HA2
  go_wp2_with fail
  go_quiet (fail)
  go_wp2_with fail
  go_loopw [17,18] (fun o i wr=>∃(j:Nat) (ps:List (Bun×Value)),j≤l.length∧i=.int .i64 j∧ps.map Prod.fst=l.take j∧RowedB w3.heap.size wr o ps∧Below w3.heap.size w3 wr) (fun _ i _=>l.length - (intOf i).toNat)
  case atStart=>exact⟨0,[],Nat.zero_le _,rfl,rfl,RowedB.nil,below_drewN (Below.refl _ _) _⟩
  case round=>
   obtain⟨j,ps,hj,rfl,hsum,hrow,hst⟩:=hrel;obtain⟨B2,capo,ho2,hco⟩:=own_slice hrow.own;subst ho2;have hpl:ps.length=j:=by
    have:=congrArg List.length hsum;simpa[Nat.min_eq_left hj]using this
   have HSum:=hid hsum;have HRow:=hid hrow;have HSt:=hid hst;have hbs:=hst.size;have hww:=HB3.out.trans (hst.mono hb3);have HWw:=hid hww;clear hsum hrow hst;subst hpl
   by_cases hlt:ps.length < l.length
   ·obtain⟨b',o,V,rfl,hbl,x0,x1,hin⟩:=(HBu.out wr hww).bunAt ps.length hlt;have htk:Hid (l.take (ps.length+1)=l.take ps.length++[l[ps.length]]):=hid (by rw[List.take_add_one,List.getElem?_eq_getElem hlt];rfl)
    obtain⟨elo,hel⟩:=hin.lo;have HBn:=hid (bundle_any l[ps.length] V wr elo hel hin.len);generalize l[ps.length]=B at *;obtain⟨A4,c4,hV,_⟩:=hel.form;subst hV;obtain⟨bt,bl⟩:=B;dsimp only at x0 x1 HBn;clear hin hel hww
    go_wp2_with fail
    refine HBn.out.mono ?_;clear HBn;rintro e w4 ⟨hb4,v',rfl,hown⟩;have hs4:=hb4.size;obtain⟨A5,c5,rfl,_⟩:=own_slice hown;have hba:Below w4.heap.size w4 (w4.alloc (.cells #[.string bt,.slice A5 bl.length c5] 49)):=(Below.refl _ _).alloc (Nat.le_refl _) _;have HBa:Hid (Below w3.heap.size w3 (w4.alloc (.cells #[.string bt,.slice A5 bl.length c5] 49))):=hid (HSt.out.trans ((hb4.trans (hba.mono hs4)).mono hbs));have hr1:=(HRow.out.below hb4 (Nat.le_refl _)).below hba (Nat.le_refl _);have hq1:EntRow w3.heap.size (w4.alloc (.cells #[.string bt,.slice A5 bl.length c5] 49)) (⟨bt,bl⟩,.slice A5 bl.length c5):=own_mono (own_keep hown fun g _ hg=>Below.heap_alloc _ _ _ hg) (by omega)
    have hnX:∀ q u,([Value.string bt,.slice A5 bl.length c5]:List Value)[q]? =some u→(w4.alloc (.cells #[.string bt,.slice A5 bl.length c5] 49)).cell? ⟨w4.heap.size,0+q,none⟩=some u:=fun q u hq=>by
     rw[Nat.zero_add,(Blk.new w4 49 #[.string bt,.slice A5 bl.length c5]).cell q];simpa using hq
    have HR1:=hid hr1;have HQ1:=hid hq1;have HnX:=hid hnX;clear hb4 hown hr1 hq1 hnX x0 x1 hba
    go_wp2_with (at_builtin;refine wpList_append_any rfl _ _ 22 rfl w3.heap.size 49 Tryz.underlying22 info_bun rfl (by decide) (flatB ps) rfl HR1.out.own [.string bt,.slice A5 bl.length c5] rfl rfl (.inr ⟨_,_,rfl,HnX.out⟩) (by simp[Value.oneCell']) (by unfold maxLen;omega) (by omega) (by simp;omega) ?_)
    intro v5 w5 hown5 hgrow5 _;have HR5:=hid (RowedB.push HR1.out HQ1.out hgrow5 hown5);have HS5:Hid (Below w3.heap.size w3 w5):=hid (HBa.out.grown hgrow5 (by simp;omega) (fun r e=>(own_lt HR1.out.own e).1))
    have HS3:Hid ((ps++[((⟨bt,bl⟩:Bun),Value.slice A5 bl.length c5)]).map Prod.fst=l.take (ps.length+1)):=hid (by rw[htk.out,List.map_append,HSum.out];rfl)
    clear hown5 hgrow5 HR1 HQ1 HnX htk HBa
    go_wp2_with fail
    exact⟨⟨ps.length+1,_,by omega,by go_num,HS3.out,HR5.out,HS5.out⟩,by simp[intOf];omega⟩
   ·have hps:ps.map Prod.fst=l:=by rw[HSum.out,List.take_of_length_le (by omega)]
    have hll:ps.length=l.length:=by omega
    have hol:=HRow.out.list (lo:=w3.heap.size) (hi:=wr.heap.size) (Nat.le_refl _) (Nat.le_refl _);rw[hps]at hol;have HPe:Hid (∀ q∈ps,q.1.ents.length≤4398046511104):=hid fun q hq=>(HLa.out.each q.1 (by rw[←hps];exact List.mem_map_of_mem hq)).2.1
    obtain⟨Z,hZ⟩:∃ Z:Nat→Prop,Z=fun k=>w3.heap.size≤k∧k < wr.heap.size:=⟨_,rfl⟩;have hdz:DuoZ Z w wr a b:=HD3.out.add HSt.out fun k hk=>by rw[hZ]at hk;exact .inr hk
    have hsa:=HSa.out.on HSt.out;have hsb:=HSb.out.on HSt.out;have hlow:∀ k,SX a k→k < w3.heap.size:=fun k hk=>(HD3.out.low k hk).2;have HLd:=hid (hdz.load hsa HLa.out HHa.out hol (Nat.le_refl _) (fun k hk=>.inl (hlow k hk)));have hZs:∀ k,w3.heap.size≤k→k < wr.heap.size→Z k:=fun k h1 h2=>by rw[hZ];exact⟨h1,h2⟩
    rw[hll]at HLd ⊢;have HVs:Hid (ps.map Prod.snd=ps.map Prod.snd):=hid rfl;have hSp:0 < l.length→∃ g,B2=some ⟨g,0,none⟩∧SpIn w3.heap.size wr g (ps.map Prod.snd):=fun h0=>SpIn.of HRow.out (by omega) HPe.out
    have hvl:(ps.map Prod.snd).length=l.length:=by rw[List.length_map];exact hll
    generalize ps.map Prod.snd=Vs at hSp hvl;have HSpo:=hid hSp;have HZg:Hid (∀ g,SpIn w3.heap.size wr g Vs→Z g∧∀ i (h:i < Vs.length) A m c,Vs[i]=.slice A m c→∀ k,AtB A m k→Z k):=hid fun g hg=>by
     refine⟨hZs g hg.lo hg.has.lt,fun i h A m c hv k hk=> ?_⟩;obtain⟨A',m',c',e,_,h3⟩:=(hg.ents i h).2;rw[hv]at e;injection e with e1 e2 _;subst e1;subst e2;obtain⟨k',h4,h5,h6⟩:=h3 hk.1;have hkA:=hk.2;rw[hkA]at h4;injection h4 with h4;injection h4 with h4;subst h4;exact hZs _ h5 h6.lt
    have HDz:=hid hdz;have HSb4:=hid hsb;clear hol HSum hps hZ hdz hsa hsb hlow hSp HVs hww hZs HD3 HSa HSb;obtain⟨wo,rfl⟩:∃ wo:World,wo=wr:=⟨_,rfl⟩
    go_wp2_with fail
    refine HLd.out.mono ?_;clear HLd;rintro e w6 ⟨hf6,a1,hfa,hd6⟩;obtain⟨r,hr⟩:∃ r,r=loadE l:=⟨_,rfl⟩;obtain⟨V,hV⟩:∃ V:Nat,V=if loadE l=0 then 1 else 0:=⟨_,rfl⟩
    have hee:=hfa.e;rw[←hV,←hr]at hee;subst hee;have HFa:=hid hfa;have HVr:=hid (And.intro hV hr);have hsb6:=HSb4.out.fr hf6 (fun k h1 h2=>HDz.out.ab k h2 h1);have HLd:=hid (hd6.swap.load hsb6 HLa.out HHa.out (HLa.out.lie.below Enc.bun_laws hd6.below) hd6.below.size (fun k hk=>.inr (hd6.swap.low k hk).1));have HSp6:Hid (0 < l.length→∃ g,B2=some ⟨g,0,none⟩∧SpIn w3.heap.size wo g Vs∧SpIn w3.heap.size w6 g Vs):=hid fun h0=>by
     obtain⟨g,h1,h2⟩:=HSpo.out h0;have hz:=HZg.out g h2;exact⟨g,h1,h2,h2.stay hf6 (HDz.out.za g hz.1).1 fun i hi A m c e k hk=>(HDz.out.za k (hz.2 i hi A m c e k hk)).1⟩
    have HD6:=hid hd6;clear hf6 hfa hd6 hsb6 hV hr HSb4 HDz HSpo HRow HPe
    go_wp2_with fail
    refine HLd.out.mono ?_;clear HLd;rintro e w7 ⟨hf7,b1,hfb,hd7⟩;have hee:=hfb.e;rw[←HVr.out.1,←HVr.out.2]at hee;subst hee;have HSp7:Hid (0 < l.length→∃ g,B2=some ⟨g,0,none⟩∧SpIn w3.heap.size wo g Vs∧SpIn w3.heap.size w7 g Vs):=hid fun h0=>by
     obtain⟨g,h1,h2,h3⟩:=HSp6.out h0;have hz:=HZg.out g h2;exact⟨g,h1,h2,h3.stay hf7 (HD6.out.za g hz.1).2 fun i hi A m c e k hk=>(HD6.out.za k (hz.2 i hi A m c e k hk)).2⟩
    have hva:a1.v=V:=by rw[HFa.out.v,HVr.out.1]
    have hvb:b1.v=V:=by rw[hfb.v,HVr.out.1]
    have hz0:V≠0→loadE l=0:=fun h=>by
     by_cases h0:loadE l=0
     ·exact h0
     ·have h1:=HVr.out.1;rw[if_neg h0]at h1;exact absurd h1 h
    have hla:V≠0→a1.l=l:=fun h=>HFa.out.l (hz0 h);have hlb:V≠0→b1.l=l:=fun h=>hfb.l (hz0 h);have hca:a1.cnt≤0:=by have h1:=HFa.out.cnt;have h2:=HC0.out;omega
    have hcb:b1.cnt≤0:=by have h1:=hfb.cnt;have h2:=HC0.out;omega
    have HAB:Hid (a1.p=a.p∧b1.p=b.p∧a1.v=V∧b1.v=V∧(V≠0→a1.l=l)∧(V≠0→b1.l=l)∧a1.cnt≤0∧b1.cnt≤0):=hid ⟨HFa.out.p,hfb.p,hva,hvb,hla,hlb,hca,hcb⟩;have HD7:=hid hd7.swap;clear hf7 hfb hd7 hva hvb hz0 hla hlb hca hcb HSp6 HD6 HFa HC0
    go_wp2_with fail
    go_loopw [23] (fun i wi=>∃ j:Nat,j≤l.length∧i=.int .i64 j∧DuoZ Z w wi a1 b1∧∀ g,B2=some ⟨g,0,none⟩→0 < l.length→SpIn w3.heap.size wi g Vs) (fun i _=>l.length - (intOf i).toNat)
    case atStart=>exact⟨0,Nat.zero_le _,rfl,HD7.out,fun g hg h0=>by
     obtain⟨g',e,_,h3⟩:=HSp7.out h0;rw[e]at hg;injection hg with hg;injection hg with hg;subst hg;exact h3⟩
    case round=>
     clear HD7;obtain⟨j,hj,rfl,hd,hsp⟩:=hrel;have HD:=hid hd;have HSp:=hid hsp;clear hd hsp
     by_cases hlt:j < l.length
     ·obtain⟨g,rfl,hs0,_⟩:=HSp7.out (by omega)
      have hz:=HZg.out g hs0;have hS:=HSp.out g rfl (by omega)
      have hjv:j < Vs.length:=by omega
      obtain⟨t0,x0⟩:=hS.tags j hjv;obtain⟨x1,hEn⟩:=hS.ents j hjv;obtain⟨Ae,me,ce,hVe,hme,hEn⟩:=hEn;rw[hVe]at x1;have HVe:=hid hVe;have HSq:=hid hS;have HZe:=hid (And.intro hz.1 (hz.2 j hjv Ae me ce hVe));have HSpl:=hid (spoil_has t0 x Ae me ce wr (fun h0=>let ⟨k,h1,_,h2⟩:=hEn h0;⟨k,h1,h2.lt,h2⟩) hme)
      have i1:(0:Int)≤(j:Int):=Int.natCast_nonneg j;have i2:(j:Int) < (l.length:Int):=by omega
      clear hS hEn hVe HSp hz hs0
      go_wp2_with fail
      refine HSpl.out.mono ?_;clear HSpl;rintro e w8 ⟨rfl,hf8,hk8⟩;have HD8:=hid (HD.out.turned hf8 HZe.out.2);have HSq8:=hid (HSq.out.spoil hjv HVe.out hf8 hk8);obtain⟨⟨u,y0⟩,f0⟩:=HSq8.out.has.cell (j*2) (by omega)
      have HD9:=hid (HD8.out.turned (X:=fun k=>k=g) (Fr.setCell (w:=w8) (S:=fun k=>k=g) (p:=⟨g,j*2,none⟩) (Fr.refl w8 _) (.inl rfl) (.string x)) fun k hk=>by rw[hk];exact HZe.out.1)
      have HSq9:=hid (HSq8.out.tag j x);clear hf8 hk8 x0 x1
      go_wp2_with fail
      exact⟨⟨j+1,by omega,by go_num,HD9.out,fun g' hg' _=>by
       injection hg' with hg';injection hg' with hg';subst hg';exact HSq9.out⟩,by simp[intOf];omega⟩
     ·have HNews:Hid (args.length=0∨∃ b o,aA=some ⟨b,o,none⟩∧∀ j u,(flatA args)[j]? =some u→(wr.alloc (.cells #[] 67)).cell? ⟨b,o+j,none⟩=some u):=hid (by
       rcases(HAr.out wr HD.out.below).flatA with h0|⟨b,o,h1,_,h3,h4⟩
       ·exact .inl h0
       ·refine .inr ⟨b,o,h1,fun j u hj=> ?_⟩;have hb:Below wr.heap.size wr (wr.alloc (.cells #[] 67)):=(Below.refl _ _).alloc (Nat.le_refl _) _;exact(hb.cell (p:=⟨b,o+j,none⟩) h3).trans (h4 j u hj))
      have HOe:Hid ((wr.alloc (.cells #[] 67)).ownsRow wr.heap.size 67 5 (.slice (some ⟨wr.heap.size,0,none⟩) 0 0) 0 []):=hid ⟨rfl,.inr ⟨wr.heap.size,0,#[],rfl,Nat.le_refl _,Blk.new wr 67 #[],by omega,by unfold maxLen;omega,rfl,rfl⟩⟩
      have HOne:Hid (∀ u∈flatA args,u.oneCell'=true):=hid (flatA_one args);obtain⟨wm,rfl⟩:∃ wm:World,wm=wr:=⟨_,rfl⟩;have i2:¬((j:Int) < (l.length:Int)):=by omega
      clear HSp HSp7 HZg hvl
      go_wp2_with (at_builtin;refine wpList_append_any rfl _ _ 23 rfl wm.heap.size 67 Tryz.underlying23 info_argV rfl (by decide) [] rfl HOe.out (flatA args) rfl (flatA_length args) HNews.out HOne.out (by unfold maxLen;omega) (by omega) (by simp) ?_)
      intro v4 w4 hown4 hgrow4 _
      try rw[Nat.zero_add]at hown4
      try rw[List.nil_append]at hown4
      have hb4:Below wm.heap.size wm w4:=((Below.refl wm.heap.size wm).alloc (Nat.le_refl _) _).grown hgrow4 (by simp) (fun r e=>by cases e;exact Nat.le_refl _)
      obtain⟨A4,c4,rfl,_⟩:=own_slice hown4;obtain⟨Z',hZ'⟩:∃ Z':Nat→Prop,Z'=fun k=>wm.heap.size≤k∧k < w4.heap.size:=⟨_,rfl⟩;have hd4:DuoZ Z' w w4 a1 b1:=HD.out.add hb4 fun k hk=>by rw[hZ']at hk;exact .inr hk
      have hl4:=argsV_of_own (lo:=wm.heap.size) (hi:=w4.heap.size) hown4 (Nat.le_refl _) (Nat.le_refl _);have hlow:∀ k,SX a1 k→k < wm.heap.size:=fun k hk=>(HD.out.low k hk).2;obtain⟨S,hS⟩:∃ S,S=srvS l V tg ky args:=⟨_,rfl⟩;have hab:=HAB.out;have hsay:=hd4.say HHa.out hl4 (Nat.le_refl _) (fun k hk=>.inl (hlow k hk)) ht hk (by omega)
      unfold SaidE at hsay;rw[said_same hab.2.2.1 hab.2.2.2.2.1,←hS,hab.1]at hsay;have HSy:=hid hsay;have HSa2:Hid (∀ W Z a' b',Asked a1 a'→DuoZ Z w W a' b'→Calls Tryz.prog 10 #[.pointer (some ⟨a.p,0,none⟩),.string tg,.string ky,.slice aA args.length ac] W fun e w'=>e=.returned (.tuple #[.string (str S.1),errD S.2])∧∃ a2,Asked a' a2∧DuoZ Z w w' a2 b'):=hid fun W Z a' b' h1 h2=>by
       have h3:=h2.say HHa.out (HHa.out.lie.below Enc.argV_laws h2.below) h2.below.size (fun k hk=>.inr (h2.low k hk).1) ht hk (by have:=h1.cnt;omega)
       unfold SaidE at h3;rw[said_same (h1.v.trans hab.2.2.1) (fun h=>h1.l.trans (hab.2.2.2.2.1 h)),←hS,h1.p,hab.1]at h3;exact h3.mono fun e w' ⟨_,g1,g2⟩=>⟨g1,g2⟩
      have HSb2:Hid (∀ W Z a',DuoZ Z w W a' b1→Calls Tryz.prog 10 #[.pointer (some ⟨b.p,0,none⟩),.string tg,.string ky,.slice aA args.length ac] W fun e w'=>e=.returned (.tuple #[.string (str S.1),errD S.2])∧∃ b2,Asked b1 b2∧DuoZ Z w w' b2 a'):=hid fun W Z a' h2=>by
       have h2:=h2.swap;have h3:=h2.say HHa.out (HHa.out.lie.below Enc.argV_laws h2.below) h2.below.size (fun k hk=>.inr (h2.low k hk).1) ht hk (by omega)
       unfold SaidE at h3;rw[said_same hab.2.2.2.1 hab.2.2.2.2.2.1,←hS,hab.2.1]at h3;exact h3.mono fun e w' ⟨_,g1,g2⟩=>⟨g1,g2⟩
      have HZ':Hid (∀ k,wm.heap.size≤k→k < w4.heap.size→Z' k):=hid fun k h1 h2=>by rw[hZ'];exact⟨h1,h2⟩
      have HR4:=hid hown4;have HLow:=hid hlow;clear hown4 hgrow4 hb4 hd4 hl4 hlow hsay hZ' hab HNews HOe HOne HD hS
      go_wp2_with fail
      refine HSy.out.mono ?_;clear HSy;rintro e w8 ⟨hf8,rfl,a2,ha2,hd8⟩;have hb8:=hd8.below;have hkeep:∀ g,wm.heap.size≤g→g < w4.heap.size→w8.heap[g]? =w4.heap[g]? :=fun g h1 h2=>hf8.block g h2 fun hx=>by have:=HLow.out g hx;omega
      have hR8:=own_keep HR4.out fun g hg hlt=>hkeep g (own_lt HR4.out hg).1 hlt;have HSm:=hid (argsV_same args (.slice A4 args.length c4) (.slice aA args.length ac) 0 0 w8 (argsV_of_own hR8 (Nat.zero_le _) (Nat.le_refl _)) (HAr.out w8 hb8) (by omega))
      have HHs:Hid (∀ g,A4=some ⟨g,0,none⟩→0 < args.length→Z' g∧HasN w8 g 67 (args.length*5)):=hid fun g hg h0=>by
       obtain⟨g',e,h1,h2,_⟩:=HasN.of_own HR4.out h0;obtain⟨g2,e2,_,_,h3⟩:=HasN.of_own hR8 h0;rw[hg]at e e2;injection e with e;injection e with e;injection e2 with e2;injection e2 with e2;subst e;subst e2;exact⟨HZ'.out _ h1 h2,h3⟩
      have HSl:Hid (0 < args.length→∃ g,A4=some ⟨g,0,none⟩):=hid fun h0=>by
       obtain⟨g',e,_⟩:=HasN.of_own HR4.out h0;exact⟨g',e⟩
      have HA2:=hid ha2;have HD8:=hid hd8;clear hf8 ha2 hd8 hb8 hkeep hR8 HR4 HLow HZ'
      go_wp2_with fail
      refine HSm.out.mono ?_;clear HSm;rintro e w9 ⟨rfl,hb9⟩;have HD9:=hid (HD8.out.on hb9);have HHs9:Hid (∀ g,A4=some ⟨g,0,none⟩→0 < args.length→HasN w9 g 67 (args.length*5)):=hid fun g hg h0=>(HHs.out g hg h0).2.below hb9 (HHs.out g hg h0).2.lt;clear hb9 HD8
      go_wp2_with fail
      go_loopw [28] (fun i wi=>∃ j:Nat,j≤args.length∧i=.int .i64 j∧DuoZ Z' w wi a2 b1∧∀ g,A4=some ⟨g,0,none⟩→0 < args.length→HasN wi g 67 (args.length*5)) (fun i _=>args.length - (intOf i).toNat)
      case atStart=>exact⟨0,Nat.zero_le _,rfl,HD9.out,HHs9.out⟩
      case round=>
       clear HD9 HHs9 i2;obtain⟨q,hq,rfl,hd,hsh⟩:=hrel
       by_cases hlt2:q < args.length
       ·have i1:(0:Int)≤(q:Int):=Int.natCast_nonneg q;have i2:(q:Int) < (args.length:Int):=by omega
        obtain⟨g,rfl⟩:=HSl.out (by omega)
        have hN:=hsh g rfl (by omega)
        have hzg:=(HHs.out g rfl (by omega)).1
        obtain⟨⟨y0,hy0⟩,f0⟩:=hN.cell (q*5) (by omega)
        obtain⟨⟨y1,hy1⟩,f1⟩:=hN.cell (q*5+1) (by omega)
        obtain⟨⟨y2,hy2⟩,f2⟩:=hN.cell (q*5+2) (by omega)
        obtain⟨⟨y3,hy3⟩,f3⟩:=hN.cell (q*5+3) (by omega)
        obtain⟨⟨y4,hy4⟩,f4⟩:=hN.cell (q*5+4) (by omega)
        have HN:=hid hN;have HD:=hid hd;have HZg:=hid hzg;clear hd hsh hN hzg
        go_wp2_with fail
        refine⟨⟨q+1,by omega,by go_num,?_,fun g' hg' _=> ?_⟩,by simp[intOf];omega⟩
        ·refine HD.out.turned (X:=fun k=>k=g) ?_ fun k hk=>by rw[hk];exact HZg.out
         exact(((((Fr.refl wr (fun k=>k=g)).setCell (p:=⟨g,q*5,none⟩) (.inl rfl) _).setCell (p:=⟨g,q*5+1,none⟩) (.inl rfl) _).setCell (p:=⟨g,q*5+2,none⟩) (.inl rfl) _).setCell (p:=⟨g,q*5+3,none⟩) (.inl rfl) _).setCell (p:=⟨g,q*5+4,none⟩) (.inl rfl) _
        ·injection hg' with hg';injection hg' with hg';subst hg'
         repeat' (with_reducible first|exact HN.out|refine HasN.set ?_ _ _)
       ·have i2:¬((q:Int) < (args.length:Int)):=by omega
        have HSx:=hid (HSa2.out wr Z' a2 b1 HA2.out hd);clear hd hsh HSl HHs HSa2
        go_wp2_with fail
        refine HSx.out.mono ?_;clear HSx;rintro e w10 ⟨rfl,a3,ha3,hd10⟩;have HSx:=hid (HSb2.out w10 Z' a3 hd10);have HA3:=hid ha3;clear ha3 hd10 HSb2
        go_wp2_with fail
        refine HSx.out.mono ?_;clear HSx;rintro e w11 ⟨rfl,b2,hb2,hd11⟩;have HB2:=hid hb2;have HD11:=hid hd11;obtain⟨r,hr⟩:∃ r,r=loadE l:=⟨_,rfl⟩;have hto:=stold_any r r w11 (HEr.out w11 hd11.below);rw[show decide (r=r)=true from decide_eq_true rfl,hr,HVr.out.2.symm]at hto;have HTo:=hid hto;clear hb2 hd11 hto hr
        go_wp2_with fail
        refine HTo.out.mono ?_;clear HTo;rintro e w12 ⟨rfl,hb12⟩;have HD12:=hid (HD11.out.on hb12);have hto:=stold_any S.2 S.2 w12 (HEr.out w12 HD12.out.below);rw[show decide (S.2=S.2)=true from decide_eq_true rfl,errDV]at hto;have HTo:=hid hto;clear hb12 hto HD11
        go_wp2_with fail
        refine HTo.out.mono ?_;clear HTo;rintro e w13 ⟨rfl,hb13⟩;have HD13:=hid (HD12.out.on hb13);have hto:=stold_any S.2 S.2 w13 (HEr.out w13 HD13.out.below);rw[show decide (S.2=S.2)=true from decide_eq_true rfl,errDV]at hto;have HTo:=hid hto;clear hb13 hto HD12
        go_wp2_with fail
        refine HTo.out.mono ?_;clear HTo;rintro e w14 ⟨rfl,hb14⟩;have HD14:=hid (HD13.out.on hb14);clear hb14 HD13;have hv1:Calls Tryz.prog 20 #[.pointer (some ⟨a.p,0,none⟩)] w14 fun e w'=>e=.returned (.int .i64 (V:Int))∧w'=w14:=by
         obtain⟨T,h1⟩:=HD14.out.swap.version;have h2:=version_any T a3 w14 h1;rw[HA3.out.p,HA2.out.p,HAB.out.1,HA3.out.v,HA2.out.v,HAB.out.2.2.1]at h2;exact h2
        have hv2:Calls Tryz.prog 20 #[.pointer (some ⟨b.p,0,none⟩)] w14 fun e w'=>e=.returned (.int .i64 (V:Int))∧w'=w14:=by
         obtain⟨T,h1⟩:=HD14.out.version;have h2:=version_any T b2 w14 h1;rw[HB2.out.p,HAB.out.2.1,HB2.out.v,HAB.out.2.2.2.1]at h2;exact h2
        have HV1:=hid hv1;have HV2:=hid hv2;clear hv1 hv2
        go_wp2_with fail
        refine HV1.out.mono ?_;rintro e w15 ⟨rfl,rfl⟩
        go_wp2_with fail
        refine HV2.out.mono ?_;rintro e w16 ⟨rfl,rfl⟩
        go_wp2_with fail
        go_ret
        exact⟨rfl,HD14.out.below⟩
 ·have HN:Hid (∀ W,Calls Tryz.prog 8 #[.int .i64 n] W fun e w'=>e=.returned (.tuple #[.pointer none,.iface 35 (.int .i64 1)])∧w'=W):=hid fun W=>srvNew_no n W (by omega)
  have HNa:=hid (HN.out w);clear hn
  go_wp2_with fail
  refine HNa.out.mono ?_;rintro e w2 ⟨rfl,rfl⟩
  go_wp2_with fail
  refine HNa.out.mono ?_;rintro e w3 ⟨rfl,rfl⟩
  go_wp2_with fail
  go_quiet (fail)
  go_wp2_with fail
  go_ret
  exact⟨rfl,below_drewN (Below.refl _ _) _⟩
end Go.Proofs.YtpfmmbbggcghiaaGreatDoor
