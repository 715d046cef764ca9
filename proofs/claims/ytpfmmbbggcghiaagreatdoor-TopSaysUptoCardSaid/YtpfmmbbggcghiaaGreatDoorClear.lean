/- serve.Say. -/
import Derived.Test.YtpfmmbbggcghiaaGreatDoorSrvW
set_option linter.unusedSimpArgs false
set_option linter.unusedVariables false
set_option maxHeartbeats 6400000
set_option maxRecDepth 100000
namespace Go.Proofs.YtpfmmbbggcghiaaGreatDoor
open Go.RowKit Go.Maps
open Lib (hid)
def langB (t:ByteArray):ByteArray:=⟨(Lib.cut t.data.toList [45]).1.toArray⟩
def btagOf (l:List Bun) (i:Nat):ByteArray:=((l[i]?).map (·.tag)).getD ByteArray.empty
def srvS (l:List Bun) (v:Nat) (name key:ByteArray) (args:List ArgV):List UInt8×Int:=
 if v=0 then([],2)else if(findIn l name key).err≠0 then([],(findIn l name key).err)
 else if parE (bts (findIn l name key).text)≠0 then([],parE (bts (findIn l name key).text))
 else sayS 7 (parG (bts (findIn l name key).text)) (langB (btagOf l (findIn l name key).at_)) args
def SaidR (T:Nat→Prop) (s:SvD) (name key:ByteArray) (args:List ArgV) (w:World) (e:Ending) (w':World):Prop:=
 e=.returned (.tuple #[.string (str (srvS s.l s.v name key args).1),errD (srvS s.l s.v name key args).2])∧∃ hand cnt ps f,ps.length=s.ps.length∧cnt≤s.cnt+1∧SrvR T (s.turn hand cnt ps f) w'∧Fr w w' (SY s)
theorem SrvR.bunsIn {T:Nat→Prop} {s:SvD} {W:World} (h:SrvR T s W) (hv:s.v≠0):BunsIn W s.bv s.l:=by
 obtain⟨h1,h2,lo,hi,h3,h4,h5⟩:=h.buns hv;exact⟨⟨lo,h4.mono Enc.bun_laws (Nat.le_refl _) h3⟩,by omega,h2⟩
theorem cut_size (t:ByteArray):(langB t).size≤t.size:=by
 have h:(Lib.cut t.data.toList [45]).1.length≤t.data.toList.length:=by
  unfold Lib.cut;split
  ·rw[List.length_take];omega
  ·exact Nat.le_refl _
 have e1:(langB t).size=(Lib.cut t.data.toList [45]).1.length:=by show(Lib.cut t.data.toList [45]).1.toArray.size=_;simp
 have e2:t.size=t.data.toList.length:=by show t.data.size=_;simp
 omega
theorem srvSay_any (T:Nat→Prop) (s:SvD) (name key:ByteArray) (args:List ArgV) (vA:Value) (loA:Nat) (w:World) (h:SrvR T s w) (hn:name.size≤1048576) (hk:key.size≤1048576) (hc:s.cnt≤1000000000) (B:Nat) (hB:∀ k,T k→B≤k) (hBw:B≤w.heap.size) (hV:∀ W,Below B w W→EvV W)
 (hi:∀ m:List (Nd 7),(m.map (Enc.node 7).bulk).sum≤1048576→SayIn 7 m args) (hiA:Nat) (hA:ListOk Enc.argV w loA hiA vA args) (hAh:hiA≤w.heap.size) (hAa:Away (SY s) loA hiA):
 Calls Tryz.prog 10 #[.pointer (some ⟨s.p,0,none⟩),.string name,.string key,vA] w fun e w'=>SaidR T s name key args w e w':=by
 have x4:=(h.box.cell 4).trans (show _=some (.int .i64 (s.v:Int))from rfl);have x3:=(h.box.cell 3).trans (show _=some s.bv from rfl);have HH:=hid h;have HSr:Hid (srvS s.l s.v name key args=if s.v=0 then([],2)else if(findIn s.l name key).err≠0 then([],(findIn s.l name key).err)
  else if parE (bts (findIn s.l name key).text)≠0 then([],parE (bts (findIn s.l name key).text))
  else sayS 7 (parG (bts (findIn s.l name key).text)) (langB (btagOf s.l (findIn s.l name key).at_)) args):=hid rfl
 have HNot:Hid (∀ k,SY s k→k < w.heap.size):=hid fun k hk=>h.low k (h.sub k hk.x);have HBe:Hid (∀ W,Fr w W (SY s)→Below B w W):=hid fun W hW=>Fr.below (Below.refl B w) hW hBw fun k hk=>hB k (h.sub k hk.x);have HV:=hid hV;have HA:Hid (∀ W,Fr w W (SY s)→ListOk Enc.argV W loA W.heap.size vA args):=hid fun W hW=>(hA.keep Enc.argV_laws fun p h1 h2=>World.cell?_of_block (hW.block p.block (Nat.lt_of_lt_of_le h2 hAh) fun hk=>by have:=hAa _ hk;omega)).mono Enc.argV_laws (Nat.le_refl _) (Nat.le_trans hAh hW.size)
 by_cases hv:s.v=0
 ·have hP:srvS s.l s.v name key args=([],2):=by rw[HSr.out,if_pos hv]
  have hv0:((s.v:Nat):Int)=0:=by omega
  rw[hv0]at x4;have HP:=hid hP;clear h hV hA hP hv0
  go_enter Tryz.func10,Tryz.ntmps10
  go_wp2_with fail
  go_ret2
  exact⟨by rw[HP.out];rfl,s.hand,s.cnt,s.ps,s.f,rfl,Nat.le_succ _,HH.out,Fr.refl _ _⟩
 ·have hbi:=h.bunsIn hv;have hev:=hV w (Below.refl _ _);have HFi:=hid (find_any s.l s.bv name key w hbi (by omega) hev.rv.max)
  have HBi:=hid hbi;obtain⟨bA,bn,bc,hbv⟩:∃ A n c,s.bv=.slice A n c:=by
   obtain⟨lo,A,c,hh,_⟩:=hbi.lo;exact⟨A,_,c,hh⟩
  have hl20:s.l.length≤20:=(h.buns hv).1;have HFt:Hid ((findIn s.l name key).err=0→(findIn s.l name key).at_ < s.l.length∧textAt s.l (findIn s.l name key).at_ key=some (findIn s.l name key).text):=hid find_text;generalize findIn s.l name key=R at *;obtain⟨re,ri,rt⟩:=R;dsimp only at HSr HFt HFi;have hvn:¬((s.v:Int)=0):=by omega
  have HRy:Hid (re=0→∀ W,Below w.heap.size w W→Calls Tryz.prog 28 #[.pointer (some ⟨s.p,0,none⟩),.int .i64 (ri:Int),.string key,.string rt] W fun e w'=>ReadyR T s rt W e w'):=hid fun h0 W hW=>by
   obtain⟨h1,h2⟩:=HFt.out h0;exact ready_any T s ri key rt W (HH.out.below hW) (by omega) h2 hk hc B hB (Nat.le_trans hBw hW.size) fun W' hW'=>HV.out W' ((hW.mono hBw).trans hW')
  have HL20:=hid hl20;have HBv:=hid hbv;clear hbv;have hi0:=hi;clear h hV hA hbi hev hl20 hk hn hi
  go_enter Tryz.func10,Tryz.ntmps10
  go_wp2_with fail
  refine HFi.out.mono ?_;clear HFi;rintro e w1 ⟨hb1,rfl⟩;have HB1:=hid hb1
  by_cases h0:re=0
  ·subst h0;have HR1:=hid (HRy.out rfl w1 hb1);rw[errV_zero];clear hb1 HRy x3 x4
   go_wp2_with fail
   refine HR1.out.mono ?_;clear HR1;rintro e w2 ⟨hand,cnt,ps,f,hps,hcnt,hsr,hfr,hcase⟩;have HF2:Hid (Fr w w2 (SY s)):=hid ((Fr.of_below HB1.out _).trans hfr);have HS2:=hid hsr;clear hsr hfr;rcases hcase with⟨hpe,rfl⟩|⟨hp0,val,lo,hi,rfl,hcode⟩
   ·have HP:Hid (srvS s.l s.v name key args=([],parE (bts rt))):=hid (by rw[HSr.out,if_neg hv,if_neg (by simp),if_pos hpe])
    have hb3:Below w2.heap.size w2 (w2.alloc (.cells #[.slice none 0 0,.slice none 0 0] 53)):=(Below.refl _ _).alloc (Nat.le_refl _) _;have HB3:=hid hb3;rw[errV_ne hpe];clear HSr hb3
    go_wp2_with fail
    go_ret2
    exact⟨by rw[HP.out,errD_ne hpe];rfl,hand,cnt,ps,f,hps,hcnt,HS2.out.below HB3.out,HF2.out.then_below HB3.out⟩
   ·obtain⟨out,U,zs,rfl,hz,hrow,hu⟩:=hcode.use;obtain⟨oA,oc,rfl,_⟩:=own_slice hrow.row;obtain⟨uA,uc,rfl,_⟩:=hu.form;have HP:Hid (srvS s.l s.v name key args=sayS 7 (parG (bts rt)) (langB (btagOf s.l ri)) args):=hid (by rw[HSr.out,if_neg hv,if_neg (by simp),if_neg (by rw[hp0];decide)])
    obtain⟨W3,eW3⟩:∃ W3,W3=w2.alloc (.cells #[.slice oA zs.length oc,.slice uA (cpyN 7 (parG (bts rt))).length uc] 53):=⟨_,rfl⟩;have hb3:Below w2.heap.size w2 W3:=by rw[eW3];exact(Below.refl _ _).alloc (Nat.le_refl _) _
    have hk3:Blk W3 w2.heap.size 53 #[.slice oA zs.length oc,.slice uA (cpyN 7 (parG (bts rt))).length uc]:=by rw[eW3];exact Blk.new _ _ _
    have hs3:=HS2.out.below hb3;have hf3:Fr w W3 (SY s):=HF2.out.then_below hb3;have hril:=(HFt.out trivial).1;have hbi:=hs3.bunsIn hv;have hbi:BunsIn W3 s.bv s.l:=hbi;rw[HBv.out]at hbi;have hbn:bn=s.l.length:=by
     obtain⟨_,A',c',hh,_⟩:=hbi.lo;injection hh
    obtain⟨b,o,V,rfl,hbl,y0,_,_⟩:=hbi.bunAt ri hril;have hev:=HV.out W3 (HBe.out W3 hf3);obtain⟨mx,hmx⟩:=hev.rv.max;have htg:btagOf s.l ri=s.l[ri].tag:=by unfold btagOf;rw[List.getElem?_eq_getElem hril];rfl
    have hts:s.l[ri].tag.size < 4294967281:=(hbi.each _ (List.getElem_mem hril)).1;have HCu:=hid (Tryz.strings_Cut s.l[ri].tag ⟨#[45]⟩ mx W3 hts hmx);have HSay:Hid (∀ n,Calls Tryz.prog 18 #[.agg #[.slice oA zs.length oc,.slice uA (cpyN 7 (parG (bts rt))).length uc],.string (langB s.l[ri].tag),vA] (W3.drewN n) fun e w'=>e=.returned (.tuple #[.string (str (sayS 7 (parG (bts rt)) (langB s.l[ri].tag) args).1),errD (sayS 7 (parG (bts rt)) (langB s.l[ri].tag) args).2])∧Below W3.heap.size (W3.drewN n) w'):=hid fun n=>by
     have hbB:=HBe.out W3 hf3;refine cSay_any 7 (parG (bts rt)) (.slice oA zs.length oc) (.slice uA (cpyN 7 (parG (bts rt))).length uc) zs lo lo (langB s.l[ri].tag) args vA loA (W3.drewN n) (hi0 _ (Nat.le_trans (parG_bulk _) (by decide))) (Nat.le_trans (cut_size _) (by unfold maxLen;omega)) hz (hrow.below (below_drewN hb3 n)) ?_ ?_ (HV.out _ (below_drewN hbB n))
     ·exact(hu.below (Enc.node_laws 7) (below_drewN hb3 n)).mono (Enc.node_laws 7) (Nat.le_refl _) hb3.size
     ·exact HA.out _ (hf3.drewN n)
    have HB3:=hid hb3;have HF3:=hid hf3;have HS3:=hid hs3;have x3:W3.cell? ⟨s.p,3,none⟩=some (.slice (some ⟨b,o,none⟩) bn bc):=by rw[←HBv.out];exact(hs3.box.cell 3).trans rfl
    have z0:=(hk3.cell 0).trans (show _=some (.slice oA zs.length oc)from rfl);have z1:=(hk3.cell 1).trans (show _=some (.slice uA (cpyN 7 (parG (bts rt))).length uc)from rfl);have i1:(0:Int)≤(ri:Int):=Int.natCast_nonneg ri;have i2:(ri:Int) < (bn:Int):=by omega
    have HT:=hid htg;have EW3:=hid eW3;clear HSr hb3 hk3 hs3 hf3 hbi hbn hev hmx htg hts eW3 hz hrow hu hcode HFt
    go_upto_region 9 with fail
    rw[←EW3.out];clear EW3
    go_wp2_with fail
    refine HCu.out.mono ?_;clear HCu;rintro e w4 ⟨rfl,n4,rfl⟩;have HS4:=hid (HSay.out n4);clear HSay
    change W3.cell? _=_ at z0 z1
    have z0':(W3.drewN n4).cell? ⟨w2.heap.size,0,none⟩=some (.slice oA zs.length oc):=z0;have z1':(W3.drewN n4).cell? ⟨w2.heap.size,1,none⟩=some (.slice uA (cpyN 7 (parG (bts rt))).length uc):=z1;clear z0 z1 y0 x3
    go_wp2_with fail
    refine HS4.out.mono ?_;clear HS4;rintro e w5 ⟨rfl,hb5⟩;have HB5:Hid (Below W3.heap.size W3 w5):=hid ((below_drewN (Below.refl _ _) n4).trans hb5);clear hb5
    go_wp2_with fail
    go_ret2
    exact⟨by rw[HP.out,HT.out];rfl,hand,cnt,ps,f,hps,hcnt,HS3.out.below HB5.out,HF3.out.then_below HB5.out⟩
  ·have HP:Hid (srvS s.l s.v name key args=([],re)):=hid (by rw[HSr.out,if_neg hv,if_pos h0])
   rw[errV_ne h0];clear HSr
   go_wp2_with fail
   go_ret2
   exact⟨by rw[HP.out,errD_ne h0];rfl,s.hand,s.cnt,s.ps,s.f,rfl,Nat.le_succ _,HH.out.below HB1.out,Fr.of_below HB1.out _⟩
structure SrvNew (n:Nat) (s:SvD) (w w':World):Prop where
 below:Below w.heap.size w w'
 own:∀ k,SX s k→w.heap.size≤k∧k < w'.heap.size
 v:s.v=0
 vs:s.vs=[]
 cnt:s.cnt=0
 Mm:s.M≠s.mb
 ps:s.ps.length=n
 empty:∀ x,x∉keysOf s.ps
 st:StoreSt w.heap.size w'.heap.size w' s.sp s.M []
 r:SrvR (SX s) s w'
theorem srvNew_yes (n:Nat) (w:World) (h1:1≤n) (h2:n≤50):
 Calls Tryz.prog 8 #[.int .i64 (n:Int)] w fun e w'=>∃ s:SvD,e=.returned (.tuple #[.pointer (some ⟨s.p,0,none⟩),.nilIface])∧SrvNew n s w w':=by
 have HC:=hid (new_yes n w h1 h2);have HS:Hid (∀ W,Calls Tryz.prog 25 #[] W fun e w'=>∃ p M,e=.returned (.pointer (some ⟨p,0,none⟩))∧StoreSt W.heap.size w'.heap.size w' p M []∧Below W.heap.size W w'):=hid fun W=>new_any W;have hmm:=@run_makeMap Tryz.prog
 go_enter Tryz.func8,Tryz.ntmps8
 go_wp2_with fail
 refine HC.out.mono ?_;clear HC;rintro e w1 ⟨bc,bp,rfl,hbc,hbp,hca,hb1⟩;have HCa:=hid hca;have HB1:=hid hb1;have HS1:=hid (HS.out w1);have HLt:=hid hca.lt;clear hca hb1 HS
 go_wp2_with fail
 refine HS1.out.mono ?_;clear HS1;rintro e w2 ⟨sp,M,rfl,hst,hb2⟩;have HSt:=hid hst;have HB2:=hid hb2;obtain⟨W3,eW3⟩:∃ W3,W3=w2.alloc (.map #[] 0):=⟨_,rfl⟩;obtain⟨W4,eW4⟩:∃ W4,W4=W3.alloc (.cells #[.pointer (some ⟨sp,0,none⟩),.pointer (some ⟨bc,0,none⟩),.map (some w2.heap.size),.slice none 0 0,.int .i64 0] 78):=⟨_,rfl⟩;have hz3:W3.heap.size=w2.heap.size+1:=by rw[eW3,World.size_alloc]
 have hz4:W4.heap.size=w2.heap.size+2:=by rw[eW4,World.size_alloc,hz3]
 have hb3:Below w2.heap.size w2 W3:=by rw[eW3];exact(Below.refl _ _).alloc (Nat.le_refl _) _
 have hb34:Below W3.heap.size W3 W4:=by rw[eW4];exact(Below.refl _ _).alloc (Nat.le_refl _) _
 have hb24:Below w2.heap.size w2 W4:=hb3.trans (hb34.mono (by omega))
 have hO4:OwnsV W4 w2.heap.size 0 (fun _=>none):=by
  have h1:OwnsV W3 w2.heap.size 0 (fun _=>none):=by rw[eW3];exact OwnsV.made w2
  exact h1.below hb34 (by omega)
 have hP4:Blk W4 (w2.heap.size+1) 78 #[.pointer (some ⟨sp,0,none⟩),.pointer (some ⟨bc,0,none⟩),.map (some w2.heap.size),.slice none 0 0,.int .i64 0]:=by rw[eW4,←hz3];exact Blk.new _ _ _
 have hs12:=HB1.out.size;have hs22:=hb2.size;have hst4:=hst.keep hb24;have HW3:=hid eW3;have HW4:=hid eW4;have HR:Hid (SrvNew n ⟨w2.heap.size+1,bc,bp,w2.heap.size,sp,M,0,0,0,List.replicate n Plc.zero,fun _=>none,[],.slice none 0 0,[]⟩ w W4):=hid (by
  have hlt:=HLt.out;have hp:=hst.lp;have hM:=hst.lM;have hsp:=hst.box.lt;have hMl:M < w2.heap.size:=by obtain⟨k,_,hk⟩:=hst.all;exact World.ownsMap.lt hk
  have hown:∀ k,SX ⟨w2.heap.size+1,bc,bp,w2.heap.size,sp,M,0,0,0,List.replicate n Plc.zero,fun _=>none,[],.slice none 0 0,[]⟩ k→w.heap.size≤k∧k < W4.heap.size:=fun k hk=>by
   rcases hk with hk|hk|hk|hk|hk|hk|⟨r,hr,_⟩
   ·have hk:k=w2.heap.size+1:=hk;omega
   ·have hk:k=bc:=hk;omega
   ·have hk:k=bp:=hk;omega
   ·have hk:k=w2.heap.size:=hk;omega
   ·have hk:k=sp:=hk;omega
   ·have hk:k=M:=hk;omega
   ·cases hr
  refine⟨HB1.out.trans ((hb2.trans (hb24.mono hs22)).mono hs12),hown,rfl,rfl,rfl,(by show M≠w2.heap.size;omega),List.length_replicate,(fun x hx=>by
   have hx:x∈keysOf (List.replicate n Plc.zero):=hx;rw[keysOf_zeroN]at hx;cases hx),?_,⟨fun _ hk=>hk,fun k hk=>(hown k hk).2,hP4,(HCa.out.below hb2 hlt.1 hlt.2).below hb24 (by omega) (by omega),?_,?_,?_,?_,hO4,fun h=>absurd rfl h,?_⟩⟩
  ·exact⟨⟨by show w.heap.size≤sp;omega,by show sp < W4.heap.size;omega⟩,⟨by show w.heap.size≤M;omega,by show M < W4.heap.size;omega⟩,hst4.box,hst4.all,fun r hr=>(by cases hr),List.Pairwise.nil⟩
  ·show 0 < (List.replicate n Plc.zero).length;rw[List.length_replicate];omega
  ·show(List.replicate n Plc.zero).length≤50;rw[List.length_replicate];exact h2
  ·exact Dist.zero n
  ·intro x hx;have hx:x∈keysOf (List.replicate n Plc.zero):=hx;rw[keysOf_zeroN]at hx;cases hx
  ·intro i key _ hm;have hm:str (nmL i key)∈keysOf (List.replicate n Plc.zero):=hm;rw[keysOf_zeroN]at hm;cases hm)
 clear hst hb2 eW3 eW4 hb3 hb34 hb24 hO4 hP4 hst4 hz3 hz4
 go_wp2_with fail
 rw[←HW3.out,←HW4.out]
 go_ret2
 exact⟨_,rfl,HR.out⟩
theorem srvNew_no (n:Int) (w:World) (h:n < 1∨50 < n):
 Calls Tryz.prog 8 #[.int .i64 n] w fun e w'=>e=.returned (.tuple #[.pointer none,.iface 35 (.int .i64 1)])∧w'=w:=by
 have HC:=hid (new_no n w h);clear h
 go_enter Tryz.func8,Tryz.ntmps8
 go_wp2_with fail
 refine HC.out.mono ?_;clear HC;rintro e w1 ⟨rfl,rfl⟩
 go_wp2_with fail
 go_ret2
 exact⟨rfl,rfl⟩
theorem VerOk.other {w w':World} {base:Nat} {r:VR} {X:Nat→Prop} (h:VerOk w base r) (hf:Fr w w' X) (hX:∀ k,X k→k < base∨∃ t cs,Blk w k t cs∧t≠146):VerOk w' base r:=by
 obtain⟨wb,S,n,h1,h2,h3,h4⟩:=h.rec_;refine⟨h.lo,h.fine,wb,S,n,h1.fr hf (fun hx=> ?_),h2,owns_fr h3 hf (fun hx=> ?_),h4.fr hf fun mb k T hm hT hx=> ?_⟩
 ·rcases hX _ hx with g|⟨t,cs,g,g1⟩
  ·have:=h.lo;omega
  ·unfold Blk at h1 g;rw[h1]at g;injection g with g;injection g with _ g;exact g1 g.symm
 ·rcases hX _ hx with g|⟨t,cs,g,_⟩
  ·omega
  ·exact owns_ne_blk h3 g rfl
 ·rcases hX _ hx with g|⟨t,cs,g,_⟩
  ·omega
  ·exact owns_ne_blk hT g rfl
theorem StoreIn.other {B b1:Nat} {w w':World} {p M:Nat} {vs:List VR} {S:List (Nat×Nat)} {X:Nat→Prop} (h:StoreIn B b1 w p M vs S) (hf:Fr w w' X) (hX:∀ k,X k→(k < b1∧k≠p∧k≠M)∨∃ t cs,Blk w k t cs∧t≠142∧t≠146):StoreIn B b1 w' p M vs S:=by
 refine⟨h.lp,h.lM,h.box.fr hf (fun hx=> ?_),?_,fun r hr=>(h.vers r hr).other hf fun k hk=>(hX k hk).imp (fun g=>g.1) fun⟨t,cs,g,_,g2⟩=>⟨t,cs,g,g2⟩,h.apart⟩
 ·rcases hX _ hx with g|⟨t,cs,g,g1,_⟩
  ·exact g.2.1 rfl
  ·have h1:=h.box;unfold Blk at h1 g;rw[h1]at g;injection g with g;injection g with _ g;exact g1 g.symm
 ·obtain⟨n,h1,h2⟩:=h.all;refine⟨n,h1,owns_fr h2 hf fun hx=> ?_⟩;rcases hX _ hx with g|⟨t,cs,g,_⟩
  ·exact g.2.2 rfl
  ·exact owns_ne_blk h2 g rfl
end Go.Proofs.YtpfmmbbggcghiaaGreatDoor
namespace Go.Proofs.YtpfmmbbggcghiaaGreatDoor
open Go.RowKit
open Lib (hid)
theorem make_places (n:Nat) (hn:n≤50):∀ W:World,(Instr.makeSlice 137 (.int .i64 (n:Int)) (.int .i64 (n:Int))).run Tryz.prog W=.ok (.slice (some ⟨W.heap.size,0,none⟩) n n) (W.alloc (.cells (cellsOf (List.replicate n Plc.zero)).toArray 206)):=by
 obtain⟨i0,hi,hz0,hz1,hz2⟩:=info_parts info_place;intro W;have:=run_make_rowN (P:=Tryz.prog) 137 206 i0 _ Tryz.underlying137 hi hz0 .i64 .i64 n n (Nat.le_refl _) (by rw[hz2];omega) (by omega) W
 rw[hz1]at this;rw[this,←made_cells];rfl
theorem clear_any (bc bp:Nat) (ps:List Plc) (hand:Nat) (w:World) (hc:Cach w bc bp ps hand) (hn:ps.length≤50):
 Calls Tryz.prog 27 #[.pointer (some ⟨bc,0,none⟩)] w fun e w'=>e=.returned (.tuple #[])∧∃ bp',w.heap.size≤bp'∧Cach w' bc bp' (List.replicate ps.length Plc.zero) 0∧Fr w w' (fun k=>k=bc):=by
 have hmk:=make_places ps.length hn;obtain⟨c0,c1⟩:=hc.head;have f1:=hc.frozen.1;have hlt:=hc.lt.1;have HC:=hid hc;clear hc
 go_enter Tryz.func27,Tryz.ntmps27
 go_wp2_with fail
 go_end0
 refine⟨rfl,w.heap.size,Nat.le_refl _,⟨?_,?_⟩,(((Fr.refl w (fun k=>k=bc)).setCell (p:=⟨bc,0,none⟩) (.inl rfl) _).setCell (p:=⟨bc,1,none⟩) (.inl rfl) _).alloc _⟩
 ·have h:=((HC.out.1.set_ 0 (.slice (some ⟨w.heap.size,0,none⟩) ps.length ps.length)).set_ 1 (.int .i64 0)).alloc (.cells (cellsOf (List.replicate ps.length Plc.zero)).toArray 206);rw[List.length_replicate];exact h
 ·have h:=Blk.new ((w.setCell ⟨bc,0,none⟩ (.slice (some ⟨w.heap.size,0,none⟩) ps.length ps.length)).setCell ⟨bc,1,none⟩ (.int .i64 0)) 206 (cellsOf (List.replicate ps.length Plc.zero)).toArray;have e:((w.setCell ⟨bc,0,none⟩ (.slice (some ⟨w.heap.size,0,none⟩) ps.length ps.length)).setCell ⟨bc,1,none⟩ (.int .i64 0)).heap.size=w.heap.size:=by simp[World.setCell]
  rw[e]at h;exact h
end Go.Proofs.YtpfmmbbggcghiaaGreatDoor
