/- Loadings beside another server; a store without versions. -/
import Derived.Test.YtpfmmbbggcghiaaGreatDoorSrvL
import Derived.Test.YtpfmmbbggcghiaaGreatDoorCards
import Derived.Test.YtpfmmbbggcghiaaGreatDoorTie
set_option linter.unusedSimpArgs false
set_option linter.unusedVariables false
set_option maxHeartbeats 12800000
set_option maxRecDepth 100000
namespace Go.Proofs.YtpfmmbbggcghiaaGreatDoor
open Go.RowKit Go.Maps
open Lib (hid)
structure StNew (s:SvD) (W:World):Prop where
 st:∃ B0 b1,b1≤W.heap.size∧StoreSt B0 b1 W s.sp s.M []
 vs:s.vs=[]
 v:s.v=0
 Mm:s.M≠s.mb
theorem SrvNew.stn {n:Nat} {s:SvD} {w w':World} (h:SrvNew n s w w'):StNew s w':=⟨⟨_,_,Nat.le_refl _,h.st⟩,h.vs,h.v,h.Mm⟩
theorem StNew.open {s:SvD} {W:World} (h:StNew s W):∃ B0,StoreSt B0 W.heap.size W s.sp s.M s.vs:=by
 obtain⟨B0,b1,h1,h2⟩:=h.st;refine⟨B0,?_⟩;rw[h.vs];exact⟨⟨h2.lp.1,by have:=h2.lp.2;omega⟩,⟨h2.lM.1,by have:=h2.lM.2;omega⟩,h2.box,h2.all,fun r hr=>(by cases hr),List.Pairwise.nil⟩
structure First (l:List Bun) (a a':SvD) (W':World) (e:Ending):Prop where
 p:a'.p=a.p
 cnt:a'.cnt≤a.cnt
 e:e=.returned (.tuple #[.int .i64 ((if loadE l=0 then 1 else 0:Nat):Int),errV (loadE l)])
 v:a'.v=if loadE l=0 then 1 else 0
 l:loadE l=0→a'.l=l
structure Hands (w0:World) (args:List ArgV) (vA:Value):Prop where
 ev:∀ W,Below w0.heap.size w0 W→EvV W
 inn:∀ m:List (Nd 7),(m.map (Enc.node 7).bulk).sum≤1048576→SayIn 7 m args
 lie:ListOk Enc.argV w0 0 w0.heap.size vA args
structure HandsL (w0:World) (l:List Bun) (vl:Value):Prop where
 lie:ListOk Enc.bun w0 0 w0.heap.size vl l
 each:∀ b∈l,b.tag.size < 4294967281∧b.ents.length≤4398046511104∧∀ e∈b.ents,e.key.size≤9223372036854775807∧e.text.size≤9223372036854775807
 len:l.length*40≤140737488355328
structure Solo (w0 W:World) (a:SvD):Prop where
 ex:∃ T,SrvR T a W∧(∀ k,T k→w0.heap.size≤k)
 below:Below w0.heap.size w0 W
theorem SrvNew.solo {n:Nat} {s:SvD} {w w':World} (h:SrvNew n s w w'):Solo w w' s:=⟨⟨_,h.r,fun k hk=>(h.own k hk).1⟩,h.below⟩
theorem Hands.on {w0 w1:World} {args:List ArgV} {vA:Value} (h:Hands w0 args vA) (hb:Below w0.heap.size w0 w1):Hands w1 args vA:=
 ⟨fun W hW=>h.ev W (hb.trans (hW.mono hb.size)),h.inn,(h.lie.below Enc.argV_laws hb).mono Enc.argV_laws (Nat.le_refl _) hb.size⟩
theorem HandsL.on {w0 w1:World} {l:List Bun} {vl:Value} (h:HandsL w0 l vl) (hb:Below w0.heap.size w0 w1):HandsL w1 l vl:=
 ⟨(h.lie.below Enc.bun_laws hb).mono Enc.bun_laws (Nat.le_refl _) hb.size,h.each,h.len⟩
structure Asked (a a':SvD):Prop where
 p:a'.p=a.p
 v:a'.v=a.v
 l:a'.l=a.l
 cnt:a'.cnt≤a.cnt+1
def SaidE (a:SvD) (name key:ByteArray) (args:List ArgV):Ending:=.returned (.tuple #[.string (str (srvS a.l a.v name key args).1),errD (srvS a.l a.v name key args).2])
theorem Solo.say {w0 W:World} {a:SvD} {name key:ByteArray} {args:List ArgV} {vA:Value} (h:Solo w0 W a) (hH:Hands w0 args vA) (hn:name.size≤1048576) (hk:key.size≤1048576) (hc:a.cnt≤1000000000):
 Calls Tryz.prog 10 #[.pointer (some ⟨a.p,0,none⟩),.string name,.string key,vA] W fun e w'=>e=SaidE a name key args∧∃ a',Asked a a'∧Solo w0 w' a':=by
 obtain⟨T,h1,h3⟩:=h.ex;refine(srvSay_any T a name key args vA 0 W h1 hn hk hc w0.heap.size h3 h.below.size (fun W' hW'=>hH.ev W' (h.below.trans hW')) hH.inn w0.heap.size (hH.lie.below Enc.argV_laws h.below) h.below.size (fun k hk=>.inr (h3 k (h1.sub k hk.x)))).mono ?_;rintro e w' ⟨rfl,hand,cnt,ps,f,_,hcn,hs,hf⟩;exact⟨rfl,a.turn hand cnt ps f,⟨rfl,rfl,rfl,hcn⟩,⟨⟨T,hs,h3⟩,Fr.below h.below hf h.below.size fun k hk=>h3 k (h1.sub k hk.x)⟩⟩
theorem Solo.load {w0 W:World} {a:SvD} {l:List Bun} {vl:Value} {args:List ArgV} {vA:Value} (h:Solo w0 W a) (hn:StNew a W) (hL:HandsL w0 l vl) (hH:Hands w0 args vA):
 Calls Tryz.prog 9 #[.pointer (some ⟨a.p,0,none⟩),vl] W fun e w'=>∃ a',First l a a' w' e∧Solo w0 w' a':=by
 obtain⟨T,h1,h3⟩:=h.ex;obtain⟨B0,hso⟩:=hn.open;refine(srvLoad_any T a B0 W.heap.size l vl 0 W h1 hso (by rw[hn.v,hn.vs];rfl) hn.Mm (by rw[hn.vs];decide) (Nat.le_refl _) w0.heap.size h3 h.below.size (fun W' hW'=>hH.ev W' (h.below.trans hW')) w0.heap.size (hL.lie.below Enc.bun_laws h.below) h.below.size (fun k hk=>.inr (h3 k (h1.sub k hk))) hL.each hL.len).mono ?_
 rintro e w' ⟨hf,hres⟩;have hbel:Below w0.heap.size w0 w':=Fr.below h.below hf h.below.size fun k hk=>h3 k (h1.sub k hk);rcases hres with⟨g1,g2,g3,_⟩|⟨g1,g2,a',g3,_,_,g4,g5,g6,_,g7,g8,_⟩
 ·exact⟨a,⟨rfl,Nat.le_refl _,by rw[g2,if_neg g1];rfl,by rw[if_neg g1,hn.v],fun h=>absurd h g1⟩,⟨⟨T,g3,h3⟩,hbel⟩⟩
 ·have hv1:a'.v=1:=by rw[g4,hn.v]
  have g2':e=.returned (.tuple #[.int .i64 1,.nilIface]):=by rw[g2,hn.v];rfl
  refine⟨a',⟨g3,by rw[g6];exact Nat.zero_le _,by rw[g2',g1];rfl,by rw[if_pos g1,hv1],fun _=>g5⟩,⟨⟨_,g8,fun k hk=> ?_⟩,hbel⟩⟩
  rcases hk with hk|hk
  ·exact h3 k hk
  ·rcases g7 k hk with hk|hk
   ·exact h3 k (h1.sub k hk)
   ·exact Nat.le_trans h.below.size hk
end Go.Proofs.YtpfmmbbggcghiaaGreatDoor
namespace Go.Proofs.YtpfmmbbggcghiaaGreatDoor
open Go.RowKit
open Lib (hid)
def hiK:ByteArray:=⟨#[104,105]⟩
end Go.Proofs.YtpfmmbbggcghiaaGreatDoor
namespace Go.Proofs.YtpfmmbbggcghiaaGreatDoor
open Go.RowKit Go.Maps
open Lib (hid)
def helloB:ByteArray:=⟨#[104,101,108,108,111]⟩
def topBun:Bun:=⟨en,[⟨hiK,helloB⟩]⟩
theorem top_load:loadE [topBun]=0:=by decide +kernel
theorem top_said:srvS [topBun] 1 ⟨#[100,101]⟩ ⟨#[104,105]⟩ []=([104,101,108,108,111],0):=by decide +kernel
theorem none_in:∀ m:List (Nd 7),(m.map (Enc.node 7).bulk).sum≤1048576→SayIn 7 m []:=fun m h=>
 ⟨h,by decide,fun a ha=>(by cases ha),fun a ha=>(by cases ha)⟩
theorem none_list (W:World):ListOk Enc.argV W 0 0 (.slice none 0 0) []:=⟨none,0,rfl,Nat.le_refl _,fun i hi=>absurd hi (Nat.not_lt_zero i)⟩
theorem hello_list (w:World):ListOk Enc.ent (w.alloc (.cells #[.string hiK,.string helloB] 70)) w.heap.size (w.heap.size+1) (.slice (some ⟨w.heap.size,0,none⟩) 1 1) [⟨hiK,helloB⟩]:=by
 refine⟨some ⟨w.heap.size,0,none⟩,1,rfl,Nat.le_refl _,fun i hi=> ?_⟩;have hi0:i=0:=by simpa using hi
 subst hi0;refine⟨w.heap.size,0,[.string hiK,.string helloB],rfl,Nat.le_refl _,Nat.lt_succ_self _,fun j u hj=> ?_,rfl⟩;rw[show 0+0*Enc.ent.sz+j=j from by omega,(Blk.new w 70 #[.string hiK,.string helloB]).cell j];simpa using hj
theorem top_list {w1:World} {lo:Nat} {A:Option Addr} {c:Nat} (h:ListOk Enc.ent w1 lo w1.heap.size (.slice A 1 c) [⟨hiK,helloB⟩]) (hlo:lo≤w1.heap.size):ListOk Enc.bun (w1.alloc (.cells #[.string en,.slice A 1 c] 49)) lo (w1.heap.size+1) (.slice (some ⟨w1.heap.size,0,none⟩) 1 1) [topBun]:=by
 refine⟨some ⟨w1.heap.size,0,none⟩,1,rfl,Nat.le_refl _,fun i hi=> ?_⟩;have hi0:i=0:=by simpa using hi
 subst hi0;refine⟨w1.heap.size,0,[.string en,.slice A 1 c],rfl,hlo,Nat.lt_succ_self _,fun j u hj=> ?_,_,rfl,?_⟩
 ·rw[show 0+0*Enc.bun.sz+j=j from by omega,(Blk.new w1 49 #[.string en,.slice A 1 c]).cell j];simpa using hj
 ·exact(h.below Enc.ent_laws ((Below.refl _ _).alloc (Nat.le_refl _) _)).mono Enc.ent_laws (Nat.le_refl _) (Nat.le_succ _)
theorem servedT_any (w:World) (hV:EvV w):Calls Tryz.prog 7 #[] w fun e w'=>e=.returned (.bool true)∧Below w.heap.size w w':=by
 have HN:=hid (srvNew_yes 1 w (Nat.le_refl _) (by decide))
 have HV:Hid (∀ W,Below w.heap.size w W→EvV W):=hid fun W hW=>hV.below hW;clear hV
 go_enter Tryz.func7,Tryz.ntmps7
 go_wp2_with fail
 refine HN.out.mono ?_;clear HN;rintro e w1 ⟨s,rfl,hn⟩;have HNw:=hid hn;clear hn;obtain⟨w2,ew2⟩:∃ W,W=w1.alloc (.cells #[.string ⟨#[104,105]⟩,.string ⟨#[104,101,108,108,111]⟩] 70):=⟨_,rfl⟩;have hw2:w2.heap.size=w1.heap.size+1:=by rw[ew2,World.size_alloc]
 have hb2:Below w1.heap.size w1 w2:=by rw[ew2];exact(Below.refl _ _).alloc (Nat.le_refl _) _
 have hsl:ListOk Enc.ent w2 w1.heap.size w2.heap.size (.slice (some ⟨w1.heap.size,0,none⟩) 1 1) [⟨hiK,helloB⟩]:=by rw[ew2,World.size_alloc];exact hello_list w1
 obtain⟨W3,eW3⟩:∃ W3,W3=w2.alloc (.cells #[.string ⟨#[101,110]⟩,.slice (some ⟨w1.heap.size,0,none⟩) 1 1] 49):=⟨_,rfl⟩;have hz3:W3.heap.size=w2.heap.size+1:=by rw[eW3,World.size_alloc]
 have hb3:Below w1.heap.size w1 W3:=by rw[eW3];exact hb2.alloc hb2.size _
 have hls:ListOk Enc.bun W3 w1.heap.size W3.heap.size (.slice (some ⟨w2.heap.size,0,none⟩) 1 1) [topBun]:=by rw[eW3,World.size_alloc];exact top_list hsl hb2.size
 have hz1:=HNw.out.below.size;have hz2:=hb2.size;have HB3:Hid (Below w.heap.size w W3):=hid (HNw.out.below.trans (hb3.mono hz1));have hst:StoreSt w.heap.size w1.heap.size W3 s.sp s.M s.vs:=by rw[HNw.out.vs];exact HNw.out.st.keep hb3
 have HL:=hid (srvLoad_any (SX s) s w.heap.size w1.heap.size [topBun] (.slice (some ⟨w2.heap.size,0,none⟩) 1 1) w1.heap.size W3 (HNw.out.r.below hb3) hst (by rw[HNw.out.v,HNw.out.vs];rfl) HNw.out.Mm (by rw[HNw.out.vs];decide) (by omega) w.heap.size (fun k hk=>(HNw.out.own k hk).1) (by omega) (fun W hW=>HV.out W (HB3.out.trans hW)) W3.heap.size hls (Nat.le_refl _) (fun k hk=>.inl (HNw.out.own k hk).2)
  (fun b hb=>by
    rw[List.mem_singleton.1 hb];exact⟨by decide +kernel,by decide +kernel,fun e he=>by rw[List.mem_singleton.1 he];exact⟨by decide +kernel,by decide +kernel⟩⟩) (by decide))
 have EW3:=hid eW3;have EW2:=hid ew2;have HW2:=hid hw2;clear hb2 hsl eW3 hb3 hls hst ew2 hw2;have HBz:Hid (w1.heap.size≤W3.heap.size∧w.heap.size≤w1.heap.size):=hid ⟨by omega,by omega⟩
 clear hz3 hz2 hz1
 go_wp2_with fail
 rw[←EW2.out,←HW2.out,←EW3.out];clear EW2 HW2 EW3;refine HL.out.mono ?_;clear HL;rintro e w4 ⟨hf4,hres⟩;rcases hres with⟨hbad,_⟩|⟨_,rfl,s',hp',_,_,hv',hl',hc',_,hx',hr',_⟩
 ·exact absurd top_load hbad
 have hz4:=hf4.size;have HB4:Hid (Below w.heap.size w w4):=hid (Fr.below HB3.out hf4 HB3.out.size fun k hk=>(HNw.out.own k hk).1);have hTw:∀ k,(SX s k∨SX s' k)→w.heap.size≤k:=fun k hk=>by
  rcases hk with hk|hk
  ·exact(HNw.out.own k hk).1
  ·rcases hx' k hk with hk|hk
   ·exact(HNw.out.own k hk).1
   ·have:=HBz.out;omega
 have HSy:=hid (srvSay_any _ s' ⟨#[100,101]⟩ ⟨#[104,105]⟩ [] (.slice none 0 0) 0 w4 hr' (by decide) (by decide) (by rw[hc'];decide) w.heap.size hTw HB4.out.size (fun W hW=>HV.out W (HB4.out.trans hW)) none_in 0 (none_list w4) (Nat.zero_le _) (fun k hk=>.inr (Nat.zero_le _)))
 have HP':=hid hp';have HV':Hid (s'.v=1):=hid (by rw[hv',HNw.out.v])
 have HL':=hid hl';have hv0:((s.v+1:Nat):Int)=1:=by rw[HNw.out.v];rfl
 rw[hv0];have HTw:=hid hTw;clear hf4 hp' hv' hl' hc' hx' hr' hv0 hTw hz4
 go_wp2_with fail
 rw[←HP'.out];refine HSy.out.mono ?_;clear HSy;rintro e w6 ⟨rfl,hand,cnt,ps,f,_,_,hs6,hf6⟩;rw[HV'.out,HL'.out,top_said];have HB6:Hid (Below w.heap.size w w6):=hid (Fr.below HB4.out hf6 HB4.out.size fun k hk=>HTw.out k (hs6.sub k hk.x));have h97:(str [104,101,108,108,111])=(⟨#[104,101,108,108,111]⟩:ByteArray):=rfl;rw[h97,errD_zero];clear hs6 hf6 h97
 go_wp2_with fail
 go_ret
 exact⟨rfl,HB6.out⟩
end Go.Proofs.YtpfmmbbggcghiaaGreatDoor
namespace Go.Proofs.YtpfmmbbggcghiaaGreatDoor
open Go.RowKit
open Lib (hid)
theorem cut_ahead (r:List UInt8):∀ x:List UInt8,(45:UInt8)∉x→Lib.index (x++45::r) [45]=(x.length:Int)
 | [],_=>by
   show Lib.index (45::r) [45]=0;unfold Lib.index;simp
 | b::x,h=>by
   have hb:b≠45:=fun e=>h (by rw[e];exact List.mem_cons_self ..)
   have ih:=cut_ahead r x fun e=>h (List.mem_cons_of_mem _ e);show Lib.index (b::(x++45::r)) [45]=_;rw[index_one_cons b 45 _ hb,ih];rw[if_neg (by simp)]
   simp
theorem cut_none:∀ x:List UInt8,(45:UInt8)∉x→Lib.index x [45]= -1
 | [],_=>by decide
 | b::x,h=>by
   have hb:b≠45:=fun e=>h (by rw[e];exact List.mem_cons_self ..)
   have ih:=cut_none x fun e=>h (List.mem_cons_of_mem _ e);rw[index_one_cons b 45 _ hb,ih]
   rfl
theorem low_dash {s:ByteArray} (h:(bts s).all isLow=true):(45:UInt8)∉bts s:=fun hm=>by
 have h1:=List.all_eq_true.1 h _ hm
 revert h1
 decide
theorem lang_of {s:ByteArray} (h:isTag s=true):∃ t,parseTag s=some t∧t.lang=langB s:=by
 unfold isTag at h;cases hp:parseTag s with
 | none=>rw[hp]at h;cases h
 | some t=>
   rw[hp]at h;have ht:tagText t=s:=(eqs_iff _ _).1 h;refine⟨t,rfl,?_⟩;unfold parseTag at hp;split at hp
   ·rename_i hf
    injection hp with hp;rw[hp]at hf;have h0:tagFault t=0:=by
     have:=(Bool.and_eq_true _ _).mp hf;exact of_decide_eq_true this.1
    have hh:headFault t=false:=by
     cases hb:headFault t with
     | false=>rfl
     | true=>
       unfold tagFault at h0;rw[hb,if_pos rfl]at h0;exact absurd h0 (by decide)
    unfold headFault at hh;have hm:made isLow t.lang 2 3=true:=by
     cases hb:made isLow t.lang 2 3 with
     | true=>rfl
     | false=>rw[hb]at hh;exact absurd hh (by simp)
    unfold made at hm;rw[Bool.and_eq_true,Bool.and_eq_true]at hm;have hd:=low_dash hm.1;have h2:=of_decide_eq_true hm.2.1;have hne:eqs t.lang ByteArray.empty=false:=by
     cases hb:eqs t.lang ByteArray.empty with
     | false=>rfl
     | true=>
       have:=(eqs_iff _ _).1 hb;rw[this]at h2;exact absurd h2 (by decide)
    have hpt:∃ rest,parts t=t.lang::rest:=by
     unfold parts;exact⟨_,List.filter_cons_of_pos (by rw[hne];rfl)⟩
    obtain⟨rest,hr⟩:=hpt;have hbs:bts s=Lib.join ((t.lang::rest).map bts) [45]:=by
     rw[←ht];unfold tagText joined;rw[hr]
     rfl
    unfold langB;have e1:s.data.toList=bts s:=rfl;rw[e1,hbs];cases rest with
    | nil=>
      have e2:Lib.join (([t.lang]:List ByteArray).map bts) [45]=bts t.lang:=by simp[Lib.join]
      rw[e2];unfold Lib.cut;rw[cut_none _ hd,if_neg (by decide)]
      exact(str_bts _).symm
    | cons y ys=>
      have e2:Lib.join ((t.lang::y::ys).map bts) [45]=bts t.lang++45::Lib.join ((y::ys).map bts) [45]:=by
       simp[Lib.join,List.intercalate]
      rw[e2];unfold Lib.cut;rw[cut_ahead _ _ hd,if_pos (Int.natCast_nonneg _),Int.toNat_natCast,List.take_left];exact(str_bts _).symm
   ·cases hp
end Go.Proofs.YtpfmmbbggcghiaaGreatDoor
namespace Go.Proofs.YtpfmmbbggcghiaaGreatDoor
open Go.RowKit Go.Maps
open Lib (hid)
theorem SRow.on {B:Nat} {W W':World} {out:Value} {zs:List SU} (h:SRow B W out zs) (hb:Below W.heap.size W W'):SRow B W' out zs:=
 ⟨own_keep h.row fun g _ hlt=>hb.block g hlt,fun s hs=>(h.part s hs).keep (fun g _ hlt=>hb.block g hlt) (fun g _ hlt=>hb.block g hlt)⟩
theorem topSays_any (n:Int) (l:List Bun) (vl:Value) (name key:ByteArray) (args:List ArgV) (vA:Value) (w:World) (hH:Hands w args vA) (hL:HandsL w l vl) (hn:name.size≤1048576) (hk:key.size≤1048576) (hE:ErrVar w):
 Calls Tryz.prog 3 #[.int .i64 n,vl,.string name,.string key,vA] w fun e w'=>e=.returned (.bool true)∧Below w.heap.size w w':=by
 obtain⟨lA,lc,rfl,_⟩:=hL.lie.form;obtain⟨aA,ac,rfl,_⟩:=hH.lie.form;have HSv:=hid (servedT_any w (hH.ev w (Below.refl _ _)));have HHa:=hid hH;have HLa:=hid hL;have HEr:Hid (∀ W,Below w.heap.size w W→ErrVar W):=hid fun W hW=>hE.below hW hE.lt;have HBu:Hid (∀ W,Below w.heap.size w W→BunsIn W (.slice lA l.length lc) l):=hid fun W hW=>⟨⟨0,(hL.lie.below Enc.bun_laws hW).mono Enc.bun_laws (Nat.le_refl _) hW.size⟩,hL.len,hL.each⟩;clear hH hL hE
 go_enter Tryz.func3,Tryz.ntmps3
 go_wp2_with fail
 refine HSv.out.mono ?_;clear HSv;rintro e w1 ⟨rfl,hb1⟩;have HB1:=hid hb1;clear hb1
 by_cases hn1:1≤n∧n≤50
 ·have HNa:Hid (Calls Tryz.prog 8 #[.int .i64 n] w1 fun e w'=>∃ s:SvD,e=.returned (.tuple #[.pointer (some ⟨s.p,0,none⟩),.nilIface])∧SrvNew n.toNat s w1 w'):=hid (by
   have h1:=srvNew_yes n.toNat w1 (by omega) (by omega)
   rwa[show((n.toNat:Nat):Int)=n from by omega]at h1)
  clear hn1
  go_wp2_with fail
  refine HNa.out.mono ?_;clear HNa;rintro e w2 ⟨a,rfl,hna⟩;have HC0:=hid hna.cnt;have HLo:=hid (hna.solo.load hna.stn (HLa.out.on HB1.out) (HHa.out.on HB1.out));clear hna
  go_wp2_with fail
  refine HLo.out.mono ?_;clear HLo;rintro e w3 ⟨a1,hfa,hs3⟩;obtain⟨r,hr⟩:∃ r,r=loadE l:=⟨_,rfl⟩;obtain⟨V,hV⟩:∃ V:Nat,V=if loadE l=0 then 1 else 0:=⟨_,rfl⟩
  have hee:=hfa.e;rw[←hV,←hr]at hee;subst hee;obtain⟨S,hS⟩:∃ S,S=srvS a1.l a1.v name key args:=⟨_,rfl⟩;have hsay:=hs3.say (HHa.out.on HB1.out) hn hk (show a1.cnt≤1000000000 by have:=hfa.cnt;have:=HC0.out;omega)
  unfold SaidE at hsay;rw[←hS,hfa.p]at hsay;have HSy:=hid hsay;have HS0:Hid (r≠0→S=([],2)):=hid fun h=>by
   have h2:loadE l≠0:=by rw[←hr];exact h
   rw[hS,hfa.v,if_neg h2]
   rfl
  have HS1:Hid (r=0→S=if(findIn l name key).err≠0 then([],(findIn l name key).err)else if parE (bts (findIn l name key).text)≠0 then([],parE (bts (findIn l name key).text))else sayS 7 (parG (bts (findIn l name key).text)) (langB (btagOf l (findIn l name key).at_)) args):=hid fun h=>by
   have h2:loadE l=0:=by rw[←hr];exact h
   rw[hS,hfa.v,if_pos h2,hfa.l h2]
   rfl
  have HTag:Hid (r=0→(findIn l name key).err=0→∃ hi:(findIn l name key).at_ < l.length,∃ t,parseTag l[(findIn l name key).at_].tag=some t∧t.lang=langB (btagOf l (findIn l name key).at_)):=hid fun h h0=>by
   have h2:loadE l=0:=by rw[←hr];exact h
   have hi:=(find_text h0).1;refine⟨hi,?_⟩;have h3:loadFault l=0:=by
    unfold loadE at h2;split at h2
    ·exact absurd h2 (by decide)
    ·exact h2
   obtain⟨t,h4,h5⟩:=lang_of ((right_iff _).1 (load_zero h3 _ hi).1).tag;refine⟨t,h4,?_⟩;rw[h5];unfold btagOf;rw[List.getElem?_eq_getElem hi]
   rfl
  clear hfa hs3 hsay hV hS hr
  go_wp2_with fail
  refine HSy.out.mono ?_;clear HSy;rintro e w4 ⟨rfl,a2,_,hs4⟩;have hb4:Below w.heap.size w w4:=HB1.out.trans (hs4.below.mono HB1.out.size);have HB4:=hid hb4;clear hs4
  by_cases h0:r=0
  ·have hS1:=HS1.out h0;obtain⟨R,hR⟩:∃ R,R=findIn l name key:=⟨_,rfl⟩;have HFi:=hid (find_any l (.slice lA l.length lc) name key w4 (HBu.out w4 hb4) (by omega) (HHa.out.ev w4 hb4).rv.max)
   have HTg:=hid (HTag.out h0);rw[←hR]at HFi hS1 HTg;have HSR:=hid hS1;rw[h0,errV_zero];clear h0 HS0 HS1 HTag hb4 hR hS1
   go_wp2_with fail
   refine HFi.out.mono ?_;clear HFi;rintro e w5 ⟨hb5,rfl⟩;have hb5:=HB4.out.trans (hb5.mono HB4.out.size);have HB5:=hid hb5;obtain⟨re,ri,rt⟩:=R;have hS1:=HSR.out;dsimp only at hS1 HTg ⊢
   by_cases h1:re=0
   ·subst h1;rw[if_neg (by simp)]at hS1
    obtain⟨hri,t,hpt,hlg⟩:=HTg.out rfl;have hP:=mParse_any (bts rt) w5 (HHa.out.ev w5 hb5).mv;rw[str_bts]at hP;have hP:Calls Tryz.prog 14 #[.string rt] w5 fun e w'=>Below w5.heap.size w5 w'∧∃ v,e=.returned (.tuple #[v,errV (parE (bts rt))])∧MkN 7 w5.heap.size w'.heap.size w' v (parG (bts rt)):=hP;have HP:=hid hP;have HS1:=hid hS1;have HLg:=hid (And.intro hpt hlg);rw[errV_zero];clear hP hS1 hpt hlg HTg hb5 HSR
    go_wp2_with fail
    refine HP.out.mono ?_;clear HP;rintro e w6 ⟨hb6,vm,rfl,hm6⟩;have hb6':=HB5.out.trans (hb6.mono HB5.out.size);have HB6:=hid hb6';obtain⟨pe,hpe⟩:∃ pe,pe=parE (bts rt):=⟨_,rfl⟩;rw[←hpe]
    by_cases h2:pe=0
    ·have hp0:parE (bts rt)=0:=by rw[←hpe];exact h2
     have hS1:=HS1.out;rw[if_neg (by rw[hp0];decide)]at hS1
     obtain⟨L,hL⟩:∃ L,L=langB (btagOf l ri):=⟨_,rfl⟩;rw[←hL]at hS1 HLg;obtain⟨G,hG⟩:∃ G,G=parG (bts rt):=⟨_,rfl⟩;have hbk:=parG_bulk (bts rt);have hin:=parG_in (bts rt);have hck:=parG_checked hp0;have hsm:=parG_small (bts rt);rw[←hG]at hS1 hm6 hbk hin hck hsm;have hSI:=HHa.out.inn G (Nat.le_trans hbk (by decide))
     obtain⟨Am,cm,rfl⟩:=hm6.form;have hLs:L.size≤maxLen:=by
      rw[hL];have h1:=cut_size (btagOf l ri);have h2:btagOf l ri=l[ri].tag:=by unfold btagOf;rw[List.getElem?_eq_getElem hri];rfl
      have h3:=(HLa.out.each _ (List.getElem_mem hri)).1;rw[h2]at h1 ⊢;unfold maxLen;omega
     have hbu6:=HBu.out w6 hb6';obtain⟨b,o,Ve,rfl,hbl,y0,_,_⟩:=hbu6.bunAt ri hri;have hts:l[ri].tag.size < 4294967281:=(HLa.out.each _ (List.getElem_mem hri)).1;have HPt:=hid (parse_any l[ri].tag w6 (HHa.out.ev w6 hb6').rv.max hts);obtain⟨hpt,hlg⟩:=HLg.out;generalize l[ri].tag=tg at *;have HSay:Hid (∀ W,Below w6.heap.size w6 W→Calls Tryz.prog 16 #[.slice Am G.length cm,.string L,.slice aA args.length ac] W fun e w'=>e=.returned (.tuple #[.string (str S.1),errD S.2])∧Below W.heap.size W w'):=hid fun W hW=>by
      have hww:=hb6'.trans (hW.mono hb6'.size);have h:=Say_any 7 G (.slice Am G.length cm) L args (.slice aA args.length ac) 0 0 W hSI hLs (mkN_later hm6 hW (Nat.le_refl _)) ((HHa.out.lie.below Enc.argV_laws hww).mono Enc.argV_laws (Nat.le_refl _) hww.size) (HHa.out.ev W hww);rw[←hS1]at h;exact h
     have HCo:Hid (∀ W,Below w6.heap.size w6 W→Calls Tryz.prog 17 #[.slice Am G.length cm] W fun e w'=>Below W.heap.size W w'∧∃ out U zs,e=.returned (.tuple #[.agg #[out,U],.nilIface])∧zs.map SU.x=stpN 7 0 G∧SRow W.heap.size w' out zs∧ListOk (Enc.node 7) w' W.heap.size w'.heap.size U (cpyN 7 G)):=hid fun W hW=>by
      have hww:=hb6'.trans (hW.mono hb6'.size);exact compile_ok 7 G (.slice Am G.length cm) 0 W hin (mkN_later hm6 hW (Nat.le_refl _)) (HHa.out.ev W hww).mv hck hsm
     have HCS:Hid (∀ W lo out U zs,Below w6.heap.size w6 W→zs.map SU.x=stpN 7 0 G→SRow lo W out zs→ListOk (Enc.node 7) W lo W.heap.size U (cpyN 7 G)→Calls Tryz.prog 18 #[.agg #[out,U],.string L,.slice aA args.length ac] W fun e w'=>e=.returned (.tuple #[.string (str S.1),errD S.2])∧Below W.heap.size W w'):=hid fun W lo out U zs hW hz hs hU=>by
      have hww:=hb6'.trans (hW.mono hb6'.size);have h:=cSay_any 7 G out U zs lo lo L args (.slice aA args.length ac) 0 W hSI hLs hz hs hU ((HHa.out.lie.below Enc.argV_laws hww).mono Enc.argV_laws (Nat.le_refl _) hww.size) (HHa.out.ev W hww);rw[←hS1]at h;exact h
     have i1:(0:Int)≤(ri:Int):=Int.natCast_nonneg ri;have i2:(ri:Int) < (l.length:Int):=by omega
     have HPT:=hid (And.intro hpt hlg);rw[h2,errV_zero];clear hS1 hG hbk hin hck hsm hSI hm6 hLs hbu6 hpe h2 hp0 hL HLg HS1 hb6 hpt hlg hts
     go_wp2_with fail
     refine HPt.out.mono ?_;clear HPt;rintro e w7 ⟨hb7,hres⟩;rcases hres with⟨hno,_⟩|⟨t',tv,hpt',rfl,htv⟩
     ·rw[HPT.out.1]at hno;exact absurd hno (by simp)
     rw[HPT.out.1]at hpt';injection hpt' with hpt';subst hpt';obtain⟨tA,tc,rfl,_⟩:=htv.form;clear htv;rw[HPT.out.2];obtain⟨W8,eW8⟩:∃ W,W=w7.alloc (.cells #[.string L,.string t.script,.string t.region,.slice tA t.vars.length tc] 44):=⟨_,rfl⟩;have hb8:Below w7.heap.size w7 W8:=by rw[eW8];exact(Below.refl _ _).alloc (Nat.le_refl _) _
     have hk8:Blk W8 w7.heap.size 44 #[.string L,.string t.script,.string t.region,.slice tA t.vars.length tc]:=by rw[eW8];exact Blk.new w7 _ _
     have hb68:Below w6.heap.size w6 W8:=hb7.trans (hb8.mono hb7.size);have HB68:=hid hb68;have x0:=(hk8.cell 0).trans (show _=some (.string L)from rfl);have HK8:=hid hk8;have HS8:=hid (HSay.out W8 hb68);have EW8:=hid eW8;clear hb8 hk8 hb68 eW8 hb7 y0 HSay
     go_upto_region 21 with fail
     rw[←EW8.out];clear EW8
     go_wp2_with fail
     refine HS8.out.mono ?_;clear HS8;rintro e w9 ⟨rfl,hb9⟩;have hb69:=HB68.out.trans (hb9.mono HB68.out.size);have HB69:=hid hb69;have HK9:=hid (HK8.out.below hb9 HK8.out.lt);have HC9:=hid (HCo.out w9 hb69);clear hb9 hb69 x0 HCo HK8
     go_wp2_with fail
     refine HC9.out.mono ?_;clear HC9;rintro e w10 ⟨hb10,out,U,zs,rfl,hz,hs10,hU10⟩;obtain⟨Ao,co,rfl,_⟩:=own_slice hs10.row;obtain⟨Au,cu,rfl,_⟩:=hU10.form;obtain⟨W11,eW11⟩:∃ W,W=w10.alloc (.cells #[.slice Ao zs.length co,.slice Au (cpyN 7 G).length cu] 53):=⟨_,rfl⟩;have hb11:Below w10.heap.size w10 W11:=by rw[eW11];exact(Below.refl _ _).alloc (Nat.le_refl _) _
     have hk11:Blk W11 w10.heap.size 53 #[.slice Ao zs.length co,.slice Au (cpyN 7 G).length cu]:=by rw[eW11];exact Blk.new w10 _ _
     have hb6b:Below w6.heap.size w6 W11:=HB69.out.trans ((hb10.trans (hb11.mono hb10.size)).mono HB69.out.size);have HB6b:=hid hb6b;have HSc:=hid (HCS.out W11 w9.heap.size _ _ zs hb6b hz (hs10.on hb11) ((hU10.below (Enc.node_laws 7) hb11).mono (Enc.node_laws 7) (Nat.le_refl _) hb11.size));have hkt:=HK9.out.below (hb10.trans (hb11.mono hb10.size)) HK9.out.lt;have x0:W11.cell? ⟨w7.heap.size,0,none⟩=some (.string L):=(hkt.cell 0).trans rfl;have y0:=(hk11.cell 0).trans (show _=some (.slice Ao zs.length co)from rfl);have y1:=(hk11.cell 1).trans (show _=some (.slice Au (cpyN 7 G).length cu)from rfl);have EW11:=hid eW11;clear hb11 hk11 hb6b eW11 hb10 hz hs10 hU10 hkt HCS HK9
     go_upto_region 23 with fail
     rw[←EW11.out];clear EW11
     go_wp2_with fail
     refine HSc.out.mono ?_;clear HSc;rintro e w12 ⟨rfl,hb12⟩;have hb12':=HB6.out.trans ((HB6b.out.trans (hb12.mono HB6b.out.size)).mono HB6.out.size);have HB12:=hid hb12';have hto:=stold_any S.2 S.2 w12 (HEr.out w12 hb12');rw[show decide (S.2=S.2)=true from decide_eq_true rfl,errDV]at hto;have HTo:=hid hto;clear hto hb12 hb12' x0 y0 y1
     go_wp2_with fail
     refine HTo.out.mono ?_;clear HTo;rintro e w13 ⟨rfl,hb13⟩;have hb13':=HB12.out.trans (hb13.mono HB12.out.size);have HB13:=hid hb13';have hto:=stold_any S.2 S.2 w13 (HEr.out w13 hb13');rw[show decide (S.2=S.2)=true from decide_eq_true rfl,errDV]at hto;have HTo:=hid hto;clear hto hb13 hb13'
     go_wp2_with fail
     refine HTo.out.mono ?_;clear HTo;rintro e w14 ⟨rfl,hb14⟩;have HB14:=hid (HB13.out.trans (hb14.mono HB13.out.size));clear hb14
     go_wp2_with fail
     go_ret
     exact⟨rfl,HB14.out⟩
    ·have hS1:=HS1.out;rw[if_pos (by rw[←hpe];exact h2),←hpe]at hS1
     subst hS1;have hto:=stold_any pe pe w6 (HEr.out w6 hb6');rw[show decide (pe=pe)=true from decide_eq_true rfl]at hto;have HTo:Hid (Calls Tryz.prog 13 #[errD pe,errV pe] w6 fun e w'=>e=.returned (.bool true)∧Below w6.heap.size w6 w'):=hid hto;have HE2:Hid (errD pe=.iface 35 (.int .i64 pe)):=hid (errD_ne h2);rw[errV_ne h2];rw[errV_ne h2]at HTo;obtain⟨Am,cm,rfl⟩:=hm6.form;clear hto hb6 hb6' hm6 h2 hpe HS1 HLg
     go_wp2_with fail
     refine HTo.out.mono ?_;clear HTo;rintro e w7 ⟨rfl,hb7⟩;have HB7:=hid (HB6.out.trans (hb7.mono HB6.out.size));clear hb7
     go_wp2_with fail
     go_ret
     exact⟨rfl,HB7.out⟩
   ·rw[if_pos h1]at hS1;subst hS1;have hto:=stold_any re re w5 (HEr.out w5 hb5);rw[show decide (re=re)=true from decide_eq_true rfl]at hto;have HTo:Hid (Calls Tryz.prog 13 #[errD re,errV re] w5 fun e w'=>e=.returned (.bool true)∧Below w5.heap.size w5 w'):=hid hto;rw[errV_ne h1];rw[errV_ne h1]at HTo;clear hto hb5 h1 HTg
    go_wp2_with fail
    refine HTo.out.mono ?_;clear HTo;rintro e w7 ⟨rfl,hb7⟩;have HB7:=hid (HB5.out.trans (hb7.mono HB5.out.size));clear hb7
    go_wp2_with fail
    go_ret
    exact⟨rfl,HB7.out⟩
  ·have hs0:=HS0.out h0;subst hs0;have hto:=serror_any 2 2 w4 (HEr.out w4 hb4);rw[show decide ((2:Int)=2)=true from rfl]at hto;have HTo:Hid (Calls Tryz.prog 11 #[errD 2,.int .i64 2] w4 fun e w'=>e=.returned (.bool true)∧Below w4.heap.size w4 w'):=hid hto;rw[errV_ne h0,show(str ([]:List UInt8))=(⟨#[]⟩:ByteArray)from rfl];clear hto h0 HS0 HS1 HTag hb4
   go_wp2_with fail
   refine HTo.out.mono ?_;clear HTo;rintro e w5 ⟨rfl,hb5⟩;have HB5:=hid (HB4.out.trans (hb5.mono HB4.out.size));clear hb5
   go_wp2_with fail
   go_ret
   exact⟨rfl,HB5.out⟩
 ·have HNa:=hid (srvNew_no n w1 (by omega))
  clear hn1
  go_wp2_with fail
  refine HNa.out.mono ?_;rintro e w2 ⟨rfl,rfl⟩
  go_wp2_with fail
  go_ret
  exact⟨rfl,HB1.out⟩
end Go.Proofs.YtpfmmbbggcghiaaGreatDoor
namespace Go.Proofs.YtpfmmbbggcghiaaGreatDoor.topSaysUpto
open Go.RowKit Go.ChangeShapes Go.WideShapes Go.ChangeAt
open Lib (hid)
theorem band {a b:Bool} (h:a=true) (k:b=true):(a && b)=true:=by rw[h,k];rfl
theorem fact0:(Rows.topSaysUptoRow.wf (OpenSpec.ofChange Rows.topSaysSpec))=true:=by kernel_rfl
theorem fact1:(laidOutB Tryz.prog)=true:=by kernel_rfl
theorem fact2:(mapsRowed Tryz.prog)=true:=by kernel_rfl
theorem fact3:(Tryz.f3.params.all (Tryz.prog.readableRec ·))=true:=by kernel_rfl
theorem fact4:(namedTie Tryz.prog Rows.topSaysUptoRow.named Rows.topSaysSpec.vars)=true:=by kernel_rfl
theorem fact5:((Rows.topSaysUptoRow.stops == []))=true:=by kernel_rfl
theorem fact6:((Tryz.prog.stops == []))=true:=by kernel_rfl
theorem fact7:((Rows.topSaysUptoRow.knobs == []))=true:=by kernel_rfl
theorem fact8:((Tryz.prog.stopKnobs == []))=true:=by kernel_rfl
theorem fact9:((Rows.topSaysUptoRow.inPlace == Tryz.prog.inPlace 3))=true:=by kernel_rfl
theorem fact10:((Rows.topSaysUptoRow.unfollowed == Tryz.prog.unfollowed 3))=true:=by kernel_rfl
theorem fact11:((Rows.topSaysUptoRow.recurses == Tryz.prog.recurses 3))=true:=by kernel_rfl
theorem fact12:((Rows.topSaysUptoRow.named == Tryz.prog.varsNamed 3))=true:=by kernel_rfl
theorem fact13:((Rows.topSaysUptoRow.maps == (Tryz.f3.params.toList++Rows.topSaysSpec.plain.varTypes Tryz.prog).any (Tryz.prog.mapsRec ·)))=true:=by kernel_rfl
theorem fact14:((Rows.topSaysUptoRow.ifaces == (Tryz.f3.params.toList++Rows.topSaysSpec.plain.varTypes Tryz.prog).any (Tryz.prog.ifacesRec ·)))=true:=by kernel_rfl
theorem fact15:((Rows.topSaysUptoRow.mapsOut == Tryz.prog.mapsAmong Tryz.f3.resultTypes.toList))=true:=by kernel_rfl
theorem fact16:((Rows.topSaysUptoRow.loops == (Tryz.f3.params.toList++Rows.topSaysSpec.plain.varTypes Tryz.prog).any (Tryz.prog.loopsFrom ·)))=true:=by kernel_rfl
theorem fact17:((Rows.topSaysUptoRow.wideKeys == (Tryz.f3.params.toList++Rows.topSaysSpec.plain.varTypes Tryz.prog++Tryz.f3.resultTypes.toList).any (Tryz.prog.wideKeysFrom ·)))=true:=by kernel_rfl
theorem fact18:(Rows.topSaysSpec.vars.all (Tryz.prog.varReadable ·))=true:=by kernel_rfl
theorem fact19:(Tryz.f3.resultTypes.all (fun t=>Tryz.prog.readableRec t && decide (t < Tryz.prog.types.size)))=true:=by kernel_rfl
theorem fact20:((Rows.topSaysUptoRow.ifacesOut == Tryz.f3.resultTypes.toList.any (Tryz.prog.ifacesRec ·)))=true:=by kernel_rfl
theorem fact21:((Rows.topSaysUptoRow.loopsOut == Tryz.f3.resultTypes.toList.any (Tryz.prog.loopsFrom ·)))=true:=by kernel_rfl
theorem fact22:((Rows.topSaysUptoRow.plainKeys == Tryz.prog.plainKeys))=true:=by kernel_rfl
theorem fact23:(Rows.topSaysUptoRow.shortTexts.isNone)=true:=by kernel_rfl
theorem fact24:(Tryz.prog.stopsHeard)=true:=by kernel_rfl
theorem fact25:(Tryz.prog.mayEnter)=true:=by kernel_rfl
theorem fact26:((Rows.topSaysUptoRow.lifted == Tryz.prog.liftsFinal))=true:=by kernel_rfl
theorem fact27:((Tryz.prog.make == some Rows.topSaysUptoRow.make))=true:=by kernel_rfl
theorem fact28:((Rows.topSaysUptoRow.kinds == (if Rows.topSaysUptoRow.domain.isEmpty then []else Tryz.f3.params.toList.map fun t=>match Tryz.prog.underlying t with|some (.int k)=>some k|_=>none)))=true:=by kernel_rfl
theorem fact29:((Rows.topSaysUptoRow.pinned == Rows.topSaysUptoRow.pinnedBy))=true:=by kernel_rfl
theorem fact30:((Rows.topSaysUptoRow.veiled == (Tryz.f3.params.toList++Rows.topSaysSpec.plain.varTypes Tryz.prog++Tryz.f3.resultTypes.toList).any (Tryz.prog.veiledRec ·)))=true:=by kernel_rfl
theorem fact31:(Rows.topSaysUptoRow.veiledFits Tryz.prog Tryz.f3.params.toList (Tryz.f3.params.toList++Rows.topSaysSpec.plain.varTypes Tryz.prog++Tryz.f3.resultTypes.toList))=true:=by kernel_rfl
theorem closed:joinedFacts Tryz.prog 3 Tryz.f3 Rows.topSaysSpec Rows.topSaysUptoRow=true:=band (band (band (band (band (band (band (band (band (band (band (band (band (band (band (band (band (band (band (band (band (band (band (band (band (band (band (band (band (band (band (fact0) fact1) fact2) fact3) fact4) fact5) fact6) fact7) fact8) fact9) fact10) fact11) fact12) fact13) fact14) fact15) fact16) fact17) fact18) fact19) fact20) fact21) fact22) fact23) fact24) fact25) fact26) fact27) fact28) fact29) fact30) fact31
end Go.Proofs.YtpfmmbbggcghiaaGreatDoor.topSaysUpto
