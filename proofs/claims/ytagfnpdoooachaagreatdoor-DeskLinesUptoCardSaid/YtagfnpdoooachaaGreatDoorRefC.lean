/- desk.line at every line. -/
import Derived.Test.YtagfnpdoooachaaGreatDoorDskLa
import Derived.Test.YtagfnpdoooachaaGreatDoorDskLb
set_option linter.unusedSimpArgs false
set_option linter.unusedVariables false
set_option maxHeartbeats 6400000
set_option maxRecDepth 100000
namespace Go.Proofs.YtagfnpdoooachaaGreatDoor
open Go.RowKit
open Lib (hid)
theorem run_storeN {P:Program} (w:World) (a:Addr) (m:Mode):(store a .nilFunc m).run P w=stored P w a .nilFunc m:=run_store P w a _ m rfl
attribute [local go_sem] run_storeN
def NoForm (h:List UInt8):Prop:=h≠[107,105,110,100]∧h≠[110,117,109]∧h≠[115,104,111,114,116]∧h≠[119,101,101,107]∧h≠[99,104,97,105,110]∧h≠[115,97,121]
theorem formsF_none {h:List UInt8} (hn:NoForm h):formsF (str h)=none:=by
 obtain⟨n1,n2,n3,n4,n5,n6⟩:=hn;have e:∀ {a b:List UInt8},a≠b→¬ str a=str b:=fun hne h=>hne (by have:=congrArg bts h;rwa[bts_str,bts_str]at this)
 have e1:¬ str h=⟨#[107,105,110,100]⟩:=e (b:=[107,105,110,100]) n1;have e2:¬ str h=⟨#[110,117,109]⟩:=e (b:=[110,117,109]) n2;have e3:¬ str h=⟨#[115,104,111,114,116]⟩:=e (b:=[115,104,111,114,116]) n3;have e4:¬ str h=⟨#[119,101,101,107]⟩:=e (b:=[119,101,101,107]) n4;have e5:¬ str h=⟨#[99,104,97,105,110]⟩:=e (b:=[99,104,97,105,110]) n5;have e6:¬ str h=⟨#[115,97,121]⟩:=e (b:=[115,97,121]) n6;unfold formsF putV;rw[if_neg e6,if_neg e5,if_neg e4,if_neg e3,if_neg e2,if_neg e1]
theorem lineA_none {s:ByteArray} (h:NoForm (headB s)):lineA s=errName 9:=by
 obtain⟨n1,n2,n3,n4,n5,n6⟩:=h;unfold lineA;rw[if_neg n1,if_neg n2,if_neg n3,if_neg n4,if_neg n5,if_neg n6]
theorem deskLine_none (s:ByteArray) (w:World) (hs:s.size≤1000000000) (hv:EvV w) (hh:NoForm (headB s)):
 Calls Tryz.prog 9 #[.string s] w fun e w'=>e=.returned (.string (str (lineA s)))∧Below w.heap.size w w':=by
 have hmf:∀(fn:Fn) (first cap:Array Value) (w:World),(Instr.makeFunc fn first cap).run Tryz.prog w=.ok (.func fn first cap) w:=fun _ _ _ _=>rfl
 have HL:=hid (lineA_none hh);have HFo:=hid (formsF_none hh);have HV:Hid (∀ W,Below w.heap.size w W→EvV W):=hid fun W hW=>hv.below hW;have hhs:(str (headB s)).size≤maxLen:=by
  have h:=cut_lens s 32;rw[str_size];unfold headB maxLen;omega
 obtain⟨W1,eW1⟩:∃ W,W=w.alloc (.cells #[.string ⟨#[]⟩] 9):=⟨_,rfl⟩;have hb1:Below w.heap.size w W1:=by rw[eW1];exact(Below.refl _ _).alloc (Nat.le_refl _) _
 have hk1:Blk W1 w.heap.size 9 #[.string ⟨#[]⟩]:=by rw[eW1];exact Blk.new _ _ _
 have HB1:=hid hb1;have HK1:=hid hk1;have EW1:=hid eW1;have HC:Hid (∃ a x,Calls Tryz.prog 12 #[.string s,.string ⟨#[32]⟩] W1 fun e w'=>e=.returned (.tuple #[.string (str (headB s)),.string a,.bool x])∧Below W1.heap.size W1 w'):=hid ⟨_,_,cutB_any s 32 W1 (by omega) (HV.out W1 hb1).rv⟩
 generalize str (headB s)=hd at *;generalize lineA s=la at *;obtain⟨ra,rx,hc⟩:=HC.out;have HC1:=hid hc;have HZ:Hid (∀ W,(zeroValue 38).run Tryz.prog W=.ok (.agg #[.int .i64 0,.nilFunc]) W):=hid zero_form;have HSz:=hid hhs;clear hb1 hk1 eW1 hc HC hv hh hhs HV
 go_enter_defers Tryz.func9,Tryz.ntmps9
 go_upto_region 2 with fail
 rw[←EW1.out];clear EW1
 go_wp2_with fail
 refine HC1.out.mono ?_;clear HC1;rintro e w2 ⟨rfl,hb2⟩;have HB2:=hid (HB1.out.trans (hb2.mono HB1.out.size));have HK2:=hid (HK1.out.below hb2 HK1.out.lt);have HFm:=hid (forms_any w2);clear hb2 HB1 HK1
 go_wp2_with fail
 refine HFm.out.mono ?_;clear HFm;rintro e w3 ⟨bm,rfl,hbm,hown,hb3⟩;have hlk:=hown.look_ok (t:=34) (e:=38) Tryz.underlying34 (HZ.out w3) (k:=hd) HSz.out;rw[HFo.out]at hlk;obtain⟨W4,eW4⟩:∃ W,W=w3.alloc (.cells #[.int .i64 0,.nilFunc] 38):=⟨_,rfl⟩;have hB3:=HB2.out.trans (hb3.mono HB2.out.size);have hb4:Below w3.heap.size w3 W4:=by rw[eW4];exact(Below.refl _ _).alloc (Nat.le_refl _) _
 have HB4:=hid (hB3.trans (hb4.mono hB3.size));have hk4:=(HK2.out.below hb3 HK2.out.lt).below hb4 (HK2.out.below hb3 HK2.out.lt).lt;have hf4:Blk W4 w3.heap.size 38 #[.int .i64 0,.nilFunc]:=by rw[eW4];exact Blk.new _ _ _
 have HSp4:=hid (splitN0_any s 32 W4);have HK4:=hid hk4;have EW4:=hid eW4;have d0:=(hf4.cell 0).trans (show _=some (.int .i64 0)from rfl);have k0:=(hk4.cell 0).trans (show _=some (.string ⟨#[]⟩)from rfl);have g0:=hk4.frozen 0;have HE:=hid (errText_any 9 W4);clear hbm hown hb3 hB3 hb4 hk4 hf4 eW4 HB2 HK2 HZ HFo hs
 go_upto_region 5 with fail
 rw[←EW4.out];clear EW4 hlk
 go_wp2_with fail
 refine HSp4.out.mono ?_;clear HSp4;rintro e w5 ⟨rfl,rfl⟩
 go_wp2_with fail
 refine HE.out.mono ?_;clear HE;rintro e w6 ⟨rfl,rfl⟩;have HX:Hid (Below w.heap.size w (w6.setCell ⟨w.heap.size,0,none⟩ (.string (str (errName 9))))∧Blk (w6.setCell ⟨w.heap.size,0,none⟩ (.string (str (errName 9)))) w.heap.size 9 #[.string (str (errName 9))]):=hid ⟨HB4.out.setCell (p:=⟨w.heap.size,0,none⟩) (Nat.le_refl _) _,HK4.out.set_ 0 _⟩
 go_wp2_with fail
 exact line_told w.heap.size _ _ (str (errName 9)) _ rfl HX.out.2 ⟨by rw[HL.out],HX.out.1⟩
theorem deskLine_any (s:ByteArray) (w:World) (hs:s.size≤1000000000) (hv:EvV w) (hA:AheadV w):
 Calls Tryz.prog 9 #[.string s] w fun e w'=>e=.returned (.string (str (lineA s)))∧Below w.heap.size w w':=by
 by_cases h1:headB s=[107,105,110,100]
 ·exact deskLine_kind s w hs hv hA h1
 ·by_cases h2:headB s=[110,117,109]
  ·exact deskLine_num s w hs hv hA h2
  ·by_cases h3:headB s=[115,104,111,114,116]
   ·exact deskLine_short s w hs hv hA h3
   ·by_cases h4:headB s=[119,101,101,107]
    ·exact deskLine_week s w hs hv hA h4
    ·by_cases h5:headB s=[99,104,97,105,110]
     ·exact deskLine_chain s w hs hv hA h5
     ·by_cases h6:headB s=[115,97,121]
      ·exact deskLine_say s w hs hv hA h6
      ·exact deskLine_none s w hs hv ⟨h1,h2,h3,h4,h5,h6⟩
theorem cut1_hit (c:UInt8) (l:List UInt8):cut1 c (c::l)=[]::cut1 c l:=by rw[cut1,if_pos rfl]
theorem cut1_miss {c x:UInt8} (h:¬ x=c) (l:List UInt8):cut1 c (x::l)=(x::(cut1 c l).headD [])::(cut1 c l).tail:=by rw[cut1,if_neg h]
theorem cut1_app (c:UInt8):∀(a b:List UInt8),cut1 c (a++c::b)=cut1 c a++cut1 c b
 | [],b=>cut1_hit c b
 | x::a,b=>by
   have ih:=cut1_app c a b;show cut1 c (x::(a++c::b))=_
   by_cases h:x=c
   ·subst h;rw[cut1_hit,cut1_hit,ih]
    rfl
   ·rw[cut1_miss h,cut1_miss h,ih];have hne:=cut1_ne c a;cases he:cut1 c a with
    | nil=>exact absurd he hne
    | cons y ys=>rfl
def dropE (l:List (List UInt8)):List (List UInt8):=if l.getD (l.length - 1) []=[]then l.take (l.length - 1)else l
theorem dropE_app (a b:List (List UInt8)) (hb:b≠[]):dropE (a++b)=a++dropE b:=by
 have hl:0 < b.length:=List.length_pos_iff.2 hb;unfold dropE;have e1:(a++b).length - 1=a.length+(b.length - 1):=by rw[List.length_append];omega
 have e2:(a++b).getD ((a++b).length - 1) []=b.getD (b.length - 1) []:=by
  rw[e1,List.getD_eq_getElem?_getD,List.getD_eq_getElem?_getD,List.getElem?_append_right (by omega),Nat.add_sub_cancel_left]
 rw[e2];split
 ·rw[e1,List.take_append,List.take_of_length_le (by omega),Nat.add_sub_cancel_left]
 ·rfl
theorem linesB_eq (s:ByteArray):linesB s=(dropE (cut1 10 (bts s))).map str:=by
 unfold linesB dropE at_;rw[splitS_one];have hl:((cut1 10 (bts s)).map str).length=(cut1 10 (bts s)).length:=List.length_map _;have hp:0 < (cut1 10 (bts s)).length:=List.length_pos_iff.2 (cut1_ne 10 _);have e:(((cut1 10 (bts s)).map str).getD (((cut1 10 (bts s)).map str).length - 1) ByteArray.empty=ByteArray.empty)↔((cut1 10 (bts s)).getD ((cut1 10 (bts s)).length - 1) []=[]):=by
  rw[hl,List.getD_eq_getElem?_getD,List.getD_eq_getElem?_getD,List.getElem?_map];have hx:(cut1 10 (bts s)).length - 1 < (cut1 10 (bts s)).length:=by omega
  rw[List.getElem?_eq_getElem hx];show str _=ByteArray.empty↔_=[]
  constructor
  ·intro h;have:=congrArg bts h;exact this
  ·intro h;have h:(cut1 10 (bts s))[(cut1 10 (bts s)).length - 1]=[]:=h;rw[h]
   rfl
 by_cases h:(cut1 10 (bts s)).getD ((cut1 10 (bts s)).length - 1) []=[]
 ·rw[if_pos h];show(if _ then _ else _)=_
  rw[if_pos (e.2 h),hl,List.map_take]
 ·rw[if_neg h];show(if _ then _ else _)=_
  rw[if_neg fun k=>h (e.1 k)]
theorem lines_app {s t:ByteArray} (h:bts s=[]∨∃ a,bts s=a++[10]):linesB (str (bts s++bts t))=linesB s++linesB t:=by
 rw[linesB_eq,linesB_eq,linesB_eq,bts_str,←List.map_append]
 congr 1
 rcases h with h|⟨a,h⟩
 ·rw[h]
  rfl
 ·rw[h];have e1:a++[10]++bts t=a++10::bts t:=by simp
  rw[e1,cut1_app,dropE_app _ _ (cut1_ne 10 _)];have e2:cut1 10 (a++[10])=cut1 10 a++[[]]:=cut1_app 10 a [];rw[e2,dropE_app _ _ (by simp)]
  have e3:dropE [([]:List UInt8)]=[]:=rfl;rw[e3,List.append_nil]
theorem lines_len (s:ByteArray):(linesB s).length≤(splitS s ⟨#[10]⟩).length:=by
 rw[linesB_eq,splitS_one,List.length_map,List.length_map];unfold dropE;split
 ·rw[List.length_take];omega
 ·exact Nat.le_refl _
theorem run_app {s t:ByteArray} (h:bts s=[]∨∃ a,bts s=a++[10]) (hn:(splitS s ⟨#[10]⟩).length+(splitS t ⟨#[10]⟩).length≤100):runA (str (bts s++bts t))=runA s++runA t:=by
 have h1:=lines_len s;have h2:=lines_len t;unfold runA;rw[lines_app h,if_neg (by rw[List.length_append];omega),if_neg (by omega),if_neg (by omega),List.map_append]
theorem run_fact:runA ⟨#[107,105,110,100,32,101,110,32,49,10,110,117,109,32,49,50,51,52,46,53]⟩=[⟨#[111,110,101]⟩,⟨#[49,44,50,51,52,46,53]⟩]:=by decide +kernel
theorem ListOk.ofCells {w:World} {lo hi b o c:Nat} {l:List ByteArray} (h1:lo≤b) (h2:b < hi) (hc:l.length≤c) (h:∀ j (hj:j < l.length),w.cell? ⟨b,o+j,none⟩=some (.string l[j])):ListOk Enc.str w lo hi (.slice (some ⟨b,o,none⟩) l.length c) l:=
 ⟨_,c,rfl,hc,fun i hi=>⟨b,o,[.string l[i]],rfl,h1,h2,(fun j v hj=>by
   cases j with
   | zero=>
     injection hj with hj;subst hj;have e:o+i*Enc.str.sz+0=o+i:=by show o+i*1+0=_;omega
     rw[e];exact h i hi
   | succ j=>cases hj),rfl⟩⟩
theorem split_any (s:ByteArray) (c:UInt8) (w:World) (hs:s.size≤1000000000) (hv:RV w):
 Calls Tryz.prog 7 #[.string s,.string ⟨#[c]⟩] w fun e w'=>e=.returned (.slice (some ⟨w.heap.size,0,none⟩) (splitS s ⟨#[c]⟩).length (splitS s ⟨#[c]⟩).length)∧w'=w.alloc (.cells ((splitS s ⟨#[c]⟩).map Value.string).toArray 9):=by
 obtain⟨m,hm⟩:=hv.max;have hlen:(splitS s ⟨#[c]⟩).length=Lib.countB s ⟨#[c]⟩+1:=Lib.splitB_all ⟨#[c]⟩ (Nat.le_refl 1) 0 _ s rfl;rw[hlen];exact Tryz.strings_Split s ⟨#[c]⟩ m w (by omega) hm (Nat.le_refl 1)
theorem linesB_full {s:ByteArray} (h:¬ at_ (splitS s ⟨#[10]⟩) ((splitS s ⟨#[10]⟩).length - 1)=ByteArray.empty):linesB s=splitS s ⟨#[10]⟩:=if_neg h
theorem linesB_cut {s:ByteArray} (h:at_ (splitS s ⟨#[10]⟩) ((splitS s ⟨#[10]⟩).length - 1)=ByteArray.empty):linesB s=(splitS s ⟨#[10]⟩).take ((splitS s ⟨#[10]⟩).length - 1):=if_pos h
theorem run_any (s:ByteArray) (w:World) (hs:s.size≤1000000000) (hv:EvV w) (hA:AheadV w):
 Calls Tryz.prog 5 #[.string s] w fun e w'=>∃ v,e=.returned v∧ListOk Enc.str w' w.heap.size w'.heap.size v (runA s)∧Below w.heap.size w w':=by
 have HSp:=hid (split_any s 10 w hs hv.rv);have HV:Hid (∀ W,Below w.heap.size w W→EvV W∧AheadV W):=hid fun W hW=>⟨hv.below hW,hA.below hW⟩;have HSz:Hid (∀ x∈splitS s ⟨#[10]⟩,x.size≤s.size):=hid fun x hx=>pieces_size _ _ _ _ x hx;have HRun:Hid (runA s=if 100 < (linesB s).length then [str (errName 4)]else(linesB s).map fun x=>str (lineA x)):=hid rfl
 have HFull:Hid (¬ at_ (splitS s ⟨#[10]⟩) ((splitS s ⟨#[10]⟩).length - 1)=ByteArray.empty→linesB s=splitS s ⟨#[10]⟩):=hid linesB_full;have HCut:Hid (at_ (splitS s ⟨#[10]⟩) ((splitS s ⟨#[10]⟩).length - 1)=ByteArray.empty→linesB s=(splitS s ⟨#[10]⟩).take ((splitS s ⟨#[10]⟩).length - 1)):=hid linesB_cut;have hpos:0 < (splitS s ⟨#[10]⟩).length:=by
  rw[splitS_one,List.length_map];exact List.length_pos_iff.2 (cut1_ne 10 _)
 have hlb:(splitS s ⟨#[10]⟩).length≤s.size+1:=by
  have h1:(splitS s ⟨#[10]⟩).length=Lib.countB s ⟨#[10]⟩+1:=Lib.splitB_all ⟨#[10]⟩ (Nat.le_refl 1) 0 _ s rfl;have h2:=Lib.countB_le ⟨#[10]⟩ (Nat.le_refl 1) s.size s (Nat.le_refl _);omega
 generalize splitS s ⟨#[10]⟩=l at *;generalize runA s=ra at *;obtain⟨k,hk⟩:∃ k,l.length=k+1:=⟨l.length - 1,by omega⟩
 have hkl:k < l.length:=by omega
 have hat:at_ l (l.length - 1)=l[k]:=by
  rw[hk,Nat.add_sub_cancel];unfold at_;rw[List.getD_eq_getElem?_getD,List.getElem?_eq_getElem hkl]
  rfl
 rw[hat]at HFull HCut;obtain⟨W1,eW1⟩:∃ W,W=w.alloc (.cells (l.map Value.string).toArray 9):=⟨_,rfl⟩;have hb1:Below w.heap.size w W1:=by rw[eW1];exact(Below.refl _ _).alloc (Nat.le_refl _) _
 have hr1:Blk W1 w.heap.size 9 (l.map Value.string).toArray:=by rw[eW1];exact Blk.new _ _ _
 have hcell:∀ j (hj:j < l.length),(l.map Value.string).toArray[j]? =some (.string l[j]):=fun j hj=>by
  rw[List.getElem?_toArray,List.getElem?_map,List.getElem?_eq_getElem hj];rfl
 have HCl:Hid (∀ W,Below W1.heap.size W1 W→∀ j (hj:j < l.length),W.cell? ⟨w.heap.size,j,none⟩=some (.string l[j])):=hid fun W hW j hj=>((hr1.below hW hr1.lt).cell j).trans (hcell j hj);have x0:=HCl.out W1 (Below.refl _ _) k hkl;have HB1:=hid hb1;have HLt:Hid (w.heap.size < W1.heap.size):=hid hr1.lt;have EW1:=hid eW1;have k0:(0:Int)≤(k:Int):=Int.natCast_nonneg k;have k1:(k:Int) < (k:Int)+1:=by omega
 have kb:k≤1000000001:=by omega
 clear hb1 hr1 hcell eW1 hv hA hat;generalize hx:l[k]=x at*
 go_enter Tryz.func5,Tryz.ntmps5
 go_wp2_with fail
 refine HSp.out.mono ?_;clear HSp;rintro e w1 ⟨rfl,hw1⟩;rw[←EW1.out]at hw1;subst hw1;rw[hk];clear EW1;have hw64:wrap64 ((k:Int)+1 - 1)=(k:Int):=by unfold wrap64;omega
 by_cases hxe:x=ByteArray.empty
 ·have hcutL:=HCut.out hxe;rw[hk,Nat.add_sub_cancel]at hcutL;generalize linesB s=L at *;have hLk:L.length=k:=by rw[hcutL,List.length_take,hk];omega
  subst hxe;have hx0:(ByteArray.empty.toList == (⟨#[]⟩:ByteArray).toList)=true:=(eqs_iff _ _).2 rfl;have HFL:=hid hcutL;clear hcutL
  go_upto_region 4 with fail
  rw[←hLk];have HM:Hid (∀ j (hj:j < L.length),∃ h:j < l.length,l[j]=L[j]):=hid (fun j hj=>⟨by omega,by rw[List.getElem_of_eq HFL.out hj,List.getElem_take]⟩)
  clear HFull HCut x0
  by_cases hbig:100 < L.length
  ·have HR:Hid (ra=[str (errName 4)]):=hid (by rw[HRun.out,if_pos hbig])
   have hbi:(100:Int) < (L.length:Int):=by omega
   have HE:=hid (errText_any 4 w1);clear HRun
   go_wp2_with fail
   refine HE.out.mono ?_;clear HE;rintro e w2 ⟨rfl,rfl⟩
   go_wp2_with fail
   go_ret
   refine⟨_,rfl,?_,HB1.out.alloc (Nat.le_of_lt HLt.out) _⟩;rw[HR.out];exact ListOk.ofCells (l:=[str (errName 4)]) (o:=0) (c:=1) (Nat.le_of_lt HLt.out) (by simp) (Nat.le_refl _) fun j hj=>by
    obtain rfl:j=0:=by simpa using hj
    exact((Blk.new w2 9 #[.string (str (errName 4))]).cell 0).trans rfl
  ·have HR:Hid (ra=L.map fun x=>str (lineA x)):=hid (by rw[HRun.out,if_neg hbig])
   have hbi:¬(100:Int) < (L.length:Int):=by omega
   have hll:L.length≤100:=by omega
   clear HRun hbig;obtain⟨wo,rfl⟩:∃ wo:World,wo=w1:=⟨_,rfl⟩
   go_wp2_with fail
   go_loopw [4,6,28] (fun o _ i wr=>∃ j:Nat,j≤L.length∧i=.int .i64 (j:Int)∧wr.ownsRow wo.heap.size 9 1 o j (((L.take j).map fun x=>str (lineA x)).map .string)∧Below wo.heap.size wo wr) (fun _ _ i _=>L.length - (intOf i).toNat)
   case atStart=>exact⟨0,Nat.zero_le _,rfl,own_nil,Below.refl _ _⟩
   case round=>
    obtain⟨j,hj,rfl,hown,hb⟩:=hrel;obtain⟨B,cc,rfl,_⟩:=own_slice hown;have hbs:=hb.size;have HO:=hid hown;have HB:=hid hb;clear hown hb
    by_cases hlt:j < L.length
    ·obtain⟨hjl,hje⟩:=HM.out j hlt;have y0:=HCl.out wr HB.out j hjl;have hzj:l[j].size≤1000000000:=Nat.le_trans (HSz.out _ (List.getElem_mem hjl)) hs;have hwr:Below w.heap.size w wr:=HB1.out.trans (HB.out.mono (Nat.le_of_lt HLt.out));have HLn:=hid (deskLine_any l[j] wr hzj (HV.out wr hwr).1 (HV.out wr hwr).2);rw[hje]at HLn y0;have htk:Hid (((L.take (j+1)).map fun x=>str (lineA x))=((L.take j).map fun x=>str (lineA x))++[str (lineA L[j])]):=hid (by rw[List.take_add_one,List.getElem?_eq_getElem hlt,List.map_append];rfl)
     generalize str (lineA L[j])=X at *;generalize L[j]=z at *;clear hje hzj hwr
     go_wp2_with fail
     refine HLn.out.mono ?_;clear HLn y0;rintro e w2 ⟨rfl,hb2⟩;have HB2:=hid hb2;have hs2:=hb2.size;have HO2:=hid (own_below HO.out hb2 (Nat.le_refl _));have hnX:∀ q u,([Value.string X]:List Value)[q]? =some u→(w2.alloc (.cells #[.string X] 9)).cell? ⟨w2.heap.size,0+q,none⟩=some u:=fun q u hq=>by
      rw[Nat.zero_add,(Blk.new w2 9 #[.string X]).cell q];simpa using hq
     have hoX:=own_keep (w':=w2.alloc (.cells #[.string X] 9)) HO2.out (fun g _ hg=>Below.heap_alloc _ _ _ hg);have HnX:=hid hnX;have HoX:=hid hoX;clear hnX hoX HO HO2 hb2
     go_wp2_with (at_builtin;refine wpList_append_any rfl _ _ 23 rfl wo.heap.size 9 Tryz.underlying23 info_string rfl (by decide) (((L.take j).map fun x=>str (lineA x)).map .string) rfl HoX.out [.string X] rfl rfl (.inr ⟨_,_,rfl,HnX.out⟩) (by simp[Value.oneCell']) (by unfold maxLen;omega) (by omega) (by simp;omega) ?_)
     intro v3 w3 hown3 hgrow3 _;have HO3:Hid (w3.ownsRow wo.heap.size 9 1 v3 (j+1) (((L.take (j+1)).map fun x=>str (lineA x)).map .string)):=hid (by rw[htk.out];simpa using hown3)
     have HB4:=hid (((HB.out.trans (HB2.out.mono hbs)).alloc (by omega) _).grown hgrow3 (by simp;omega) (fun k hk=>(own_lt HoX.out hk).1))
     clear hown3 hgrow3 HnX HoX htk HB2
     go_wp2_with fail
     go_roundw
     case rel=>exact⟨j+1,by omega,by go_num,HO3.out,HB4.out⟩
     case measure=>simp[intOf];omega
    ·obtain rfl:j=L.length:=by omega
     have hown:=HO.out;rw[List.take_length]at hown;have HF:Hid (ListOk Enc.str wr w.heap.size wr.heap.size (.slice B L.length cc) ra∧Below w.heap.size w wr):=hid ⟨by
      rw[HR.out];have hlm:(L.map fun x=>str (lineA x)).length=L.length:=List.length_map _;exact ListOk.strs_of_own (by rw[hlm];exact hown) (Nat.le_of_lt HLt.out) (Nat.le_refl _),HB1.out.trans (HB.out.mono (Nat.le_of_lt HLt.out))⟩
     clear hown HO HR
     go_wp2_with fail
     go_ret
     exact⟨_,rfl,HF.out.1,HF.out.2⟩
 ·have hfullL:=HFull.out hxe;generalize linesB s=L at *;have hLk:L.length=k+1:=by rw[hfullL];exact hk
  have hx0:(x.toList == (⟨#[]⟩:ByteArray).toList)=false:=by
   cases he:(x.toList == (⟨#[]⟩:ByteArray).toList)with
   | false=>rfl
   | true=>
     have h1:eqs x ⟨#[]⟩=true:=he;have h2:=(eqs_iff _ _).1 h1;exact absurd h2 hxe
  have e0:(⟨#[]⟩:ByteArray).toList=[]:=by rw[ByteArray.toList_eq]
  have hx1:x.toList.isEmpty=false:=by
   cases hq:x.toList with
   | nil=>rw[hq,e0]at hx0;exact absurd hx0 (by decide)
   | cons a b=>rfl
  have hxs:¬ x.size=0:=fun h=>hxe (by
   apply bts_inj;have:(bts x).length=0:=by rw[bts_len];exact h
   rw[List.length_eq_zero_iff.1 this];rfl)
  have HFL:=hid hfullL;clear hfullL e0
  go_upto_region 4 with fail
  rw[←hLk];have HM:Hid (∀ j (hj:j < L.length),∃ h:j < l.length,l[j]=L[j]):=hid (fun j hj=>⟨by omega,by rw[List.getElem_of_eq HFL.out hj]⟩)
  clear HFull HCut x0
  by_cases hbig:100 < L.length
  ·have HR:Hid (ra=[str (errName 4)]):=hid (by rw[HRun.out,if_pos hbig])
   have hbi:(100:Int) < (L.length:Int):=by omega
   have HE:=hid (errText_any 4 w1);clear HRun
   go_wp2_with fail
   refine HE.out.mono ?_;clear HE;rintro e w2 ⟨rfl,rfl⟩
   go_wp2_with fail
   go_ret
   refine⟨_,rfl,?_,HB1.out.alloc (Nat.le_of_lt HLt.out) _⟩;rw[HR.out];exact ListOk.ofCells (l:=[str (errName 4)]) (o:=0) (c:=1) (Nat.le_of_lt HLt.out) (by simp) (Nat.le_refl _) fun j hj=>by
    obtain rfl:j=0:=by simpa using hj
    exact((Blk.new w2 9 #[.string (str (errName 4))]).cell 0).trans rfl
  ·have HR:Hid (ra=L.map fun x=>str (lineA x)):=hid (by rw[HRun.out,if_neg hbig])
   have hbi:¬(100:Int) < (L.length:Int):=by omega
   have hll:L.length≤100:=by omega
   clear HRun hbig;obtain⟨wo,rfl⟩:∃ wo:World,wo=w1:=⟨_,rfl⟩
   go_wp2_with fail
   go_loopw [4,6,28] (fun o _ i wr=>∃ j:Nat,j≤L.length∧i=.int .i64 (j:Int)∧wr.ownsRow wo.heap.size 9 1 o j (((L.take j).map fun x=>str (lineA x)).map .string)∧Below wo.heap.size wo wr) (fun _ _ i _=>L.length - (intOf i).toNat)
   case atStart=>exact⟨0,Nat.zero_le _,rfl,own_nil,Below.refl _ _⟩
   case round=>
    obtain⟨j,hj,rfl,hown,hb⟩:=hrel;obtain⟨B,cc,rfl,_⟩:=own_slice hown;have hbs:=hb.size;have HO:=hid hown;have HB:=hid hb;clear hown hb
    by_cases hlt:j < L.length
    ·obtain⟨hjl,hje⟩:=HM.out j hlt;have y0:=HCl.out wr HB.out j hjl;have hzj:l[j].size≤1000000000:=Nat.le_trans (HSz.out _ (List.getElem_mem hjl)) hs;have hwr:Below w.heap.size w wr:=HB1.out.trans (HB.out.mono (Nat.le_of_lt HLt.out));have HLn:=hid (deskLine_any l[j] wr hzj (HV.out wr hwr).1 (HV.out wr hwr).2);rw[hje]at HLn y0;have htk:Hid (((L.take (j+1)).map fun x=>str (lineA x))=((L.take j).map fun x=>str (lineA x))++[str (lineA L[j])]):=hid (by rw[List.take_add_one,List.getElem?_eq_getElem hlt,List.map_append];rfl)
     generalize str (lineA L[j])=X at *;generalize L[j]=z at *;clear hje hzj hwr
     go_wp2_with fail
     refine HLn.out.mono ?_;clear HLn y0;rintro e w2 ⟨rfl,hb2⟩;have HB2:=hid hb2;have hs2:=hb2.size;have HO2:=hid (own_below HO.out hb2 (Nat.le_refl _));have hnX:∀ q u,([Value.string X]:List Value)[q]? =some u→(w2.alloc (.cells #[.string X] 9)).cell? ⟨w2.heap.size,0+q,none⟩=some u:=fun q u hq=>by
      rw[Nat.zero_add,(Blk.new w2 9 #[.string X]).cell q];simpa using hq
     have hoX:=own_keep (w':=w2.alloc (.cells #[.string X] 9)) HO2.out (fun g _ hg=>Below.heap_alloc _ _ _ hg);have HnX:=hid hnX;have HoX:=hid hoX;clear hnX hoX HO HO2 hb2
     go_wp2_with (at_builtin;refine wpList_append_any rfl _ _ 23 rfl wo.heap.size 9 Tryz.underlying23 info_string rfl (by decide) (((L.take j).map fun x=>str (lineA x)).map .string) rfl HoX.out [.string X] rfl rfl (.inr ⟨_,_,rfl,HnX.out⟩) (by simp[Value.oneCell']) (by unfold maxLen;omega) (by omega) (by simp;omega) ?_)
     intro v3 w3 hown3 hgrow3 _;have HO3:Hid (w3.ownsRow wo.heap.size 9 1 v3 (j+1) (((L.take (j+1)).map fun x=>str (lineA x)).map .string)):=hid (by rw[htk.out];simpa using hown3)
     have HB4:=hid (((HB.out.trans (HB2.out.mono hbs)).alloc (by omega) _).grown hgrow3 (by simp;omega) (fun k hk=>(own_lt HoX.out hk).1))
     clear hown3 hgrow3 HnX HoX htk HB2
     go_wp2_with fail
     go_roundw
     case rel=>exact⟨j+1,by omega,by go_num,HO3.out,HB4.out⟩
     case measure=>simp[intOf];omega
    ·obtain rfl:j=L.length:=by omega
     have hown:=HO.out;rw[List.take_length]at hown;have HF:Hid (ListOk Enc.str wr w.heap.size wr.heap.size (.slice B L.length cc) ra∧Below w.heap.size w wr):=hid ⟨by
      rw[HR.out];have hlm:(L.map fun x=>str (lineA x)).length=L.length:=List.length_map _;exact ListOk.strs_of_own (by rw[hlm];exact hown) (Nat.le_of_lt HLt.out) (Nat.le_refl _),HB1.out.trans (HB.out.mono (Nat.le_of_lt HLt.out))⟩
     clear hown HO HR
     go_wp2_with fail
     go_ret
     exact⟨_,rfl,HF.out.1,HF.out.2⟩
theorem cut1_noc (c:UInt8):∀ l:List UInt8,(∀ b∈l,b≠c)→cut1 c l=[l]
 | [],_=>rfl
 | b::l,h=>by
   unfold cut1;rw[if_neg (h b List.mem_cons_self),cut1_noc c l fun x hx=>h x (List.mem_cons_of_mem _ hx)]
   rfl
theorem cut1_at (c:UInt8) (r:List UInt8):∀ l:List UInt8,(∀ b∈l,b≠c)→cut1 c (l++c::r)=l::cut1 c r
 | [],_=>by rw[List.nil_append,cut1,if_pos rfl]
 | b::l,h=>by
   rw[List.cons_append,cut1,if_neg (h b List.mem_cons_self),cut1_at c r l fun x hx=>h x (List.mem_cons_of_mem _ hx)]
   rfl
theorem mem_mid {s:ByteArray} {f j:Nat} {c:UInt8} (hno:∀ q (h:q < s.size),f≤q→q < j→s[q]≠c):∀ b∈((bts s).take j).drop f,b≠c:=by
 intro b hb;obtain⟨i,hi,rfl⟩:=List.getElem_of_mem hb;rw[List.length_drop,List.length_take,bts_len]at hi;rw[List.getElem_drop,List.getElem_take,bts_get s (f+i) (by omega)]
 exact hno _ _ (by omega) (by omega)
theorem cut_step (s:ByteArray) (c:UInt8) (f j:Nat) (hf:f≤j) (hj:j < s.size) (hno:∀ q (h:q < s.size),f≤q→q < j→s[q]≠c) (h:s[j]=c):
 (cut1 c ((bts s).drop f)).map str=s.extract f j::(cut1 c ((bts s).drop (j+1))).map str:=by
 have hj':j < (bts s).length:=by rw[bts_len];exact hj
 have e:(bts s).drop f=((bts s).take j).drop f++c::(bts s).drop (j+1):=by
  have h1:bts s=(bts s).take j++(c::(bts s).drop (j+1)):=by
   rw[←h,←bts_get s j hj,List.getElem_cons_drop,List.take_append_drop]
  have h2:f - ((bts s).take j).length=0:=by rw[List.length_take];omega
  calc (bts s).drop f=((bts s).take j++(c::(bts s).drop (j+1))).drop f:=by rw[←h1]
   _=_:=by rw[List.drop_append,h2];rfl
 rw[e,cut1_at c _ _ (mem_mid hno),List.map_cons]
 congr 1
 apply bts_inj;rw[bts_str,bts_extract]
theorem cut_end (s:ByteArray) (c:UInt8) (f:Nat) (hno:∀ q (h:q < s.size),f≤q→q < s.size→s[q]≠c):
 (cut1 c ((bts s).drop f)).map str=[s.extract f s.size]:=by
 have e:(bts s).drop f=((bts s).take s.size).drop f:=by rw[List.take_of_length_le (by rw[bts_len];omega)]
 rw[e,cut1_noc c _ (mem_mid hno)];show [str _]=_
 congr 1
 apply bts_inj;rw[bts_str,bts_extract]
theorem one_at (s:ByteArray) (c:UInt8) (j:Nat) (hj:j < s.size):((s.extract j (j+1)).toList == (⟨#[c]⟩:ByteArray).toList)=(s[j] == c):=by
 have h1:(s.extract j (j+1)).toList=[s[j]]:=by
  rw[ByteArray.toList_eq];show bts _=_;have hj':j < (bts s).length:=by rw[bts_len];exact hj
  rw[bts_extract,List.take_add_one,List.getElem?_eq_getElem hj',bts_get s j hj,List.drop_append_of_le_length (by rw[List.length_take];omega),List.drop_of_length_le (by rw[List.length_take];omega)]
  rfl
 have h2:(⟨#[c]⟩:ByteArray).toList=[c]:=by rw[ByteArray.toList_eq]
 rw[h1,h2];simp
theorem one_news (w:World) (X:ByteArray) (t:TypeId):∀ q u,([Value.string X]:List Value)[q]? =some u→(w.alloc (.cells #[.string X] t)).cell? ⟨w.heap.size,0+q,none⟩=some u:=fun q u hq=>by
 rw[Nat.zero_add,(Blk.new w t #[.string X]).cell q];simpa using hq
theorem own_lt' {w:World} {base:Nat} {e:TypeId} {size:Nat} {v:Value} {n:Nat} {xs:List Value} (h:w.ownsRow base e size v n xs):∀ k,v.ownBlock=some k→base≤k:=fun _ hk=>(own_lt h hk).1
theorem refCut_any (s:ByteArray) (c:UInt8) (w:World) (hs:s.size≤4294967296):
 Calls Tryz.prog 6 #[.string s,.string ⟨#[c]⟩] w fun e w'=>∃ v,e=.returned v∧w'.ownsRow w.heap.size 9 1 v (splitS s ⟨#[c]⟩).length ((splitS s ⟨#[c]⟩).map .string)∧(splitS s ⟨#[c]⟩).length≤s.size+1∧Below w.heap.size w w':=by
 have HSp:=hid (splitS_one s c);generalize splitS s ⟨#[c]⟩=L at HSp ⊢;have hp:(⟨#[c]⟩:ByteArray).size=1:=rfl;have HOne:=hid (one_at s c);generalize ep:(⟨#[c]⟩:ByteArray)=p at *;clear ep
 go_enter Tryz.func6,Tryz.ntmps6
 go_wp2_with fail
 go_loopw [5,6,7] (fun o f i wr=>∃(j g:Nat) (R:List ByteArray),g≤j∧j≤s.size∧i=.int .i64 j∧f=.int .i64 g∧R.length≤g∧L=R++(cut1 c ((bts s).drop g)).map str∧(∀ q (h:q < s.size),g≤q→q < j→s[q]≠c)∧wr.ownsRow w.heap.size 9 1 o R.length (R.map .string)∧Below w.heap.size w wr) (fun _ _ i _=>s.size - (intOf i).toNat)
 case atStart=>exact⟨0,0,[],Nat.le_refl _,Nat.zero_le _,rfl,rfl,Nat.le_refl _,by rw[HSp.out];rfl,fun _ _ _ h=>absurd h (by omega),own_nil,Below.refl _ _⟩
 case round=>
  obtain⟨j,g,R,hgj,hj,rfl,rfl,hRg,hL,hno,hown,hb⟩:=hrel;have HL:=hid hL;have HNo:=hid hno;have HO:=hid hown;have HB:=hid hb;have hbs:=hb.size;obtain⟨B,cc,rfl,_⟩:=own_slice hown;clear hL hno hown hb
  by_cases hlt:j < s.size
  ·have H1:=HOne.out j hlt;have HSt:=hid (cut_step s c g j hgj hlt HNo.out);have HNx:Hid (s[j]≠c→∀ q (h:q < s.size),g≤q→q < j+1→s[q]≠c):=hid fun h0 q hq h1 h2=>by
    rcases Nat.lt_or_eq_of_le (Nat.le_of_lt_succ h2)with h|h
    ·exact HNo.out q hq h1 h
    ·subst h;exact h0
   by_cases hc:s[j]=c
   ·have HSt':=hid (HSt.out hc);have hq:((s.extract j (j+1)).toList == p.toList)=true:=by rw[H1];simp[hc]
    clear HSt HNx H1 hc
    go_wp2_with (at_builtin;refine wpList_append_any rfl _ _ 23 rfl w.heap.size 9 Tryz.underlying23 info_string rfl (by decide) (R.map .string) rfl (HO.out.alloc _) [.string (s.extract g j)] rfl rfl (.inr ⟨_,_,rfl,one_news _ _ _⟩) (by simp[Value.oneCell']) (by unfold maxLen;omega) (by omega) (by simp;omega) ?_)
    intro v3 w3 hown3 hgrow3 _;have HO3:Hid (w3.ownsRow w.heap.size 9 1 v3 (R++[s.extract g j]).length ((R++[s.extract g j]).map .string)):=hid (by simpa using hown3)
    have HB3:=hid ((HB.out.alloc (by omega) _).grown hgrow3 (by simp;omega) (own_lt' HO.out))
    clear hown3 hgrow3
    go_wp2_with fail
    go_roundw
    case rel=>exact⟨j+1,j+1,R++[s.extract g j],Nat.le_refl _,by omega,by go_num,by go_num,by simp;omega,by rw[HL.out,HSt'.out,List.append_assoc];rfl,fun q hq h1 h2=>by omega,HO3.out,HB3.out⟩
    case measure=>simp[intOf];omega
   ·have HNx':=hid (HNx.out hc);have hq:((s.extract j (j+1)).toList == p.toList)=false:=by rw[H1];simp[hc]
    clear HSt HNx H1 hc
    go_wp2_with fail
    go_roundw
    case rel=>exact⟨j+1,g,R,by omega,by omega,by go_num,rfl,hRg,HL.out,HNx'.out,HO.out,HB.out⟩
    case measure=>simp[intOf];omega
  ·obtain rfl:j=s.size:=by omega
   have HE:=hid (cut_end s c g HNo.out)
   go_wp2_with (at_builtin;refine wpList_append_any rfl _ _ 23 rfl w.heap.size 9 Tryz.underlying23 info_string rfl (by decide) (R.map .string) rfl (HO.out.alloc _) [.string (s.extract g s.size)] rfl rfl (.inr ⟨_,_,rfl,one_news _ _ _⟩) (by simp[Value.oneCell']) (by unfold maxLen;omega) (by omega) (by simp;omega) ?_)
   intro v3 w3 hown3 hgrow3 _;have HO3:Hid (w3.ownsRow w.heap.size 9 1 v3 (R++[s.extract g s.size]).length ((R++[s.extract g s.size]).map .string)):=hid (by simpa using hown3)
   have HB3:=hid ((HB.out.alloc (by omega) _).grown hgrow3 (by simp;omega) (own_lt' HO.out))
   clear hown3 hgrow3
   go_wp2_with fail
   go_ret
   have hLe:L=R++[s.extract g s.size]:=by rw[HL.out,HE.out]
   refine⟨_,rfl,?_,?_,HB3.out⟩
   ·rw[hLe];exact HO3.out
   ·rw[hLe];simp;omega
end Go.Proofs.YtagfnpdoooachaaGreatDoor
