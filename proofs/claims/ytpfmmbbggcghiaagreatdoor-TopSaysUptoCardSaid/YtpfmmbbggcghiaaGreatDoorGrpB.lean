/- dec.Text. -/
import Derived.Test.YtpfmmbbggcghiaaGreatDoorDecF
set_option linter.unusedSimpArgs false
set_option linter.unusedVariables false
set_option maxHeartbeats 6400000
set_option maxRecDepth 100000
namespace Go.Proofs.YtpfmmbbggcghiaaGreatDoor
open Go.RowKit Go.Sort
open Lib (hid)
theorem str_appD (a b:List UInt8):str (a++b)=str a++str b:=bts_inj (by simp[bts,str,ByteArray.data_append])
theorem extractD (l:List UInt8) (i j:Nat):(str l).extract i j=str ((l.take j).drop i):=bts_inj (by rw[bts_extract];rfl)
theorem itoaD_any (n:Int) (w:World) (h0: -9223372036854775808≤n) (h1:n≤9223372036854775807) (hv:MV w):Calls Tryz.prog 61 #[.int .i64 n] w fun e w'=>e=.returned (.string (str (Lib.itoa n)))∧Below w.heap.size w w':=
 (Tryz.strconv_Itoa n h0 h1 w hv.tab).mono fun e w' ⟨he,k,os,hw⟩=>⟨he,by rw[hw];exact⟨rfl,rfl,rfl,by simp[grow,World.drewN],fun i hi=>heap_grow_old (w.drewN k) os hi⟩⟩
def digD (c:Int):List UInt8:=Lib.trimPrefix (Lib.itoa c) [45]
theorem digD_len (c:Int) (h0: -9223372036854775808≤c) (h1:c≤9223372036854775807):(digD c).length≤21:=by
 have h:=Lib.itoa_length_le c h0 h1;unfold digD Lib.trimPrefix;split
 ·rw[List.length_drop];omega
 ·exact h
def sgnD (c:Int):List UInt8:=if c < 0 then [45]else []
def padD (d:DecV):List UInt8:=Lib.repeatL [48] (d.scale+1 - (digD d.coef).length).toNat++digD d.coef
def textD (d:DecV):List UInt8:=if d.scale≤0 then sgnD d.coef++digD d.coef else sgnD d.coef++(padD d).take ((padD d).length - d.scale.toNat)++[46]++(padD d).drop ((padD d).length - d.scale.toNat)
theorem padD_len (d:DecV) (h:d.ok):d.scale.toNat < (padD d).length∧(padD d).length≤40:=by
 obtain⟨h0,h1,h2,h3⟩:=h;have h4:=digD_len d.coef (by omega) (by omega)
 unfold padD;rw[List.length_append,Lib.repeatL_length,List.length_singleton];omega
theorem textD_len (d:DecV) (h:d.ok):(textD d).length≤50:=by
 have hp:=padD_len d h;obtain⟨h0,h1,h2,h3⟩:=h;have h4:=digD_len d.coef (by omega) (by omega)
 have h5:(sgnD d.coef).length≤1:=by unfold sgnD;split <;> decide
 unfold textD;split
 ·rw[List.length_append];omega
 ·simp only[List.length_append,List.length_take,List.length_drop,List.length_singleton];omega
theorem textD_any (d:DecV) (w:World) (hd:d.ok) (hv:MV w):Calls Tryz.prog 55 #[d.v] w fun e w'=>e=.returned (.string (str (textD d)))∧Below w.heap.size w w':=by
 have hpl:=padD_len d hd;obtain⟨h0,h1,h2,h3⟩:=hd;have hdl:=digD_len d.coef (by omega) (by omega)
 have HI:Hid (∀ W,Below w.heap.size w W→Calls Tryz.prog 61 #[.int .i64 d.coef] W fun e w'=>e=.returned (.string (str (Lib.itoa d.coef)))∧Below W.heap.size W w'):=hid fun W hW=>itoaD_any d.coef W (by omega) (by omega) (hv.below hW)
 have HTp:Hid (∀ W,Calls Tryz.prog 93 #[.string (str (Lib.itoa d.coef)),.string ⟨#[45]⟩] W fun e w'=>e=.returned (.string (str (digD d.coef)))∧w'=W):=hid fun W=>Tryz.strings_TrimPrefix (str (Lib.itoa d.coef)) ⟨#[45]⟩ W;have HR:Hid (∀ W,Calls Tryz.prog 94 #[.string ⟨#[48]⟩,.int .i64 ((d.scale+1 - (digD d.coef).length).toNat:Nat)] W fun e w'=>e=.returned (.string (str (Lib.repeatL [48] (d.scale+1 - (digD d.coef).length).toNat)))∧Below W.heap.size W w'):=hid fun W=>
  Tryz.strings_Repeat ⟨#[48]⟩ (d.scale+1 - (digD d.coef).length).toNat W (by omega) (by
   show 1*_≤_;omega)
 have HP:Hid (padD d=Lib.repeatL [48] (d.scale+1 - (digD d.coef).length).toNat++digD d.coef):=hid rfl;have HT:Hid (textD d=if d.scale≤0 then sgnD d.coef++digD d.coef else sgnD d.coef++(padD d).take ((padD d).length - d.scale.toNat)++[46]++(padD d).drop ((padD d).length - d.scale.toNat)):=hid rfl
 have HSg:Hid (sgnD d.coef=if d.coef < 0 then [45]else []):=hid rfl
 have hsl:(sgnD d.coef).length≤1:=by unfold sgnD;split <;> decide
 have hmx:max (0:Int) (d.scale+1 - ((digD d.coef).length:Int))=((d.scale+1 - (digD d.coef).length).toNat:Nat):=by omega
 have hrl:(Lib.repeatL [48] (d.scale+1 - (digD d.coef).length).toNat).length≤20:=by rw[Lib.repeatL_length,List.length_singleton];omega
 generalize Lib.itoa d.coef=it at *;generalize textD d=td at *;generalize padD d=pd at *;generalize digD d.coef=dg at *;generalize sgnD d.coef=sg at *;generalize hp:(d.scale+1 - (dg.length:Int)).toNat=p at *;generalize Lib.repeatL [48] p=rl at *;obtain⟨c,s⟩:=d;dsimp only at h0 h1 h2 h3 HI HTp HR HP HT HSg hmx hpl;have HB:Hid (Below w.heap.size w (w.alloc (.cells #[.int .i64 c,.int .i64 s] 65))):=hid ((Below.refl _ _).alloc (Nat.le_refl _) _);have MA:Hid (Blk (w.alloc (.cells #[.int .i64 c,.int .i64 s] 65)) w.heap.size 65 #[.int .i64 c,.int .i64 s]):=hid (Blk.new _ _ _);have HI2:=hid (HI.out _ HB.out);have EX:=hid (extractD (rl++dg) 0 ((rl++dg).length - s.toNat));have EY:=hid (extractD (rl++dg) ((rl++dg).length - s.toNat) (rl++dg).length);have EA:=hid (str_appD rl dg);clear hv HI hp;unfold DecV.v;dsimp only;generalize eW1:w.alloc (.cells #[.int .i64 c,.int .i64 s] 65)=W1 at *;have EW:=hid eW1;have k0:=(MA.out.cell 0).trans (show _=some (.int .i64 c)from rfl);clear eW1
 go_enter Tryz.func55,Tryz.ntmps55
 go_upto_if 8 with fail
 rw[EW.out]
 go_cut [3] (fun v wx=>v=.string (str sg)∧wx=W1)
 case first=>
  by_cases hc:c < 0
  ·have hc2:¬(0≤c):=by omega
   go_wp2_with fail
   go_meet
   case rel=>exact⟨by rw[HSg.out,if_pos hc];rfl,rfl⟩
  ·have hc2:0≤c:=by omega
   go_wp2_with fail
   go_meet
   case rel=>exact⟨by rw[HSg.out,if_neg (by omega)];rfl,rfl⟩
 case rest=>
  obtain⟨rfl,hwc⟩:=hcut;subst hwc;clear EW
  go_wp2_with fail
  refine HI2.out.mono ?_;clear HI2;rintro e w2 ⟨rfl,hb2⟩;have HB2:=hid (HB.out.trans (hb2.mono HB.out.size));have MA2:=hid (MA.out.below hb2 MA.out.lt);have d1:=(MA2.out.cell 1).trans (show _=some (.int .i64 s)from rfl);clear hb2 HB MA k0
  go_wp2_with fail
  refine(HTp.out _).mono ?_;clear HTp;rintro e w3 ⟨rfl,rfl⟩;have hz1:(str sg).size=sg.length:=str_size sg;have hz2:(str dg).size=dg.length:=str_size dg;have hz3:(str rl).size=rl.length:=str_size rl
  by_cases hs:s≤0
  ·have HE:Hid (str td=str sg++str dg):=hid (by rw[HT.out,if_pos hs,str_appD])
   have q1:¬(9223372036854775807 < (str sg).size+(str dg).size):=by omega
   clear HT HP HR hmx EX EY EA hz1 hz2 hz3;generalize str sg=SG at *;generalize str dg=DG at*
   go_wp2_with fail
   go_ret
   exact⟨by rw[HE.out];rfl,HB2.out⟩
  ·have hpd:pd=rl++dg:=HP.out;have hpl2:pd.length=rl.length+dg.length:=by rw[hpd,List.length_append]
   obtain⟨kk,hkk⟩:∃ kk:Nat,kk=pd.length - s.toNat:=⟨_,rfl⟩;have HE:Hid (str td=str sg++(str rl++str dg).extract 0 kk++(⟨#[46]⟩:ByteArray)++(str rl++str dg).extract kk (rl.length+dg.length)):=hid (by
    rw[HT.out,if_neg hs,←str_appD,extractD,extractD,←hkk,str_appD,str_appD,str_appD,hpd,List.drop_zero,List.take_of_length_le (l:=rl++dg) (i:=rl.length+dg.length) (by rw[List.length_append];exact Nat.le_refl _)]
    rfl)
   have hs2:0 < s:=by omega
   rw[←hz2]at hmx;have w1:wrap64 (s+1)=s+1:=by unfold wrap64;omega
   have w2:wrap64 (s+1 - ((str dg).size:Int))=s+1 - ((str dg).size:Int):=by unfold wrap64;omega
   have w3:wrap64 (((str rl).size:Int)+((str dg).size:Int) - s)=(kk:Int):=by unfold wrap64;omega
   have q1:¬(9223372036854775807 < (str rl).size+(str dg).size):=by omega
   have q2:kk≤(str rl).size+(str dg).size:=by omega
   have q3:(0:Int)≤(kk:Int):=Int.natCast_nonneg kk;have q4:(kk:Int)≤((str rl).size:Int)+((str dg).size:Int):=by omega
   have eq5:rl.length+dg.length=(str rl).size+(str dg).size:=by omega
   rw[eq5]at HE;have hsg:(str sg).size≤1:=by omega
   have hrg:(str rl).size≤20:=by omega
   have hdg:(str dg).size≤21:=by omega
   clear HT HP EX EY EA hz1 hz2 hz3 hpd hpl2 hkk eq5 hpl hsl hrl hdl hs h0 h1 h2 h3 HSg;generalize str sg=SG at *;generalize str dg=DG at *;generalize str rl=RL at*
   go_wp2_with fail
   refine(HR.out _).mono ?_;clear HR;rintro e w4 ⟨rfl,hb4⟩;have HB4:=hid (HB2.out.trans (hb4.mono HB2.out.size));have MA4:=MA2.out.below hb4 MA2.out.lt;have g1:=(MA4.cell 1).trans (show _=some (.int .i64 s)from rfl);clear hb4 MA4 MA2 d1 hmx w1 w2;have hx1:((RL++DG).extract 0 kk).size≤41:=by rw[ByteArray.size_extract,ByteArray.size_append];omega
   have hx2:((RL++DG).extract kk (RL.size+DG.size)).size≤41:=by rw[ByteArray.size_extract,ByteArray.size_append];omega
   go_upto_region 9 with fail
   generalize ex1:(RL++DG).extract 0 kk=X1 at *;generalize ex2:(RL++DG).extract kk (RL.size+DG.size)=X2 at *;have r1:¬(9223372036854775807 < SG.size+X1.size):=by omega
   have r2:¬(9223372036854775807 < SG.size+X1.size+1):=by omega
   have r3:¬(9223372036854775807 < SG.size+X1.size+1+X2.size):=by omega
   go_quiet (fail)
   go_wp2_with fail
   go_ret
   exact⟨by rw[HE.out];first|rfl|(rw[ex1,ex2];rfl)|done,below_drewN HB4.out _⟩
theorem own_setAll {base g c:Nat} {e:TypeId}:∀(vs:List Value) (o n:Nat) (w:World) (xs:List Value),w.ownsRow base e 1 (.slice (some ⟨g,0,none⟩) n c) n xs→o+vs.length≤n→
 (w.setCells g o vs).ownsRow base e 1 (.slice (some ⟨g,0,none⟩) n c) n (xs.take o++vs++xs.drop (o+vs.length))
 | [],o,n,w,xs,h,_=>by
   show w.ownsRow _ _ _ _ _ _;rw[List.append_nil,List.length_nil,Nat.add_zero,List.take_append_drop];exact h
 | v::vs,o,n,w,xs,h,hl=>by
   rw[List.length_cons]at hl;have h1:=own_setN h o v (by omega)
   have hx:xs.length=n:=by have:=h.1;omega
   have h2:=own_setAll vs (o+1) n _ _ h1 (by omega)
   have e1:(xs.set o v).take (o+1)=xs.take o++[v]:=by
    rw[List.take_set,List.take_succ_eq_append_getElem (by omega)]
    rw[List.set_append_right _ _ (by rw[List.length_take];omega),List.length_take,Nat.min_eq_left (by omega),Nat.sub_self]
    rfl
   have e2:(xs.set o v).drop (o+1+vs.length)=xs.drop (o+(v::vs).length):=by
    rw[List.drop_set_of_lt (by omega),List.length_cons]
    congr 1;omega
   rw[e1,e2]at h2;have e3:xs.take o++[v]++vs=xs.take o++(v::vs):=by simp
   rw[e3]at h2;exact h2
def digitChars:ByteArray:=⟨#[48,49,50,51,52,53,54,55,56,57]⟩
def digitsB (s:ByteArray):Bool:= !(s.toList.isEmpty) && (Lib.trimS s.data.toList digitChars.data.toList).isEmpty
theorem asciiDig:∀(j:Nat) b,digitChars.data.toList[j]? =some b→b.toNat < 128:=by
 have h:∀ b∈digitChars.data.toList,b.toNat < 128:=by decide
 exact fun j b hb=>h b (List.mem_of_getElem? hb)
theorem gdigits_any (s:ByteArray) (w:World) (hs:s.size≤1000000000):Calls Tryz.prog 180 #[.string s] w fun e w'=>e=.returned (.bool (digitsB s))∧Below w.heap.size w w':=by
 have HT:Hid (Calls Tryz.prog 110 #[.string s,.string digitChars] w fun e w'=>e=.returned (.string ⟨(Lib.trimS s.data.toList digitChars.data.toList).toArray⟩)∧Below w.heap.size w w'):=hid (trim_any s digitChars w (by omega) (by decide) asciiDig)
 have HR:Hid (digitsB s=(!(s.toList.isEmpty) && (Lib.trimS s.data.toList digitChars.data.toList).isEmpty)):=hid rfl;generalize digitsB s=r at *;unfold digitChars at *;generalize hz:Lib.trimS s.data.toList (⟨#[48,49,50,51,52,53,54,55,56,57]⟩:ByteArray).data.toList=t at *;clear hz;cases he:s.toList.isEmpty with
 | true=>
   have hq:(s.toList == [])=true:=by simpa using he
   obtain rfl:r=false:=by rw[HR.out,he];rfl
   clear he
   go_enter Tryz.func180,Tryz.ntmps180
   go_wp2_with fail
   go_ret
   exact⟨rfl,Below.refl _ _⟩
 | false=>
   have hq:(s.toList == [])=false:=by cases h:s.toList with
    | nil=>rw[h]at he;cases he
    | cons a l=>rfl
   obtain rfl:r=t.isEmpty:=by rw[HR.out,he];rfl
   clear he HR;have htt:(⟨t.toArray⟩:ByteArray).toList=t:=by rw[ByteArray.toList_eq]
   generalize hT:(⟨t.toArray⟩:ByteArray)=T at *;clear hT;cases t with
   | nil=>
     have hq2:(T.toList == [])=true:=by rw[htt];rfl
     clear htt
     go_enter Tryz.func180,Tryz.ntmps180
     go_wp2_with fail
     refine HT.out.mono ?_;clear HT;rintro e w1 ⟨rfl,hb⟩;have HB:=hid hb;clear hb
     go_wp2_with fail
     go_ret
     exact⟨rfl,HB.out⟩
   | cons a l=>
     have hq2:(T.toList == [])=false:=by rw[htt];rfl
     clear htt
     go_enter Tryz.func180,Tryz.ntmps180
     go_wp2_with fail
     refine HT.out.mono ?_;clear HT;rintro e w1 ⟨rfl,hb⟩;have HB:=hid hb;clear hb
     go_wp2_with fail
     go_ret
     exact⟨rfl,HB.out⟩
theorem gcheck_any (w:World):Calls Tryz.prog 181 #[.int .i64 3,.int .i64 0,.int .u8 44] w fun e w'=>e=.returned .nilIface∧w'=w:=by
 go_enter Tryz.func181,Tryz.ntmps181
 go_wp2_with fail
 go_ret
 exact⟨rfl,rfl⟩
def partsF:Nat→List UInt8→List (List UInt8)
 | 0,l=>[l]
 | n+1,l=>if 3 < l.length then l.drop (l.length - 3)::partsF n (l.take (l.length - 3))else [l]
def partsG (l:List UInt8):List (List UInt8):=partsF l.length l
def putG (s:ByteArray):List UInt8:=if digitsB s then Lib.join (partsG (bts s)).reverse [44]else []
theorem parts_stop (n:Nat) (l:List UInt8) (h:¬ 3 < l.length):partsF n l=[l]:=by
 cases n with
 | zero=>rfl
 | succ n=>exact if_neg h
theorem parts_sum:∀(n:Nat) (l:List UInt8),((partsF n l).map List.length).sum=l.length∧(partsF n l).length≤l.length+1
 | 0,l=>⟨by simp[partsF],by simp[partsF]⟩
 | n+1,l=>by
   unfold partsF;split
   ·obtain⟨h1,h2⟩:=parts_sum n (l.take (l.length - 3));rw[List.length_take]at h1 h2;simp only[List.map_cons,List.sum_cons,List.length_cons,List.length_drop,h1];omega
   ·simp
theorem join_len (sep:List UInt8):∀(ps:List (List UInt8)),(Lib.join ps sep).length≤(ps.map List.length).sum+ps.length*sep.length
 | []=>by simp[Lib.join]
 | [a]=>by simp[Lib.join]
 | a::b::l=>by
   have h:=join_len sep (b::l);have e:Lib.join (a::b::l) sep=a++sep++Lib.join (b::l) sep:=by
    show List.intercalate sep (a::b::l)=_;rw[List.intercalate_cons_cons];rfl
   rw[e];simp only[List.length_append,List.map_cons,List.sum_cons,List.length_cons]at h ⊢;rw[Nat.add_mul,Nat.one_mul];omega
theorem putG_len (s:ByteArray):(putG s).length≤2*s.size+1:=by
 unfold putG;split
 ·have h1:=join_len [44] (partsG (bts s)).reverse;obtain⟨h2,h3⟩:((partsG (bts s)).map List.length).sum=(bts s).length∧(partsG (bts s)).length≤(bts s).length+1:=parts_sum (bts s).length (bts s);have e1:((partsG (bts s)).reverse.map List.length).sum=(bts s).length:=by rw[List.map_reverse,List.sum_reverse];exact h2
  rw[e1,List.length_reverse,List.length_singleton,Nat.mul_one]at h1;have h4:=bts_len s;omega
 ·exact Nat.zero_le _
theorem conv_comma (w:World):(convert 110 9 (.slice (some ⟨w.heap.size,0,none⟩) 1 1)).run Tryz.prog (w.alloc (.cells #[.int .u8 44] 5))=.ok (.string ⟨#[44]⟩) (w.alloc (.cells #[.int .u8 44] 5)):=by
 refine run_convert_bytes_back (P:=Tryz.prog) _ 110 9 5 ⟨w.heap.size,0,none⟩ 1 [44] Tryz.underlying110 Tryz.underlying5 Tryz.underlying9 ?_;intro j hj;have:j=0:=by simp at hj;omega
 subst this;exact((Blk.new w 5 #[.int .u8 44]).cell 0).trans rfl
theorem info_strG:(Tryz.prog.info? 9).map (fun i=>(i.zero,i.size,i.bytes))=some (some (.string ByteArray.empty),1,16):=by kernel_rfl
theorem one_newG (W:World) (a:Value) (t:TypeId):∀ q u,([a]:List Value)[q]? =some u→(W.alloc (.cells #[a] t)).cell? ⟨W.heap.size,0+q,none⟩=some u:=fun q u hq=>by
 rw[Nat.zero_add,(Blk.new W t #[a]).cell q];simpa using hq
theorem strsOf_list (l:List (List UInt8)):∀(n:Nat),n=l.length→Lib.strsOf (fun i=>str (l.getD i [])) n=l:=by
 rintro n rfl;refine List.ext_getElem (by simp[Lib.strsOf]) fun i h1 h2=> ?_
 simp[Lib.strsOf];rw[List.getElem?_eq_getElem h2]
 rfl
theorem below_setAll {B g:Nat} {w:World} (hg:B≤g):∀(vs:List Value) (o:Nat) (w':World),Below B w w'→Below B w (w'.setCells g o vs)
 | [],_,_,h=>h
 | v::vs,o,w',h=>below_setAll hg vs (o+1) _ (h.setCell (p:=⟨g,o,none⟩) hg v)
theorem put_any (s:ByteArray) (w:World) (hs:s.size≤1000000):
 Calls Tryz.prog 137 #[.string s,.int .i64 3,.int .i64 0,.int .u8 44] w fun e w'=>e=.returned (.tuple #[.string (str (putG s)),if digitsB s then .nilIface else .iface 35 (.int .i64 3)])∧Below w.heap.size w w':=by
 have HD:=hid (gdigits_any s w (by omega))
 have HC:Hid (∀ W,Calls Tryz.prog 181 #[.int .i64 3,.int .i64 0,.int .u8 44] W fun e w'=>e=.returned .nilIface∧w'=W):=hid fun W=>gcheck_any W;have HR:Hid (putG s=if digitsB s then Lib.join (partsG (bts s)).reverse [44]else []):=hid rfl
 have hlen:=putG_len s;generalize putG s=r at *;generalize digitsB s=b at *;cases b with
 | false=>
   obtain rfl:r=[]:=by rw[HR.out];rfl
   go_enter Tryz.func137,Tryz.ntmps137
   go_wp2_with fail
   refine HD.out.mono ?_;clear HD;rintro e w1 ⟨rfl,hb⟩;have HB:=hid hb;clear hb
   go_wp2_with fail
   go_ret2
   exact⟨rfl,HB.out⟩
 | true=>
   have HR2:Hid (r=Lib.join (partsG (bts s)).reverse [44]):=hid (by rw[HR.out];rfl)
   clear HR
   go_enter Tryz.func137,Tryz.ntmps137
   go_wp2_with fail
   refine HD.out.mono ?_;clear HD;rintro e w1 ⟨rfl,hb⟩;have HB:=hid hb;clear hb
   go_wp2_with fail
   refine(HC.out _).mono ?_;clear HC;rintro e w2 ⟨rfl,rfl⟩
   go_wp2_with fail
   go_loopw [0,11,12] (fun sv pv zv wr=>∃(l:List UInt8) (ps:List (List UInt8)) (n:Nat),sv=.string (str l)∧zv=.int .i64 3∧l.length≤n∧ps.length+n≤1000002∧Hid (partsG (bts s)=ps++partsF n l)∧wr.ownsRow w2.heap.size 9 1 pv ps.length (ps.map fun x=>Value.string (str x))∧Below w.heap.size w wr∧w2.heap.size≤wr.heap.size) (fun sv _ _ _=>match sv with| .string x=>x.size|_=>0)
   case atStart=>exact⟨bts s,[],(bts s).length,by rw[str_bts],rfl,Nat.le_refl _,by rw[bts_len];simp;omega,hid rfl,own_nil,HB.out,Nat.le_refl _⟩
   case round=>
    obtain⟨l,ps,n,rfl,rfl,hln,hpn,HP,hown,hbr,hsr⟩:=hrel;obtain⟨A,c,rfl,_⟩:=own_slice hown;have HO:=hid hown;have HBr:=hid hbr;have hz:(str l).size=l.length:=str_size l;clear hown hbr
    by_cases hl3:3 < l.length
    ·obtain⟨m,rfl⟩:∃ m,n=m+1:=⟨n - 1,by omega⟩
     have HP2:Hid (partsG (bts s)=(ps++[l.drop (l.length - 3)])++partsF m (l.take (l.length - 3))):=hid (by
      rw[HP.out,List.append_assoc]
      congr 1
      exact if_pos hl3)
     have hl1:(l.take (l.length - 3)).length=l.length - 3:=by rw[List.length_take];omega
     obtain⟨k,hk⟩:∃ k:Nat,l.length=k+3:=⟨l.length - 3,by omega⟩
     have EX:=hid (extractD l 0 k);have EY:=hid (extractD l k (str l).size);have i1:(3:Int) < ((str l).size:Int):=by omega
     have hw:wrap64 (((str l).size:Int) - 3)=(k:Int):=by unfold wrap64;omega
     have i2:(0:Int)≤(k:Int):=Int.natCast_nonneg k;have i3:(k:Int)≤((str l).size:Int):=by omega
     have i4:k≤(str l).size:=by omega
     have hps:ps.length≤1000000:=by omega
     have hF:Hid (l.length - 3=k∧(l.take k).length+3=l.length∧(str l).size=l.length):=hid ⟨by omega,by rw[List.length_take];omega,hz⟩
     have hkm:k≤m:=by omega
     have hpm:ps.length+1+m≤1000002:=by omega
     have EX2:(str l).extract 0 k=str (l.take k):=by rw[EX.out,List.drop_zero]
     have EY2:(str l).extract k (str l).size=str (l.drop k):=by rw[EY.out,List.take_of_length_le (by omega)]
     have HP3:Hid (partsG (bts s)=(ps++[l.drop k])++partsF m (l.take k)):=hid (by rw[HP2.out,hF.out.1])
     have HOw:Hid ((wr.alloc (.cells #[.string (str (l.drop k))] 9)).ownsRow w2.heap.size 9 1 (.slice A ps.length c) ps.length (ps.map fun x=>Value.string (str x))):=hid (own_below HO.out ((Below.refl _ _).alloc (Nat.le_refl _) _) (Nat.le_refl _));have HBw:Hid (Below w.heap.size w (wr.alloc (.cells #[.string (str (l.drop k))] 9))):=hid (HBr.out.alloc (by have:=HBr.out.size;omega) _)
     have hlk:(l.take k).length≤m:=by have:=hF.out.2.1;omega
     have hw2s:=HB.out.size;generalize hSY:str (l.drop k)=SY at *;have HSY:=hid hSY;clear hSY;clear HP HP2 hk hln hpn hl1 hl3 EX EY hz HO
     go_wp2_with (at_builtin;refine wpList_append_any rfl _ _ 42 rfl w2.heap.size 9 Tryz.underlying42 info_strG rfl (by decide) (ps.map fun x=>Value.string (str x)) rfl HOw.out [.string SY] rfl rfl (.inr ⟨_,_,rfl,one_newG wr _ _⟩) (by simp[Value.oneCell']) (by unfold maxLen;omega) (by omega) (by simp;omega) ?_)
     intro v7 w7 hown7 hgrow7 _;obtain⟨A7,c7,hv7,_⟩:=own_slice hown7;subst hv7;have HO7:Hid (w7.ownsRow w2.heap.size 9 1 (.slice A7 (ps++[l.drop k]).length c7) (ps++[l.drop k]).length ((ps++[l.drop k]).map fun x=>Value.string (str x))):=hid (by
      rw[List.length_append,List.map_append,List.map_singleton,List.length_singleton,HSY.out];exact hown7)
     have HB7:Hid (Below w.heap.size w w7):=hid (HBw.out.grown hgrow7 (by simp;omega) (fun q e=>by have:=(own_lt HOw.out e).1;omega))
     have hs7:w2.heap.size≤w7.heap.size:=by have:=hgrow7.size;rw[World.size_alloc]at this;omega
     have el:(ps++[l.drop k]).length=ps.length+1:=by rw[List.length_append,List.length_singleton]
     rw[el]at HO7;clear hown7 hgrow7 HOw HBw HBr el
     go_wp2_with fail
     go_roundw
     case rel=>exact⟨l.take k,ps++[l.drop k],m,rfl,rfl,hlk,by rw[List.length_append,List.length_singleton];omega,HP3,by rw[List.length_append,List.length_singleton];exact HO7.out,HB7.out,hs7⟩
     case measure=>
      have h1:=hF.out;show(str (l.take k)).size < (str l).size;rw[str_size,str_size];omega
    ·have HP2:Hid (partsG (bts s)=ps++[l]):=hid (by rw[HP.out,parts_stop n l hl3])
     have i1:¬((3:Int) < ((str l).size:Int)):=by omega
     have hps:ps.length≤1000002:=by omega
     have hw2s:=HB.out.size;have HOw:Hid ((wr.alloc (.cells #[.string (str l)] 9)).ownsRow w2.heap.size 9 1 (.slice A ps.length c) ps.length (ps.map fun x=>Value.string (str x))):=hid (own_below HO.out ((Below.refl _ _).alloc (Nat.le_refl _) _) (Nat.le_refl _));have HBw:Hid (Below w.heap.size w (wr.alloc (.cells #[.string (str l)] 9))):=hid (HBr.out.alloc (by have:=HBr.out.size;omega) _)
     clear HP hl3 hz HO hln hpn
     go_wp2_with (at_builtin;refine wpList_append_any rfl _ _ 42 rfl w2.heap.size 9 Tryz.underlying42 info_strG rfl (by decide) (ps.map fun x=>Value.string (str x)) rfl HOw.out [.string (str l)] rfl rfl (.inr ⟨_,_,rfl,one_newG wr _ _⟩) (by simp[Value.oneCell']) (by unfold maxLen;omega) (by omega) (by simp;omega) ?_)
     intro v7 w7 hown7 hgrow7 _;have hPl:(partsG (bts s)).length=ps.length+1:=by rw[HP2.out,List.length_append,List.length_singleton]
     have hown8:w7.ownsRow w2.heap.size 9 1 v7 (partsG (bts s)).length ((partsG (bts s)).map fun x=>Value.string (str x)):=by
      rw[hPl,HP2.out,List.map_append,List.map_singleton];exact hown7
     have HB7:Hid (Below w.heap.size w w7):=hid (HBw.out.grown hgrow7 (by simp;omega) (fun q e=>by have:=(own_lt HOw.out e).1;omega))
     have hPs:(partsG (bts s)).length≤1000003:=by omega
     have hjl:(Lib.join (partsG (bts s)).reverse [44]).length≤1000000000:=by rw[←HR2.out];omega
     have HJl:=hid hjl;clear hown7 hgrow7 HOw HBw HBr HP2 hlen hps hs;generalize partsG (bts s)=P at *;obtain⟨g,cap,rfl,hg1,hg2⟩:=own_form hown8 (by omega)
     have hcs:∀ i,i < P.length→w7.cell? ⟨g,0+i,none⟩=some (.string (str (P.getD i [])))∧w7.frozen? ⟨g,0+i,none⟩=false:=fun i hi=>by
      obtain⟨g',hA,_,_,h3,h4⟩:=own_at hown8 i (by omega)
      injection hA with hA;injection hA with hA;subst hA;rw[Nat.zero_add];refine⟨?_,h4⟩;rw[h3,List.getElem?_map,List.getElem?_eq_getElem hi,List.getD_eq_getElem?_getD,List.getElem?_eq_getElem hi]
      rfl
     have HRev:Hid (Calls Tryz.prog 182 #[.slice (some ⟨g,0,none⟩) P.length cap] w7 fun e w'=>e=.returned (.tuple #[])∧∃ q,w'=(w7.drewN q).setCells g 0 (P.reverse.map encStr)):=hid (by
      have h:=Tryz.slices_Reverse_string_cells g 0 P.length cap (fun i=>str (P.getD i [])) w7 (by omega) (fun i hi=>(hcs i hi).1) (fun i hi=>(hcs i hi).2)
      rw[strsOf_list P P.length rfl]at h;exact h)
     have HOwn:=hid hown8;have HPl:=hid hPl;have HPs:=hid hPs;clear hcs hown8 hjl hPl hPs
     go_wp2_with fail
     refine HRev.out.mono ?_;clear HRev;rintro e w8 ⟨rfl,q,hw8⟩;have hPl:=HPl.out;have hPs:=HPs.out;have hl9:(P.reverse.map encStr).length=P.length:=by rw[List.length_map,List.length_reverse]
     have hown9:w8.ownsRow w2.heap.size 9 1 (.slice (some ⟨g,0,none⟩) P.reverse.length cap) P.reverse.length (P.reverse.map fun x=>Value.string (str x)):=by
      have h:=own_setAll (P.reverse.map encStr) 0 P.length (w7.drewN q) _ (own_below HOwn.out (below_drewN (Below.refl _ _) q) (Nat.le_refl _)) (by omega)
      rw[List.take_zero,List.nil_append,Nat.zero_add,hl9,List.drop_of_length_le (by rw[List.length_map];exact Nat.le_refl _),List.append_nil,←hw8]at h
      rw[List.length_reverse];exact h
     have HB8:Hid (Below w.heap.size w w8):=hid (by rw[hw8];exact below_setAll (by omega) _ _ _ (below_drewN HB7.out q))
     have hb9:Below w8.heap.size w8 (w8.alloc (.cells #[.int .u8 44] 5)):=(Below.refl _ _).alloc (Nat.le_refl _) _;have HJ:=hid (join_anyJ _ P.reverse [44] w2.heap.size (w8.alloc (.cells #[.int .u8 44] 5)) (own_below hown9 hb9 (Nat.le_refl _)) (by rw[List.length_reverse];omega) HJl.out)
     rw[List.length_reverse]at HJ;have HB9:Hid (Below w.heap.size w (w8.alloc (.cells #[.int .u8 44] 5))):=hid (HB8.out.trans (hb9.mono HB8.out.size));have hcv:=conv_comma w8;clear hw8 hl9 hown9 hb9 HOwn HB7 HB8 hPl hPs
     go_wp2_with fail
     refine HJ.out.mono ?_;clear HJ;rintro e w10 ⟨rfl,hb10⟩;have HB10:=hid (HB9.out.trans (hb10.mono HB9.out.size));clear hb10 hcv
     go_wp2_with fail
     go_ret2
     exact⟨by rw[HR2.out];rfl,HB10.out⟩
end Go.Proofs.YtpfmmbbggcghiaaGreatDoor
