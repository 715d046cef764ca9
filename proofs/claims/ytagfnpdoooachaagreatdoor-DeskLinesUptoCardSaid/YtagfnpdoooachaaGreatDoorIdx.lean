/- nout.Format at the pattern and the signs that messages have. -/
import Derived.Test.YtagfnpdoooachaaGreatDoorRuleV
set_option linter.unusedSimpArgs false
set_option linter.unusedVariables false
set_option maxHeartbeats 6400000
set_option maxRecDepth 100000
namespace Go.Proofs.YtagfnpdoooachaaGreatDoor
open Go.RowKit
open Lib (hid)
def fmtD (d:DecV):DecV:=if 3 < (trimD d).scale then trimD (round3 (trimD d))else trimD d
theorem fmtD_ok (d:DecV) (h:d.ok):(fmtD d).ok:=by
 unfold fmtD;split
 ·rename_i h3
  exact trimD_ok _ (round3_ok _ (trimD_ok d h) h3)
 ·exact trimD_ok d h
def wholeT (d:DecV):List UInt8:=Lib.trimPrefix (Lib.cut (textD (fmtD d)) [46]).1 [45]
def minusT (d:DecV):Bool:=Lib.hasPrefix (Lib.cut (textD (fmtD d)) [46]).1 [45]
def behindT (d:DecV):List UInt8:=(Lib.cut (textD (fmtD d)) [46]).2.1
def wholeP (d:DecV):List UInt8:=Lib.repeatL [48] (1 - ((wholeT d).length:Int)).toNat++wholeT d
def numS (d:DecV):List UInt8:=
 let s:=if behindT d=[]then putG (str (wholeP d))else putG (str (wholeP d))++[46]++behindT d
 if minusT d then [45]++s else s
def numE (d:DecV):Int:=if d.ok then(if digitsB (str (wholeP d))then 0 else 3)else 1
def numT (d:DecV):List UInt8:=if numE d=0 then numS d else []
theorem fmt_len (d:DecV) (h:d.ok):(wholeT d).length≤50∧(behindT d).length≤50∧(wholeP d).length≤52∧(putG (str (wholeP d))).length≤110:=by
 have h1:=textD_len (fmtD d) (fmtD_ok d h);obtain⟨h2,h3⟩:=cut_len (textD (fmtD d)) [46];have h4:(wholeT d).length≤50:=by
  unfold wholeT Lib.trimPrefix;split
  ·rw[List.length_drop];omega
  ·omega
 have h5:(wholeP d).length≤52:=by
  unfold wholeP;rw[List.length_append,Lib.repeatL_length,List.length_singleton];omega
 have h6:=putG_len (str (wholeP d));rw[str_size]at h6;exact⟨h4,by unfold behindT;omega,h5,by omega⟩
theorem conv_dot (w:World):(convert 134 9 (.slice (some ⟨w.heap.size,0,none⟩) 1 1)).run Tryz.prog (w.alloc (.cells #[.int .u8 46] 5))=.ok (.string ⟨#[46]⟩) (w.alloc (.cells #[.int .u8 46] 5)):=by
 refine run_convert_bytes_back (P:=Tryz.prog) _ 134 9 5 ⟨w.heap.size,0,none⟩ 1 [46] Tryz.underlying134 Tryz.underlying5 Tryz.underlying9 ?_;intro j hj;have:j=0:=by simp at hj;omega
 subst this;exact((Blk.new w 5 #[.int .u8 46]).cell 0).trans rfl
structure FSt (w:World) (d:DecV) (W:World):Prop where
 below:Below w.heap.size w W
 pat:Blk W w.heap.size 112 #[.string ⟨#[]⟩,.string ⟨#[]⟩,.int .i64 1,.int .i64 0,.int .i64 3,.int .i64 3,.int .i64 0]
 sym:Blk W (w.heap.size+1) 114 #[.int .u8 46,.int .u8 44]
 dec:Blk W (w.heap.size+2) 44 #[.int .i64 d.coef,.int .i64 d.scale]
theorem FSt.on {w W W':World} {d:DecV} (h:FSt w d W) (hb:Below W.heap.size W W'):FSt w d W':=
 ⟨h.below.trans (hb.mono h.below.size),h.pat.below hb h.pat.lt,h.sym.below hb h.sym.lt,h.dec.below hb h.dec.lt⟩
theorem FSt.set {w W:World} {d d':DecV} (h:FSt w d W):FSt w d' ((W.setCell ⟨w.heap.size+2,0,none⟩ (.int .i64 d'.coef)).setCell ⟨w.heap.size+2,1,none⟩ (.int .i64 d'.scale)):=
 ⟨(h.below.setCell (p:=⟨_,_,none⟩) (by show w.heap.size≤w.heap.size+2;omega) _).setCell (p:=⟨_,_,none⟩) (by show w.heap.size≤w.heap.size+2;omega) _,
   (h.pat.far (by show w.heap.size≠w.heap.size+2;omega) _).far (by show w.heap.size≠w.heap.size+2;omega) _,(h.sym.far (by show w.heap.size+1≠w.heap.size+2;omega) _).far (by show w.heap.size+1≠w.heap.size+2;omega) _,(h.dec.set_ 0 _).set_ 1 _⟩
theorem format_any (d:DecV) (w:World) (hv:MV w) (hr:RV w):Calls Tryz.prog 61 #[patV,symV,d.v] w fun e w'=>e=.returned (.tuple #[.string (str (numT d)),errD (numE d)])∧Below w.heap.size w w':=by
 obtain⟨W3,eW3⟩:∃ W3,W3=((w.alloc (.cells #[.string ⟨#[]⟩,.string ⟨#[]⟩,.int .i64 1,.int .i64 0,.int .i64 3,.int .i64 3,.int .i64 0] 112)).alloc (.cells #[.int .u8 46,.int .u8 44] 114)).alloc (.cells #[.int .i64 d.coef,.int .i64 d.scale] 44):=⟨_,rfl⟩;have hF:FSt w d W3:=by
  rw[eW3];have h1:=Blk.new (w.alloc (.cells #[.string ⟨#[]⟩,.string ⟨#[]⟩,.int .i64 1,.int .i64 0,.int .i64 3,.int .i64 3,.int .i64 0] 112)) 114 #[.int .u8 46,.int .u8 44];have h2:=Blk.new ((w.alloc (.cells #[.string ⟨#[]⟩,.string ⟨#[]⟩,.int .i64 1,.int .i64 0,.int .i64 3,.int .i64 3,.int .i64 0] 112)).alloc (.cells #[.int .u8 46,.int .u8 44] 114)) 44 #[.int .i64 d.coef,.int .i64 d.scale];rw[World.size_alloc]at h1;rw[World.size_alloc,World.size_alloc]at h2;exact⟨(((Below.refl _ _).alloc (Nat.le_refl _) _).alloc (by simp) _).alloc (by simp;omega) _,((Blk.new _ _ _).alloc _).alloc _,h1.alloc _,h2⟩
 have H1:Hid (∀ W,Calls Tryz.prog 106 #[patV,symV] W fun e w'=>e=.returned .nilIface∧Below W.heap.size W w'):=hid fun W=>ncheck_any W;have HA:Hid (∀ W,Calls Tryz.prog 53 #[d.v] W fun e w'=>e=.returned (errD (checkD d))∧Below W.heap.size W w'):=hid fun W=>checkD_any d W;have HF:=hid hF;have EW:=hid eW3;have p0:=(hF.pat.cell 0).trans (show _=some (.string ⟨#[]⟩)from rfl);have p1:=(hF.pat.cell 1).trans (show _=some (.string ⟨#[]⟩)from rfl);have p2:=(hF.pat.cell 2).trans (show _=some (.int .i64 1)from rfl);have p3:=(hF.pat.cell 3).trans (show _=some (.int .i64 0)from rfl);have p4:=(hF.pat.cell 4).trans (show _=some (.int .i64 3)from rfl);have p5:=(hF.pat.cell 5).trans (show _=some (.int .i64 3)from rfl);have p6:=(hF.pat.cell 6).trans (show _=some (.int .i64 0)from rfl);have q0:=(hF.sym.cell 0).trans (show _=some (.int .u8 46)from rfl);have q1:=(hF.sym.cell 1).trans (show _=some (.int .u8 44)from rfl);clear hF eW3;unfold patV symV DecV.v at*
 go_enter Tryz.func61,Tryz.ntmps61
 go_upto_region 1 with fail
 rw[←EW.out];clear EW
 go_wp2_with fail
 refine(H1.out _).mono ?_;clear H1 p0 p1 p2 p3 p4 p5 p6 q0 q1;rintro e w4 ⟨rfl,hb4⟩;have HF4:=hid (HF.out.on hb4);clear hb4 HF;have d0:=(HF4.out.dec.cell 0).trans (show _=some (.int .i64 d.coef)from rfl);have d1:=(HF4.out.dec.cell 1).trans (show _=some (.int .i64 d.scale)from rfl)
 go_wp2_with fail
 refine(HA.out _).mono ?_;clear HA d0 d1;rintro e w5 ⟨rfl,hb5⟩;have HF5:=hid (HF4.out.on hb5);clear hb5 HF4
 by_cases hd:d.ok
 ·rw[checkD_ok hd,errD_zero];have HE:Hid (numE d=if digitsB (str (wholeP d))then 0 else 3):=hid (if_pos hd)
  have HT:Hid (numT d=if numE d=0 then numS d else []):=hid rfl
  obtain⟨z1,z2,z3,z4⟩:=fmt_len d hd;have hok:=fmtD_ok d hd;have h1ok:=trimD_ok d hd;have HTr:Hid (∀ W,Calls Tryz.prog 107 #[.agg #[.int .i64 d.coef,.int .i64 d.scale],.int .i64 0] W fun e w'=>e=.returned (.agg #[.int .i64 (trimD d).coef,.int .i64 (trimD d).scale])∧Below W.heap.size W w'):=hid fun W=>trimmed_any d W hd;have HRo:Hid (3 < (trimD d).scale→∀ W,Calls Tryz.prog 108 #[.agg #[.int .i64 (trimD d).coef,.int .i64 (trimD d).scale],.int .i64 3,.int .i64 5] W fun e w'=>e=.returned (.tuple #[.agg #[.int .i64 (round3 (trimD d)).coef,.int .i64 (round3 (trimD d)).scale],.nilIface])∧Below W.heap.size W w'):=hid fun h3 W=>round_any (trimD d) W h1ok h3;have HTs:Hid (3 < (trimD d).scale→∀ W,Calls Tryz.prog 107 #[.agg #[.int .i64 (round3 (trimD d)).coef,.int .i64 (round3 (trimD d)).scale],.int .i64 0] W fun e w'=>e=.returned (.agg #[.int .i64 (trimD (round3 (trimD d))).coef,.int .i64 (trimD (round3 (trimD d))).scale])∧Below W.heap.size W w'):=hid fun h3 W=>trimmed_any _ W (round3_ok _ h1ok h3);have HFm:Hid ((3 < (trimD d).scale→fmtD d=trimD (round3 (trimD d)))∧(¬ 3 < (trimD d).scale→fmtD d=trimD d)):=hid ⟨fun h=>if_pos h,fun h=>if_neg h⟩;have HTx:Hid (∀ W,Below w.heap.size w W→Calls Tryz.prog 54 #[.agg #[.int .i64 (fmtD d).coef,.int .i64 (fmtD d).scale]] W fun e w'=>e=.returned (.string (str (textD (fmtD d))))∧Below W.heap.size W w'):=hid fun W hW=>textD_any (fmtD d) W hok (hv.below hW)
  have HCt:Hid (∀ W,Below w.heap.size w W→Calls Tryz.prog 12 #[.string (str (textD (fmtD d))),.string ⟨#[46]⟩] W fun e w'=>e=.returned (.tuple #[.string (str (Lib.cut (textD (fmtD d)) [46]).1),.string (str (behindT d)),.bool (Lib.cut (textD (fmtD d)) [46]).2.2])∧∃ n,w'=W.drewN n):=hid fun W hW=>by
   obtain⟨m,hm⟩:=(hr.below hW).max;exact Tryz.strings_Cut (str (textD (fmtD d))) ⟨#[46]⟩ m W (by rw[str_size];have:=textD_len _ hok;omega) hm
  have HCp:Hid (∀ W,Calls Tryz.prog 109 #[.string (str (Lib.cut (textD (fmtD d)) [46]).1),.string ⟨#[45]⟩] W fun e w'=>e=.returned (.tuple #[.string (str (wholeT d)),.bool (minusT d)])∧w'=W):=hid fun W=>Tryz.strings_CutPrefix (str (Lib.cut (textD (fmtD d)) [46]).1) ⟨#[45]⟩ W;have HR0:Hid (∀ W,Calls Tryz.prog 96 #[.string ⟨#[48]⟩,.int .i64 0] W fun e w'=>e=.returned (.string ⟨#[]⟩)∧Below W.heap.size W w'):=hid fun W=>Tryz.strings_Repeat ⟨#[48]⟩ 0 W (by decide) (by decide)
  have HR1:Hid (∀ W,Calls Tryz.prog 96 #[.string ⟨#[48]⟩,.int .i64 ((1 - ((wholeT d).length:Int)).toNat:Nat)] W fun e w'=>e=.returned (.string (str (Lib.repeatL [48] (1 - ((wholeT d).length:Int)).toNat)))∧Below W.heap.size W w'):=hid fun W=>Tryz.strings_Repeat ⟨#[48]⟩ _ W (by omega) (by show 1*_≤_;omega)
  have HPu:Hid (∀ W,Calls Tryz.prog 110 #[.string (str (wholeP d)),.int .i64 3,.int .i64 0,.int .u8 44] W fun e w'=>e=.returned (.tuple #[.string (str (putG (str (wholeP d)))),if digitsB (str (wholeP d))then .nilIface else .iface 27 (.int .i64 3)])∧Below W.heap.size W w'):=hid fun W=>put_any _ W (by rw[str_size];omega)
  have HWp:Hid (str (wholeP d)=str (Lib.repeatL [48] (1 - ((wholeT d).length:Int)).toNat)++str (wholeT d)):=hid (str_appD _ _);have HNs:Hid (numS d=if minusT d then [45]++(if behindT d=[]then putG (str (wholeP d))else putG (str (wholeP d))++[46]++behindT d)else(if behindT d=[]then putG (str (wholeP d))else putG (str (wholeP d))++[46]++behindT d)):=hid rfl
  clear hd hok hv hr h1ok;generalize fmtD d=df at *;generalize behindT d=be at *;generalize wholeT d=wt at *;generalize minusT d=mi at *;generalize wholeP d=wp at *;generalize numS d=ns at *;generalize hnt:numT d=nt at *;generalize hne:numE d=ne at *;have HNT:=hid hnt;have HNE:=hid hne;clear hnt hne;generalize digitsB (str wp)=db at *;generalize putG (str wp)=pg at *;generalize textD df=tx at *;generalize Lib.cut tx [46]=ct at *;have d0:=(HF5.out.dec.cell 0).trans (show _=some (.int .i64 d.coef)from rfl);have d1:=(HF5.out.dec.cell 1).trans (show _=some (.int .i64 d.scale)from rfl)
  go_wp2_with fail
  refine(HTr.out _).mono ?_;clear HTr d0 d1;rintro e w6 ⟨rfl,hb6⟩;have h6:=HF5.out.on hb6;have k0:=(h6.dec.cell 0).trans (show _=some (.int .i64 d.coef)from rfl);have k1:=(h6.dec.cell 1).trans (show _=some (.int .i64 d.scale)from rfl);have f0:=h6.dec.frozen 0;have f1:=h6.dec.frozen 1;have h7:FSt w (trimD d) _:=h6.set (d':=trimD d);obtain⟨w7,e7⟩:∃ w7,w7=(w6.setCell ⟨w.heap.size+2,0,none⟩ (.int .i64 (trimD d).coef)).setCell ⟨w.heap.size+2,1,none⟩ (.int .i64 (trimD d).scale):=⟨_,rfl⟩;rw[←e7]at h7;have HF7:=hid h7;have E7:=hid e7;have p4:=(h6.pat.cell 4).trans (show _=some (.int .i64 3)from rfl);have d1:=(h7.dec.cell 1).trans (show _=some (.int .i64 (trimD d).scale)from rfl);have p4':=(h7.pat.cell 4).trans (show _=some (.int .i64 3)from rfl);have HB6:=hid hb6;clear h6 h7 e7 hb6 HF5;generalize trimD d=dt at*
  go_upto_if 35 with fail
  rw[←E7.out];clear E7 HB6 k0 k1 f0 f1 p4
  go_cut [] (fun wx=>FSt w df wx)
  case first=>
   clear HTx HCt HCp HR0 HR1 HPu
   by_cases h3:3 < dt.scale
   ·have HRo2:=hid (HRo.out h3 w7);have HTs2:=hid (HTs.out h3);have HFm2:=hid (HFm.out.1 h3);have d0:=(HF7.out.dec.cell 0).trans (show _=some (.int .i64 dt.coef)from rfl);clear HRo HTs HFm
    go_wp2_with fail
    refine HRo2.out.mono ?_;clear HRo2 d0 d1 p4';rintro e w8 ⟨rfl,hb8⟩;have h8:=HF7.out.on hb8;generalize round3 dt=dr at *;have h9:FSt w dt (w8.alloc (.cells #[.int .i64 dr.coef,.int .i64 dr.scale] 44)):=h8.on ((Below.refl _ _).alloc (Nat.le_refl _) _);have HF9:=hid h9;clear h8 h9 hb8 HF7
    go_wp2_with fail
    refine(HTs2.out _).mono ?_;clear HTs2;rintro e w10 ⟨rfl,hb10⟩;have h10:=HF9.out.on hb10;have k0:=(h10.dec.cell 0).trans (show _=some (.int .i64 dt.coef)from rfl);have k1:=(h10.dec.cell 1).trans (show _=some (.int .i64 dt.scale)from rfl);have f0:=h10.dec.frozen 0;have f1:=h10.dec.frozen 1;have h11:=h10.set (d':=trimD dr);rw[←HFm2.out]at h11 ⊢;have HF11:=hid h11;clear h10 h11 hb10 HFm2
    go_wp2_with fail
    go_meet
    case rel=>exact HF11.out
   ·have HFm2:=hid (HFm.out.2 (by first|exact h3|exact Int.not_lt.1 h3))
    clear HRo HTs HFm
    go_wp2_with fail
    go_meet
    case rel=>rw[HFm2.out];exact HF7.out
  case rest=>
   clear HRo HTs HFm HF7 d1 p4';have HF8:=hid hcut;have d0:=(hcut.dec.cell 0).trans (show _=some (.int .i64 df.coef)from rfl);have d1:=(hcut.dec.cell 1).trans (show _=some (.int .i64 df.scale)from rfl);have HTx2:=hid (HTx.out wc hcut.below);clear hcut HTx
   go_wp2_with fail
   refine HTx2.out.mono ?_;clear HTx2 d0 d1;rintro e w9 ⟨rfl,hb9⟩;have HF9:=hid (HF8.out.on hb9);have HCt2:=hid (HCt.out w9 HF9.out.below);clear hb9 HF8 HCt
   go_wp2_with fail
   refine HCt2.out.mono ?_;clear HCt2;rintro e w10 ⟨rfl,n10,hw10⟩;have h10:FSt w df w10:=by rw[hw10];exact HF9.out.on (below_drewN (Below.refl _ _) n10)
   have HF10:=hid h10;have p3:=(h10.pat.cell 3).trans (show _=some (.int .i64 0)from rfl);clear hw10 h10 HF9
   go_wp2_with fail
   refine(HCp.out _).mono ?_;clear HCp;rintro e w11 ⟨rfl,rfl⟩;have y1:(str be).size=be.length:=str_size be;have y2:(str wt).size=wt.length:=str_size wt;obtain⟨kk,hkk⟩:∃ kk:Nat,kk=(1 - (wt.length:Int)).toNat:=⟨_,rfl⟩;rw[←hkk]at HR1 HWp;have y3:(str (Lib.repeatL [48] kk)).size≤1:=by rw[str_size,Lib.repeatL_length,List.length_singleton];omega
   have hm0:max (0:Int) (-((str be).size:Int))=0:=by omega
   have hw0:wrap64 (-((str be).size:Int))= -((str be).size:Int):=by unfold wrap64;omega
   have hm1:max (0:Int) (1 - ((str wt).size:Int))=(kk:Int):=by omega
   have hw1:wrap64 (1 - ((str wt).size:Int))=1 - ((str wt).size:Int):=by unfold wrap64;omega
   have hse:str be++(⟨#[]⟩:ByteArray)=str be:=bts_inj (by simp[bts,ByteArray.data_append])
   have y4:(str be).size≤50:=by omega
   have y5:(str wt).size≤50:=by omega
   have y6:(str pg).size≤110:=by rw[str_size];exact z4
   have HBe:Hid ((be=[]→((str be).toList == [])=true)∧(be≠[]→((str be).toList == [])=false)):=hid (by
    have e:(str be).toList=be:=by rw[ByteArray.toList_eq];rfl
    rw[e];exact⟨fun h=>by rw[h];rfl,fun h=>by simpa using h⟩)
   have HStr:Hid (∀ a b:List UInt8,str (a++b)=str a++str b):=hid str_appD;rw[HWp.out]at HPu;have v1:¬(9223372036854775807 < (str be).size):=by omega
   have v2:¬(9223372036854775807 < (str (Lib.repeatL [48] kk)).size+(str wt).size):=by omega
   clear HWp y1 y2 hkk z1 z2 z3 z4;generalize hSB:str be=SB at *;generalize str wt=SW at *;generalize str (Lib.repeatL [48] kk)=RL at *;generalize hPG:str pg=PG at *;have HSB:=hid hSB;have HPG:=hid hPG;clear hSB hPG
   go_wp2_with fail
   refine(HR0.out _).mono ?_;clear HR0 hm0 hw0;rintro e w12 ⟨rfl,hb12⟩;have h12:=HF10.out.on hb12;have HF12:=hid h12;have p2:=(h12.pat.cell 2).trans (show _=some (.int .i64 1)from rfl);clear h12 hb12 p3 HF10
   go_wp2_with fail
   refine(HR1.out _).mono ?_;clear HR1 hm1 hw1;rintro e w13 ⟨rfl,hb13⟩;have h13:=HF12.out.on hb13;have HF13:=hid h13;have p5:=(h13.pat.cell 5).trans (show _=some (.int .i64 3)from rfl);have p6:=(h13.pat.cell 6).trans (show _=some (.int .i64 0)from rfl);have q1:=(h13.sym.cell 1).trans (show _=some (.int .u8 44)from rfl);clear h13 hb13 p2 HF12
   go_wp2_with fail
   refine(HPu.out _).mono ?_;clear HPu p5 p6 q1;rintro e w14 ⟨rfl,hb14⟩;have h14:=HF13.out.on hb14;have HF14:=hid h14;clear h14 hb14 HF13;cases db with
   | false=>
     obtain rfl:ne=3:=by rw[HE.out];rfl
     obtain rfl:nt=[]:=by rw[HT.out];rfl
     rw[if_neg (by decide)]
     go_wp2_with fail
     go_ret2
     exact⟨by rw[HNT.out,HNE.out,errD_ne (by decide)];rfl,HF14.out.below⟩
   | true=>
     obtain rfl:ne=0:=by rw[HE.out];rfl
     obtain rfl:nt=ns:=by rw[HT.out];rfl
     rw[if_pos rfl]
     by_cases hbe:be=[]
     ·have hq:=HBe.out.1 hbe;have p0:=(HF14.out.pat.cell 0).trans (show _=some (.string ⟨#[]⟩)from rfl);have p1:=(HF14.out.pat.cell 1).trans (show _=some (.string ⟨#[]⟩)from rfl);have HN:Hid (nt=if mi then [45]++pg else pg):=hid (by rw[HNs.out,if_pos hbe])
      have e1:(⟨#[]⟩:ByteArray)++PG=PG:=bts_inj (by simp[bts,ByteArray.data_append])
      have e2:PG++(⟨#[]⟩:ByteArray)=PG:=bts_inj (by simp[bts,ByteArray.data_append])
      have v3:¬(9223372036854775807 < PG.size):=by omega
      have v4:¬(9223372036854775807 < 1+PG.size):=by omega
      have HB14:=hid HF14.out.below;clear hbe HNs HBe HF14;cases mi with
      | false=>
        go_wp2_with fail
        go_ret2
        exact⟨by rw[HNT.out,HNE.out,errD_zero,HN.out,if_neg (by decide),HPG.out];rfl,HB14.out⟩
      | true=>
        have HN2:Hid (nt=[45]++pg):=hid (HN.out.trans rfl)
        go_wp2_with fail
        go_ret2
        exact⟨by rw[HNT.out,HNE.out,errD_zero,HN2.out,HStr.out,HPG.out];rfl,HB14.out⟩
     ·have hq:=HBe.out.2 hbe;have hb15:Below w14.heap.size w14 (w14.alloc (.cells #[.int .u8 46] 5)):=(Below.refl _ _).alloc (Nat.le_refl _) _;have q0:=(HF14.out.sym.cell 0).trans (show _=some (.int .u8 46)from rfl);have h15:=HF14.out.on hb15;have p0:=(h15.pat.cell 0).trans (show _=some (.string ⟨#[]⟩)from rfl);have p1:=(h15.pat.cell 1).trans (show _=some (.string ⟨#[]⟩)from rfl);have HB15:=hid h15.below;have hcv:=conv_dot w14;have HN:Hid (nt=if mi then [45]++(pg++[46]++be)else pg++[46]++be):=hid (by rw[HNs.out,if_neg hbe])
      have e1:(⟨#[]⟩:ByteArray)++(PG++((⟨#[46]⟩:ByteArray)++SB))=PG++((⟨#[46]⟩:ByteArray)++SB):=bts_inj (by simp[bts,ByteArray.data_append])
      have e2:(PG++((⟨#[46]⟩:ByteArray)++SB))++(⟨#[]⟩:ByteArray)=PG++((⟨#[46]⟩:ByteArray)++SB):=bts_inj (by simp[bts,ByteArray.data_append])
      have e3:Hid (∀ a b c:ByteArray,a++b++c=a++(b++c)):=hid fun a b c=>bts_inj (by simp[bts,ByteArray.data_append])
      have v3:¬(9223372036854775807 < 1+SB.size):=by omega
      have v4:¬(9223372036854775807 < PG.size+(1+SB.size)):=by omega
      have v5:¬(9223372036854775807 < 1+(PG.size+(1+SB.size))):=by omega
      clear hbe HNs HBe HF14 h15 hb15;cases mi with
      | false=>
        go_wp2_with fail
        go_ret2
        exact⟨by rw[HNT.out,HNE.out,errD_zero,HN.out,if_neg (by decide),HStr.out,HStr.out,HPG.out,HSB.out,e3.out];rfl,HB15.out⟩
      | true=>
        have HN2:Hid (nt=[45]++(pg++[46]++be)):=hid (HN.out.trans rfl)
        go_wp2_with fail
        go_ret2
        exact⟨by rw[HNT.out,HNE.out,errD_zero,HN2.out,HStr.out,HStr.out,HStr.out,HPG.out,HSB.out,e3.out];rfl,HB15.out⟩
 ·have HE:Hid (numE d=1):=hid (if_neg hd);have HT:Hid (numT d=[]):=hid (if_neg (by rw[HE.out];decide))
  rw[checkD_no hd,errD_ne (by decide)]
  clear hd
  go_wp2_with fail
  go_ret2
  exact⟨by rw[HE.out,HT.out];rfl,HF5.out.below⟩
def patC:List Value:=[.string ⟨#[]⟩,.string ⟨#[]⟩,.int .i64 1,.int .i64 0,.int .i64 3,.int .i64 3,.int .i64 0]
def symC:List Value:=[.int .u8 46,.int .u8 44]
def kindC:List ByteArray:=[⟨#[122,101,114,111]⟩,⟨#[111,110,101]⟩,⟨#[116,119,111]⟩,⟨#[102,101,119]⟩,⟨#[109,97,110,121]⟩]
structure EvV (w:World):Prop where
 mv:MV w
 rv:RV w
 pat:∀ j (h:j < patC.length),w.cell? ⟨1,j,none⟩=some patC[j]
 sym:∀ j (h:j < symC.length),w.cell? ⟨2,j,none⟩=some symC[j]
 knd:∀ j (h:j < kindC.length),w.cell? ⟨0,j,none⟩=some (.string kindC[j])
theorem EvV.below {w w':World} (h:EvV w) (hb:Below w.heap.size w w'):EvV w':=
 ⟨h.mv.below hb,h.rv.below hb,fun j hj=>(hb.cell (p:=⟨_,j,none⟩) (cellLt (h.pat j hj))).trans (h.pat j hj),fun j hj=>(hb.cell (p:=⟨_,j,none⟩) (cellLt (h.sym j hj))).trans (h.sym j hj),fun j hj=>(hb.cell (p:=⟨_,j,none⟩) (cellLt (h.knd j hj))).trans (h.knd j hj)⟩
theorem numeral_any (d:DecV) (w:World) (hv:EvV w):Calls Tryz.prog 27 #[d.v] w fun e w'=>e=.returned (.tuple #[.string (str (numT d)),errD (numE d)])∧Below w.heap.size w w':=by
 have hb1:Below w.heap.size w (w.alloc (.cells #[.int .i64 d.coef,.int .i64 d.scale] 44)):=(Below.refl _ _).alloc (Nat.le_refl _) _;have HB1:=hid hb1;have hv1:=hv.below hb1;have HF:=hid (format_any d (w.alloc (.cells #[.int .i64 d.coef,.int .i64 d.scale] 44)) hv1.mv hv1.rv);have p0:=hv1.pat 0 (by decide)
 have p1:=hv1.pat 1 (by decide)
 have p2:=hv1.pat 2 (by decide)
 have p3:=hv1.pat 3 (by decide)
 have p4:=hv1.pat 4 (by decide)
 have p5:=hv1.pat 5 (by decide)
 have p6:=hv1.pat 6 (by decide)
 have q0:=hv1.sym 0 (by decide)
 have q1:=hv1.sym 1 (by decide)
 simp only[patC,symC,List.getElem_cons_zero,List.getElem_cons_succ]at p0 p1 p2 p3 p4 p5 p6 q0 q1;unfold patV symV DecV.v at *;clear hv hv1 hb1;generalize str (numT d)=T at *;have herr:∃ v,errD (numE d)=v:=⟨_,rfl⟩;obtain⟨er,her⟩:=herr;rw[her]at HF ⊢;clear her
 go_enter Tryz.func27,Tryz.ntmps27
 go_wp2_with fail
 refine HF.out.mono ?_;clear HF;rintro e w2 ⟨rfl,hb2⟩;have HB2:=hid (HB1.out.trans (hb2.mono HB1.out.size));clear hb2
 go_wp2_with fail
 go_ret2
 exact⟨rfl,HB2.out⟩
def idxOf {α:Type} (l:List α) (T:α→Bool):Int:=match l.findIdx? T with|some i=>i|none=> -1
theorem idx_hit {α:Type} {l:List α} {T:α→Bool} {j:Nat} (h:j < l.length) (hp:T l[j]=true) (hno:∀ q (h:q < l.length),q < j→T l[q]=false):idxOf l T=j:=by
 unfold idxOf;rw[findIdx_at l T j h hp hno]
theorem idx_no {α:Type} {l:List α} {T:α→Bool} (hno:∀ q (h:q < l.length),T l[q]=false):idxOf l T= -1:=by
 unfold idxOf;rw[findIdx_none l T hno]
theorem idx_any {α:Type} (l:List α) (T:α→Bool):decide (0≤idxOf l T)=l.any T:=by
 unfold idxOf;cases h:l.findIdx? T with
 | none=>
   rw[List.findIdx?_eq_none_iff]at h;have:l.any T=false:=by rw[List.any_eq_false];intro x hx;simp[h x hx]
   rw[this];decide
 | some i=>
   rw[List.findIdx?_eq_some_iff_getElem]at h;obtain⟨hi,hp,_⟩:=h;rw[any_of_at l T i hi hp];simp
theorem indexF_any (l:List (Int×Int)) (v:Value) (T:(Int×Int)→Bool) (lo:Nat) (w:World) (hv:ListOk Enc.pair w lo w.heap.size v l) (hn:l.length≤1000000000)
 (HT:Hid (∀ x∈l,∀ W,Below w.heap.size w W→Calls Tryz.prog 201 #[.agg #[.int .i64 x.1,.int .i64 x.2]] W fun e w'=>e=.returned (.bool (T x))∧Below W.heap.size W w')):
 Calls Tryz.prog 202 #[v,.func (.func 201) #[] #[]] w fun e w'=>e=.returned (.int .i64 (idxOf l T))∧Below w.heap.size w w':=by
 obtain⟨A,c,rfl,hc⟩:=hv.form;have HV:Hid (∀ W,Below w.heap.size w W→ListOk Enc.pair W lo w.heap.size (.slice A l.length c) l):=hid fun W hW=>hv.below Enc.pair_laws hW;clear hv
 go_enter Tryz.func202,Tryz.ntmps202
 go_wp2_with fail
 go_loopw [5,8] (fun _ i wr=>∃ j:Nat,j≤l.length∧i=.int .i64 (j:Int)∧Hid (∀ q (h:q < l.length),q < j→T l[q]=false)∧Below w.heap.size w wr) (fun _ i _=>l.length - (intOf i).toNat)
 case atStart=>exact⟨0,Nat.zero_le _,rfl,hid fun q _ h=>absurd h (Nat.not_lt_zero _),Below.refl _ _⟩
 case round=>
  obtain⟨j,hj,rfl,HNo,hb⟩:=hrel;have HB:=hid hb;have hbs:=hb.size
  by_cases hlt:j < l.length
  ·have hx:l[j]∈l:=List.getElem_mem hlt;have HTj:=hid (HT.out l[j] hx);obtain⟨X,hX⟩:∃ X,X=T l[j]:=⟨_,rfl⟩;have HX:Hid (X=T l[j]):=hid hX;rw[←hX]at HTj;have HI1:Hid (X=true→idxOf l T=(j:Int)):=hid fun h=>idx_hit hlt (HX.out.symm.trans h) HNo.out;have HI2:Hid (X=false→∀ q (h:q < l.length),q < j+1→T l[q]=false):=hid fun h=>step_no l T j HNo.out fun _=>HX.out.symm.trans h;clear HX HNo;obtain⟨b0,o0,rfl,hb1,hb2,x0,x1⟩:=(HV.out _ hb).pairAt j hlt;generalize l[j]=e at *;obtain⟨e0,e1⟩:=e;dsimp only at x0 x1 HTj;have HTw:=hid (HTj.out wr hb);clear hb hx hX;have i1:(0:Int)≤(j:Int):=Int.natCast_nonneg j;have i2:(j:Int) < (l.length:Int):=by omega
   clear HTj HT
   go_wp2_with fail
   refine HTw.out.mono ?_;clear HTw;rintro e w1 ⟨rfl,hb1'⟩;have HB1:=hid (HB.out.trans (hb1'.mono hbs));clear hb1';cases X with
   | true=>
     have HI:Hid (idxOf l T=(j:Int)):=hid (HI1.out rfl);clear HI1 HI2
     go_wp2_with fail
     go_ret
     exact⟨by rw[HI.out];rfl,HB1.out⟩
   | false=>
     have HN2:Hid (∀ q (h:q < l.length),q < j+1→T l[q]=false):=hid (HI2.out rfl);clear HI1 HI2
     go_wp2_with fail
     go_roundw
     case rel=>exact⟨j+1,by omega,by go_num,HN2,HB1.out⟩
     case measure=>simp[intOf];omega
  ·obtain rfl:j=l.length:=by omega
   have HI:Hid (idxOf l T= -1):=hid (idx_no fun q h=>HNo.out q h h);clear hb HNo
   go_wp2_with fail
   go_ret
   exact⟨by rw[HI.out];rfl,HB.out⟩
theorem containsF_any (l:List (Int×Int)) (v:Value) (T:(Int×Int)→Bool) (lo:Nat) (w:World) (hv:ListOk Enc.pair w lo w.heap.size v l) (hn:l.length≤1000000000)
 (HT:Hid (∀ x∈l,∀ W,Below w.heap.size w W→Calls Tryz.prog 201 #[.agg #[.int .i64 x.1,.int .i64 x.2]] W fun e w'=>e=.returned (.bool (T x))∧Below W.heap.size W w')):
 Calls Tryz.prog 157 #[v,.func (.func 201) #[] #[]] w fun e w'=>e=.returned (.bool (l.any T))∧Below w.heap.size w w':=by
 have HI:=hid (indexF_any l v T lo w hv hn HT);have HE:=hid (idx_any l T);clear HT hv;generalize idxOf l T=I at *;generalize l.any T=X at*
 go_enter Tryz.func157,Tryz.ntmps157
 go_wp2_with fail
 refine HI.out.mono ?_;clear HI;rintro e w1 ⟨rfl,hb⟩;have HB:=hid hb;clear hb
 go_wp2_with fail
 go_ret
 exact⟨by rw[←HE.out];rfl,HB.out⟩
theorem indexH_any (l:List (Int×Int)) (v:Value) (q0:Nat) (T:(Int×Int)→Bool) (lo:Nat) (w:World) (hv:ListOk Enc.pair w lo w.heap.size v l) (hn:l.length≤1000000000)
 (HT:Hid (∀ x∈l,∀ W,Below w.heap.size w W→Calls Tryz.prog 158 #[.agg #[.int .i64 x.1,.int .i64 x.2],.pointer (some ⟨q0,0,none⟩)] W fun e w'=>e=.returned (.bool (T x))∧Below W.heap.size W w')):
 Calls Tryz.prog 202 #[v,.func (.func 158) #[] #[.pointer (some ⟨q0,0,none⟩)]] w fun e w'=>e=.returned (.int .i64 (idxOf l T))∧Below w.heap.size w w':=by
 obtain⟨A,c,rfl,hc⟩:=hv.form;have HV:Hid (∀ W,Below w.heap.size w W→ListOk Enc.pair W lo w.heap.size (.slice A l.length c) l):=hid fun W hW=>hv.below Enc.pair_laws hW;clear hv
 go_enter Tryz.func202,Tryz.ntmps202
 go_wp2_with fail
 go_loopw [5,8] (fun _ i wr=>∃ j:Nat,j≤l.length∧i=.int .i64 (j:Int)∧Hid (∀ q (h:q < l.length),q < j→T l[q]=false)∧Below w.heap.size w wr) (fun _ i _=>l.length - (intOf i).toNat)
 case atStart=>exact⟨0,Nat.zero_le _,rfl,hid fun q _ h=>absurd h (Nat.not_lt_zero _),Below.refl _ _⟩
 case round=>
  obtain⟨j,hj,rfl,HNo,hb⟩:=hrel;have HB:=hid hb;have hbs:=hb.size
  by_cases hlt:j < l.length
  ·have hx:l[j]∈l:=List.getElem_mem hlt;have HTj:=hid (HT.out l[j] hx);obtain⟨X,hX⟩:∃ X,X=T l[j]:=⟨_,rfl⟩;have HX:Hid (X=T l[j]):=hid hX;rw[←hX]at HTj;have HI1:Hid (X=true→idxOf l T=(j:Int)):=hid fun h=>idx_hit hlt (HX.out.symm.trans h) HNo.out;have HI2:Hid (X=false→∀ q (h:q < l.length),q < j+1→T l[q]=false):=hid fun h=>step_no l T j HNo.out fun _=>HX.out.symm.trans h;clear HX HNo;obtain⟨b0,o0,rfl,hb1,hb2,x0,x1⟩:=(HV.out _ hb).pairAt j hlt;generalize l[j]=e at *;obtain⟨e0,e1⟩:=e;dsimp only at x0 x1 HTj;have HTw:=hid (HTj.out wr hb);clear hb hx hX;have i1:(0:Int)≤(j:Int):=Int.natCast_nonneg j;have i2:(j:Int) < (l.length:Int):=by omega
   clear HTj HT
   go_wp2_with fail
   refine HTw.out.mono ?_;clear HTw;rintro e w1 ⟨rfl,hb1'⟩;have HB1:=hid (HB.out.trans (hb1'.mono hbs));clear hb1';cases X with
   | true=>
     have HI:Hid (idxOf l T=(j:Int)):=hid (HI1.out rfl);clear HI1 HI2
     go_wp2_with fail
     go_ret
     exact⟨by rw[HI.out];rfl,HB1.out⟩
   | false=>
     have HN2:Hid (∀ q (h:q < l.length),q < j+1→T l[q]=false):=hid (HI2.out rfl);clear HI1 HI2
     go_wp2_with fail
     go_roundw
     case rel=>exact⟨j+1,by omega,by go_num,HN2,HB1.out⟩
     case measure=>simp[intOf];omega
  ·obtain rfl:j=l.length:=by omega
   have HI:Hid (idxOf l T= -1):=hid (idx_no fun q h=>HNo.out q h h);clear hb HNo
   go_wp2_with fail
   go_ret
   exact⟨by rw[HI.out];rfl,HB.out⟩
theorem containsH_any (l:List (Int×Int)) (v:Value) (q0:Nat) (T:(Int×Int)→Bool) (lo:Nat) (w:World) (hv:ListOk Enc.pair w lo w.heap.size v l) (hn:l.length≤1000000000)
 (HT:Hid (∀ x∈l,∀ W,Below w.heap.size w W→Calls Tryz.prog 158 #[.agg #[.int .i64 x.1,.int .i64 x.2],.pointer (some ⟨q0,0,none⟩)] W fun e w'=>e=.returned (.bool (T x))∧Below W.heap.size W w')):
 Calls Tryz.prog 157 #[v,.func (.func 158) #[] #[.pointer (some ⟨q0,0,none⟩)]] w fun e w'=>e=.returned (.bool (l.any T))∧Below w.heap.size w w':=by
 have HI:=hid (indexH_any l v q0 T lo w hv hn HT);have HE:=hid (idx_any l T);clear HT hv;generalize idxOf l T=I at *;generalize l.any T=X at*
 go_enter Tryz.func157,Tryz.ntmps157
 go_wp2_with fail
 refine HI.out.mono ?_;clear HI;rintro e w1 ⟨rfl,hb⟩;have HB:=hid hb;clear hb
 go_wp2_with fail
 go_ret
 exact⟨by rw[←HE.out];rfl,HB.out⟩
theorem indexR_any (l:List Rl) (v:Value) (q0:Nat) (T:Rl→Bool) (lo:Nat) (w:World) (hv:ListOk Enc.rl w lo w.heap.size v l) (hn:l.length≤1000000000)
 (HT:Hid (∀ x∈l,∀ W,Below w.heap.size w W→∀ V,ListOk Enc.pair W lo W.heap.size V x.rng→Calls Tryz.prog 104 #[.agg #[.int .u8 x.op.toNat,.int .i64 x.mod,.bool x.neg,V],.pointer (some ⟨q0,0,none⟩)] W fun e w'=>e=.returned (.bool (T x))∧Below W.heap.size W w')):
 Calls Tryz.prog 156 #[v,.func (.func 104) #[] #[.pointer (some ⟨q0,0,none⟩)]] w fun e w'=>e=.returned (.int .i64 (idxOf l T))∧Below w.heap.size w w':=by
 obtain⟨A,c,rfl,hc⟩:=hv.form;have HV:Hid (∀ W,Below w.heap.size w W→ListOk Enc.rl W lo w.heap.size (.slice A l.length c) l):=hid fun W hW=>hv.below Enc.rl_laws hW;clear hv
 go_enter Tryz.func156,Tryz.ntmps156
 go_wp2_with fail
 go_loopw [5,8] (fun _ i wr=>∃ j:Nat,j≤l.length∧i=.int .i64 (j:Int)∧Hid (∀ q (h:q < l.length),q < j→T l[q]=false)∧Below w.heap.size w wr) (fun _ i _=>l.length - (intOf i).toNat)
 case atStart=>exact⟨0,Nat.zero_le _,rfl,hid fun q _ h=>absurd h (Nat.not_lt_zero _),Below.refl _ _⟩
 case round=>
  obtain⟨j,hj,rfl,HNo,hb⟩:=hrel;have HB:=hid hb;have hbs:=hb.size
  by_cases hlt:j < l.length
  ·have hx:l[j]∈l:=List.getElem_mem hlt;have HTj:=hid (HT.out l[j] hx);obtain⟨X,hX⟩:∃ X,X=T l[j]:=⟨_,rfl⟩;have HX:Hid (X=T l[j]):=hid hX;rw[←hX]at HTj;have HI1:Hid (X=true→idxOf l T=(j:Int)):=hid fun h=>idx_hit hlt (HX.out.symm.trans h) HNo.out;have HI2:Hid (X=false→∀ q (h:q < l.length),q < j+1→T l[q]=false):=hid fun h=>step_no l T j HNo.out fun _=>HX.out.symm.trans h;clear HX HNo;obtain⟨b0,o0,V,rfl,hb1,hb2,x0,x1,x2,x3,hV⟩:=(HV.out _ hb).rlAt j hlt;generalize l[j]=e at *;obtain⟨e0,e1,e2,e3⟩:=e;dsimp only at x0 x1 x2 x3 hV HTj;obtain⟨VA,Vc,rfl,_⟩:=hV.form;have HTw:=hid (HTj.out wr hb _ (hV.mono Enc.pair_laws (Nat.le_refl _) hbs));clear hV;clear hb hx hX;have i1:(0:Int)≤(j:Int):=Int.natCast_nonneg j;have i2:(j:Int) < (l.length:Int):=by omega
   clear HTj HT
   go_wp2_with fail
   refine HTw.out.mono ?_;clear HTw;rintro e w1 ⟨rfl,hb1'⟩;have HB1:=hid (HB.out.trans (hb1'.mono hbs));clear hb1';cases X with
   | true=>
     have HI:Hid (idxOf l T=(j:Int)):=hid (HI1.out rfl);clear HI1 HI2
     go_wp2_with fail
     go_ret
     exact⟨by rw[HI.out];rfl,HB1.out⟩
   | false=>
     have HN2:Hid (∀ q (h:q < l.length),q < j+1→T l[q]=false):=hid (HI2.out rfl);clear HI1 HI2
     go_wp2_with fail
     go_roundw
     case rel=>exact⟨j+1,by omega,by go_num,HN2,HB1.out⟩
     case measure=>simp[intOf];omega
  ·obtain rfl:j=l.length:=by omega
   have HI:Hid (idxOf l T= -1):=hid (idx_no fun q h=>HNo.out q h h);clear hb HNo
   go_wp2_with fail
   go_ret
   exact⟨by rw[HI.out];rfl,HB.out⟩
theorem containsR_any (l:List Rl) (v:Value) (q0:Nat) (T:Rl→Bool) (lo:Nat) (w:World) (hv:ListOk Enc.rl w lo w.heap.size v l) (hn:l.length≤1000000000)
 (HT:Hid (∀ x∈l,∀ W,Below w.heap.size w W→∀ V,ListOk Enc.pair W lo W.heap.size V x.rng→Calls Tryz.prog 104 #[.agg #[.int .u8 x.op.toNat,.int .i64 x.mod,.bool x.neg,V],.pointer (some ⟨q0,0,none⟩)] W fun e w'=>e=.returned (.bool (T x))∧Below W.heap.size W w')):
 Calls Tryz.prog 103 #[v,.func (.func 104) #[] #[.pointer (some ⟨q0,0,none⟩)]] w fun e w'=>e=.returned (.bool (l.any T))∧Below w.heap.size w w':=by
 have HI:=hid (indexR_any l v q0 T lo w hv hn HT);have HE:=hid (idx_any l T);clear HT hv;generalize idxOf l T=I at *;generalize l.any T=X at*
 go_enter Tryz.func103,Tryz.ntmps103
 go_wp2_with fail
 refine HI.out.mono ?_;clear HI;rintro e w1 ⟨rfl,hb⟩;have HB:=hid hb;clear hb
 go_wp2_with fail
 go_ret
 exact⟨by rw[←HE.out];rfl,HB.out⟩
theorem indexL_any (l:List (List Rl)) (v:Value) (q0:Nat) (T:(List Rl)→Bool) (lo:Nat) (w:World) (hv:ListOk (Enc.list Enc.rl) w lo w.heap.size v l) (hn:l.length≤1000000000)
 (HT:Hid (∀ x∈l,∀ W,Below w.heap.size w W→∀ V,ListOk Enc.rl W lo W.heap.size V x→Calls Tryz.prog 102 #[V,.pointer (some ⟨q0,0,none⟩)] W fun e w'=>e=.returned (.bool (T x))∧Below W.heap.size W w')):
 Calls Tryz.prog 155 #[v,.func (.func 102) #[] #[.pointer (some ⟨q0,0,none⟩)]] w fun e w'=>e=.returned (.int .i64 (idxOf l T))∧Below w.heap.size w w':=by
 obtain⟨A,c,rfl,hc⟩:=hv.form;have HV:Hid (∀ W,Below w.heap.size w W→ListOk (Enc.list Enc.rl) W lo w.heap.size (.slice A l.length c) l):=hid fun W hW=>hv.below (Enc.list_laws Enc.rl_laws) hW;clear hv
 go_enter Tryz.func155,Tryz.ntmps155
 go_wp2_with fail
 go_loopw [5,8] (fun _ i wr=>∃ j:Nat,j≤l.length∧i=.int .i64 (j:Int)∧Hid (∀ q (h:q < l.length),q < j→T l[q]=false)∧Below w.heap.size w wr) (fun _ i _=>l.length - (intOf i).toNat)
 case atStart=>exact⟨0,Nat.zero_le _,rfl,hid fun q _ h=>absurd h (Nat.not_lt_zero _),Below.refl _ _⟩
 case round=>
  obtain⟨j,hj,rfl,HNo,hb⟩:=hrel;have HB:=hid hb;have hbs:=hb.size
  by_cases hlt:j < l.length
  ·have hx:l[j]∈l:=List.getElem_mem hlt;have HTj:=hid (HT.out l[j] hx);obtain⟨X,hX⟩:∃ X,X=T l[j]:=⟨_,rfl⟩;have HX:Hid (X=T l[j]):=hid hX;rw[←hX]at HTj;have HI1:Hid (X=true→idxOf l T=(j:Int)):=hid fun h=>idx_hit hlt (HX.out.symm.trans h) HNo.out;have HI2:Hid (X=false→∀ q (h:q < l.length),q < j+1→T l[q]=false):=hid fun h=>step_no l T j HNo.out fun _=>HX.out.symm.trans h;clear HX HNo;obtain⟨b0,o0,V,rfl,hb1,hb2,x0,hV⟩:=(HV.out _ hb).listAt j hlt;generalize l[j]=e at *;obtain⟨VA,Vc,rfl,_⟩:=hV.form;have HTw:=hid (HTj.out wr hb _ (hV.mono Enc.rl_laws (Nat.le_refl _) hbs));clear hV;clear hb hx hX;have i1:(0:Int)≤(j:Int):=Int.natCast_nonneg j;have i2:(j:Int) < (l.length:Int):=by omega
   clear HTj HT
   go_wp2_with fail
   refine HTw.out.mono ?_;clear HTw;rintro e w1 ⟨rfl,hb1'⟩;have HB1:=hid (HB.out.trans (hb1'.mono hbs));clear hb1';cases X with
   | true=>
     have HI:Hid (idxOf l T=(j:Int)):=hid (HI1.out rfl);clear HI1 HI2
     go_wp2_with fail
     go_ret
     exact⟨by rw[HI.out];rfl,HB1.out⟩
   | false=>
     have HN2:Hid (∀ q (h:q < l.length),q < j+1→T l[q]=false):=hid (HI2.out rfl);clear HI1 HI2
     go_wp2_with fail
     go_roundw
     case rel=>exact⟨j+1,by omega,by go_num,HN2,HB1.out⟩
     case measure=>simp[intOf];omega
  ·obtain rfl:j=l.length:=by omega
   have HI:Hid (idxOf l T= -1):=hid (idx_no fun q h=>HNo.out q h h);clear hb HNo
   go_wp2_with fail
   go_ret
   exact⟨by rw[HI.out];rfl,HB.out⟩
theorem containsL_any (l:List (List Rl)) (v:Value) (q0:Nat) (T:(List Rl)→Bool) (lo:Nat) (w:World) (hv:ListOk (Enc.list Enc.rl) w lo w.heap.size v l) (hn:l.length≤1000000000)
 (HT:Hid (∀ x∈l,∀ W,Below w.heap.size w W→∀ V,ListOk Enc.rl W lo W.heap.size V x→Calls Tryz.prog 102 #[V,.pointer (some ⟨q0,0,none⟩)] W fun e w'=>e=.returned (.bool (T x))∧Below W.heap.size W w')):
 Calls Tryz.prog 101 #[v,.func (.func 102) #[] #[.pointer (some ⟨q0,0,none⟩)]] w fun e w'=>e=.returned (.bool (l.any T))∧Below w.heap.size w w':=by
 have HI:=hid (indexL_any l v q0 T lo w hv hn HT);have HE:=hid (idx_any l T);clear HT hv;generalize idxOf l T=I at *;generalize l.any T=X at*
 go_enter Tryz.func101,Tryz.ntmps101
 go_wp2_with fail
 refine HI.out.mono ?_;clear HI;rintro e w1 ⟨rfl,hb⟩;have HB:=hid hb;clear hb
 go_wp2_with fail
 go_ret
 exact⟨by rw[←HE.out];rfl,HB.out⟩
end Go.Proofs.YtagfnpdoooachaaGreatDoor
