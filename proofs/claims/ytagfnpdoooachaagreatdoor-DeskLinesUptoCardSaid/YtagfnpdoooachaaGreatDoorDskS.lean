/- strconv.Atoi and strings.Cut as the desk asks them; dec.Parse. -/
import Derived.Test.YtagfnpdoooachaaGreatDoorDskP
set_option linter.unusedSimpArgs false
set_option linter.unusedVariables false
set_option maxHeartbeats 3200000
set_option maxRecDepth 100000
namespace Go.Proofs.YtagfnpdoooachaaGreatDoor
open Go.RowKit
open Lib (hid)
theorem atoiV_bounds {l:List UInt8} {v:Int} (h:atoiV l=some v): -9223372036854775808≤v∧v≤9223372036854775807:=by
 unfold atoiV at h;cases ha:Lib.atoiAll l with
 | ok u=>
   rw[ha]at h;injection h with h;subst h;exact Lib.atoiAll_bounds ha
 | _ =>rw[ha]at h;cases h
theorem atoiV_any (s:ByteArray) (w:World) (hs:s.size≤1000000000) (hv:RV w):
 Calls Tryz.prog 52 #[.string s] w fun e w'=>((∃ v,e=.returned (.tuple #[.int .i64 v,.nilIface])∧atoiV (bts s)=some v)∨(∃ v t p,e=.returned (.tuple #[.int .i64 v,.iface t p])∧atoiV (bts s)=none))∧Below w.heap.size w w':=by
 obtain⟨t1,p1,h1⟩:=hv.syn;obtain⟨t2,p2,h2⟩:=hv.rng;cases h:Lib.atoiAll s.data.toList with
 | ok v=>
   refine(Tryz.strconv_Atoi_ok s (by omega) v h w).mono ?_
   rintro e w' ⟨rfl,hw⟩;refine⟨.inl ⟨v,rfl,by unfold atoiV bts;rw[h]⟩,?_⟩
   rcases hw with rfl|⟨t,rfl⟩
   ·exact Below.refl _ _
   ·exact Lib.bytesWorld_below _ _ _
 | range=>
   refine(Tryz.strconv_Atoi_range_var s (by omega) h t2 p2 w h2).mono ?_
   rintro e w' ⟨N,rfl,_,_,hb⟩;exact⟨.inr ⟨_,_,_,rfl,by unfold atoiV bts;rw[h]⟩,hb⟩
 | _ =>
   refine(Tryz.strconv_Atoi_syntax_var s (by omega) h t1 p1 w h1).mono ?_
   rintro e w' ⟨N,rfl,_,_,hb⟩;exact⟨.inr ⟨0,_,_,rfl,by unfold atoiV bts;rw[h]⟩,hb⟩
theorem cutB_any (s:ByteArray) (c:UInt8) (w:World) (hs:s.size < 4294967281) (hv:RV w):
 Calls Tryz.prog 12 #[.string s,.string ⟨#[c]⟩] w fun e w'=>e=.returned (.tuple #[.string (str (Lib.cut (bts s) [c]).1),.string (str (Lib.cut (bts s) [c]).2.1),.bool (Lib.cut (bts s) [c]).2.2])∧Below w.heap.size w w':=by
 obtain⟨m,hm⟩:=hv.max;refine(Tryz.strings_Cut s ⟨#[c]⟩ m w hs hm).mono ?_;rintro e w' ⟨rfl,n,rfl⟩;exact⟨rfl,below_drewN (Below.refl _ _) _⟩
theorem cut_lens (s:ByteArray) (c:UInt8):(Lib.cut (bts s) [c]).1.length+(Lib.cut (bts s) [c]).2.1.length≤s.size:=by
 rw[←bts_len];unfold Lib.cut;split
 ·rw[List.length_take,List.length_drop];omega
 ·simp
theorem str_app (a b:List UInt8):str a++str b=str (a++b):=by
 apply bts_inj;show(str a++str b).data.toList=_;simp[str,bts]
theorem neq_str {l:List UInt8} {s:ByteArray} (h:¬ l=bts s):((str l).toList == s.toList)=false:=by
 have h1:eqs (str l) s=false:=by
  cases he:eqs (str l) s with
  | false=>rfl
  | true=>
    have h2:=(eqs_iff _ _).1 he;exact absurd (by rw[←h2,bts_str]) h
 exact h1
theorem dparse_any (s:ByteArray) (w:World) (hs:s.size≤1000000000) (hv:EvV w):
 Calls Tryz.prog 21 #[.string s] w fun e w'=>((∃ d,decP s=some d∧e=.returned (.tuple #[d.v,.nilIface]))∨(decP s=none∧e=.returned (.tuple #[DecV.v ⟨0,0⟩,.iface 27 (.int .i64 3)])))∧Below w.heap.size w w':=by
 have hcl:=cut_lens s 46;obtain⟨W1,eW1⟩:∃ W,W=w.alloc (.cells #[.int .i64 0,.int .i64 0] 44):=⟨_,rfl⟩;have hb1:Below w.heap.size w W1:=by rw[eW1];exact(Below.refl _ _).alloc (Nat.le_refl _) _
 have hk1:Blk W1 w.heap.size 44 #[.int .i64 0,.int .i64 0]:=by rw[eW1];exact Blk.new w _ _
 have HC:=hid (cutB_any s 46 W1 (by omega) (hv.rv.below hb1))
 obtain⟨a,ha⟩:∃ a,a=(Lib.cut (bts s) [46]).1:=⟨_,rfl⟩;obtain⟨b,hb⟩:∃ b,b=(Lib.cut (bts s) [46]).2.1:=⟨_,rfl⟩;obtain⟨x,hx⟩:∃ x,x=(Lib.cut (bts s) [46]).2.2:=⟨_,rfl⟩;have hD:decP s=(atoiV (a++b)).bind fun v=>if DecV.ok ⟨v,(b.length:Nat)⟩∧textD ⟨v,(b.length:Nat)⟩=bts s then some ⟨v,(b.length:Nat)⟩else none:=by rw[ha,hb];rfl
 rw[←ha,←hb]at hcl;rw[←ha,←hb,←hx]at HC;have HD:=hid hD;have HA:Hid (∀ W,Below w.heap.size w W→Calls Tryz.prog 52 #[.string (str a++str b)] W fun e w'=>((∃ v,e=.returned (.tuple #[.int .i64 v,.nilIface])∧atoiV (a++b)=some v)∨(∃ v t p,e=.returned (.tuple #[.int .i64 v,.iface t p])∧atoiV (a++b)=none))∧Below W.heap.size W w'):=hid fun W hW=>by
  have h:=atoiV_any (str (a++b)) W (by rw[str_size,List.length_append];omega) (hv.rv.below hW)
  rw[bts_str]at h;rw[str_app];exact h
 have HV:Hid (∀ W,Below w.heap.size w W→EvV W):=hid fun W hW=>hv.below hW;have q1:¬(9223372036854775807 < (str a).size+(str b).size):=by rw[str_size,str_size];omega
 obtain⟨sb,hsb⟩:∃ sb:Nat,sb=(str b).size:=⟨_,rfl⟩;have hbz:b.length=sb:=by rw[hsb,str_size]
 rw[hbz]at hD;have HD:=hid hD;have HSb:=hid hsb;have EW1:=hid eW1;have HB1:=hid hb1;have HK1:=hid hk1;have hsbl:sb≤1000000000:=by omega
 clear ha hb hx hD hv hsb hbz eW1 hb1 hk1
 go_enter Tryz.func21,Tryz.ntmps21
 go_upto_region 1 with fail
 rw[←EW1.out];clear EW1
 go_wp2_with fail
 refine HC.out.mono ?_;clear HC;rintro e w2 ⟨rfl,hb2⟩;have hb2':=HB1.out.trans (hb2.mono HB1.out.size);have HB2:=hid hb2';have HK2:=hid (HK1.out.below hb2 HK1.out.lt);have HA1:=hid (HA.out w2 hb2');clear hb2 hb2' HA HK1 HB1
 go_wp2_with fail
 refine HA1.out.mono ?_;clear HA1;rintro e w3 ⟨hres,hb3⟩;have HB3:=hid (HB2.out.trans (hb3.mono HB2.out.size));have HK3:=hid (HK2.out.below hb3 HK2.out.lt);clear hb3 HK2 HB2;rcases hres with⟨v,rfl,hn⟩|⟨v,t,p,rfl,hn⟩
 ·obtain⟨W4,eW4⟩:∃ W,W=w3.alloc (.cells #[.int .i64 v,.int .i64 (sb:Int)] 44):=⟨_,rfl⟩;have hb4:Below w3.heap.size w3 W4:=by rw[eW4];exact(Below.refl _ _).alloc (Nat.le_refl _) _
  have hk4:Blk W4 w3.heap.size 44 #[.int .i64 v,.int .i64 (sb:Int)]:=by rw[eW4];exact Blk.new w3 _ _
  have HP:Hid (decP s=if DecV.ok ⟨v,(sb:Int)⟩∧textD ⟨v,(sb:Int)⟩=bts s then some ⟨v,(sb:Int)⟩else none):=hid (by rw[HD.out,hn];rfl)
  have EW4:=hid eW4;have HB4:=hid (HB3.out.trans (hb4.mono HB3.out.size));have HK4:=hid hk4;have HR4:=hid (HK3.out.below hb4 HK3.out.lt);have hCk:=checkD_any ⟨v,(sb:Int)⟩ W4;unfold DecV.v at hCk;have HCk:=hid hCk;have d0:=(hk4.cell 0).trans (show _=some (.int .i64 v)from rfl);have d1:=(hk4.cell 1).trans (show _=some (.int .i64 (sb:Int))from rfl);clear hn eW4 hb4 hk4 hCk HK3 HB3 HD
  go_upto_region 4 with fail
  rw[←HSb.out,←EW4.out];clear EW4
  go_wp2_with fail
  refine HCk.out.mono ?_;clear HCk d0 d1;rintro e w5 ⟨rfl,hb5⟩;have HB5:=hid (HB4.out.trans (hb5.mono HB4.out.size));have HK5:=hid (HK4.out.below hb5 HK4.out.lt);have HR5:=hid (HR4.out.below hb5 HR4.out.lt);clear hb5 HK4 HR4
  by_cases hok:DecV.ok ⟨v,(sb:Int)⟩
  ·have hT:=textD_any ⟨v,(sb:Int)⟩ w5 hok (HV.out w5 HB5.out).mv;unfold DecV.v at hT;have HT:=hid hT;rw[checkD_ok hok,errD_zero];have d0:=(HK5.out.cell 0).trans (show _=some (.int .i64 v)from rfl);have d1:=(HK5.out.cell 1).trans (show _=some (.int .i64 (sb:Int))from rfl);have HOk:=hid hok;clear hT hok
   go_wp2_with fail
   refine HT.out.mono ?_;clear HT d0 d1;rintro e w6 ⟨rfl,hb6⟩;have HB6:=hid (HB5.out.trans (hb6.mono HB5.out.size));have HK6:=hid (HK5.out.below hb6 HK5.out.lt);have HR6:=hid (HR5.out.below hb6 HR5.out.lt);clear hb6 HK5 HR5;have d0:=(HK6.out.cell 0).trans (show _=some (.int .i64 v)from rfl);have d1:=(HK6.out.cell 1).trans (show _=some (.int .i64 (sb:Int))from rfl);have r0:=(HR6.out.cell 0).trans (show _=some (.int .i64 0)from rfl);have r1:=(HR6.out.cell 1).trans (show _=some (.int .i64 0)from rfl);have g0:=HR6.out.frozen 0;have g1:=HR6.out.frozen 1
   by_cases heq:textD ⟨v,(sb:Int)⟩=bts s
   ·have HN:Hid (decP s=some ⟨v,(sb:Int)⟩):=hid (by rw[HP.out,if_pos ⟨HOk.out,heq⟩])
    rw[heq,str_bts];clear heq HP
    go_wp2_with fail
    refine bodyPost_ret (v:=.tuple #[.agg #[.int .i64 v,.int .i64 (sb:Int)],.nilIface]) ?_ rfl ?_
    ·simp[results,Tryz.results21,go_sem,r0,r1,g0,g1]
    ·refine⟨.inl ⟨⟨v,(sb:Int)⟩,HN.out,rfl⟩,?_⟩
     repeat' (first|exact HB6.out|refine Below.setCell ?_ (by show w.heap.size≤w.heap.size;omega) _)
   ·have HN:Hid (decP s=none):=hid (by rw[HP.out,if_neg (fun h=>heq h.2)])
    have hne:=neq_str heq;generalize str (textD ⟨v,(sb:Int)⟩)=z at *;clear heq HP
    go_wp2_with fail
    refine bodyPost_ret (v:=.tuple #[.agg #[.int .i64 0,.int .i64 0],.iface 27 (.int .i64 3)]) ?_ rfl ?_
    ·simp[results,Tryz.results21,go_sem,r0,r1,g0,g1]
    ·refine⟨.inr ⟨HN.out,rfl⟩,?_⟩
     repeat' (first|exact HB6.out|refine Below.setCell ?_ (by show w.heap.size≤w.heap.size;omega) _)
  ·have HN:Hid (decP s=none):=hid (by rw[HP.out,if_neg (fun h=>hok h.1)])
   rw[checkD_no hok,errD_ne (by decide)]
   have r0:=(HR5.out.cell 0).trans (show _=some (.int .i64 0)from rfl);have r1:=(HR5.out.cell 1).trans (show _=some (.int .i64 0)from rfl);have g0:=HR5.out.frozen 0;have g1:=HR5.out.frozen 1;clear hok HP
   go_wp2_with fail
   refine bodyPost_ret (v:=.tuple #[.agg #[.int .i64 0,.int .i64 0],.iface 27 (.int .i64 3)]) ?_ rfl ?_
   ·simp[results,Tryz.results21,go_sem,r0,r1,g0,g1]
   ·refine⟨.inr ⟨HN.out,rfl⟩,?_⟩
    repeat' (first|exact HB5.out|refine Below.setCell ?_ (by show w.heap.size≤w.heap.size;omega) _)
 ·have HN:Hid (decP s=none):=hid (by rw[HD.out,hn];rfl)
  clear hn;obtain⟨W4,eW4⟩:∃ W,W=w3.alloc (.cells #[.int .i64 v,.int .i64 (sb:Int)] 44):=⟨_,rfl⟩;have hb4:Below w3.heap.size w3 W4:=by rw[eW4];exact(Below.refl _ _).alloc (Nat.le_refl _) _
  have HB4:=hid (HB3.out.trans (hb4.mono HB3.out.size));have HR4:=hid (HK3.out.below hb4 HK3.out.lt);have EW4:=hid eW4;clear eW4 hb4 HK3 HB3 HD
  go_upto_region 4 with fail
  rw[←HSb.out,←EW4.out];clear EW4;have r0:=(HR4.out.cell 0).trans (show _=some (.int .i64 0)from rfl);have r1:=(HR4.out.cell 1).trans (show _=some (.int .i64 0)from rfl);have g0:=HR4.out.frozen 0;have g1:=HR4.out.frozen 1
  go_wp2_with fail
  refine bodyPost_ret (v:=.tuple #[.agg #[.int .i64 0,.int .i64 0],.iface 27 (.int .i64 3)]) ?_ rfl ?_
  ·simp[results,Tryz.results21,go_sem,r0,r1,g0,g1]
  ·refine⟨.inr ⟨HN.out,rfl⟩,?_⟩
   repeat' (first|exact HB4.out|refine Below.setCell ?_ (by show w.heap.size≤w.heap.size;omega) _)
def thrown (n:Int):List PanicEntry:=[{ v:=.iface 27 (.int .i64 n),recovered:=false }]
theorem must_str (a:Value) (w:World):Calls Tryz.prog 22 #[a,.nilIface] w fun e w'=>e=.returned a∧w'=w:=by
 go_enter Tryz.func22,Tryz.ntmps22
 go_wp2_with fail
 go_ret
 exact⟨rfl,rfl⟩
theorem must_str_no (a:Value) (n:Int) (w:World):Calls Tryz.prog 22 #[a,.iface 27 (.int .i64 n)] w fun e w'=>e=.panicked (thrown n)∧w'=w:=by
 go_enter Tryz.func22,Tryz.ntmps22
 go_wp2_with fail
 exact⟨rfl,rfl,rfl⟩
theorem must_tags (a:Value) (w:World):Calls Tryz.prog 38 #[a,.nilIface] w fun e w'=>e=.returned a∧w'=w:=by
 go_enter Tryz.func38,Tryz.ntmps38
 go_wp2_with fail
 go_ret
 exact⟨rfl,rfl⟩
theorem must_node (a:Value) (w:World):Calls Tryz.prog 46 #[a,.nilIface] w fun e w'=>e=.returned a∧w'=w:=by
 go_enter Tryz.func46,Tryz.ntmps46
 go_wp2_with fail
 go_ret
 exact⟨rfl,rfl⟩
theorem must_node_no (a:Value) (n:Int) (w:World):Calls Tryz.prog 46 #[a,.iface 27 (.int .i64 n)] w fun e w'=>e=.panicked (thrown n)∧w'=w:=by
 go_enter Tryz.func46,Tryz.ntmps46
 go_wp2_with fail
 exact⟨rfl,rfl,rfl⟩
theorem must_set (a b c d f:ByteArray) (w:World):Calls Tryz.prog 24 #[.agg #[.string a,.string b,.string c,.string d,.string f],.nilIface] w fun e w'=>e=.returned (.agg #[.string a,.string b,.string c,.string d,.string f])∧Below w.heap.size w w':=by
 go_enter Tryz.func24,Tryz.ntmps24
 go_wp2_with fail
 refine bodyPost_ret (v:=.agg #[.string a,.string b,.string c,.string d,.string f]) (by simp[results,Tryz.results24,go_sem]) rfl ⟨rfl,?_⟩
 repeat' (first|exact Below.refl _ _|refine Below.setCell ?_ (by show w.heap.size≤_;simp) _|refine Below.alloc ?_ (by simp) _)
theorem must_set_no (a b c d f:ByteArray) (n0:Int) (w:World):Calls Tryz.prog 24 #[.agg #[.string a,.string b,.string c,.string d,.string f],.iface 27 (.int .i64 n0)] w fun e w'=>e=.panicked (thrown n0)∧Below w.heap.size w w':=by
 go_enter Tryz.func24,Tryz.ntmps24
 go_wp2_with fail
 exact⟨rfl,rfl,((Below.refl _ _).alloc (Nat.le_refl _) _).alloc (by simp) _⟩
theorem must_week (a b c:Int) (w:World):Calls Tryz.prog 35 #[.agg #[.int .i64 a,.int .i64 b,.int .i64 c],.nilIface] w fun e w'=>e=.returned (.agg #[.int .i64 a,.int .i64 b,.int .i64 c])∧Below w.heap.size w w':=by
 go_enter Tryz.func35,Tryz.ntmps35
 go_wp2_with fail
 refine bodyPost_ret (v:=.agg #[.int .i64 a,.int .i64 b,.int .i64 c]) (by simp[results,Tryz.results35,go_sem]) rfl ⟨rfl,?_⟩
 repeat' (first|exact Below.refl _ _|refine Below.setCell ?_ (by show w.heap.size≤_;simp) _|refine Below.alloc ?_ (by simp) _)
theorem must_tag (a b c:ByteArray) (A:Option Addr) (n m:Nat) (w:World):Calls Tryz.prog 40 #[.agg #[.string a,.string b,.string c,.slice A n m],.nilIface] w fun e w'=>e=.returned (.agg #[.string a,.string b,.string c,.slice A n m])∧Below w.heap.size w w':=by
 go_enter Tryz.func40,Tryz.ntmps40
 go_wp2_with fail
 refine bodyPost_ret (v:=.agg #[.string a,.string b,.string c,.slice A n m]) (by simp[results,Tryz.results40,go_sem]) rfl ⟨rfl,?_⟩
 repeat' (first|exact Below.refl _ _|refine Below.setCell ?_ (by show w.heap.size≤_;simp) _|refine Below.alloc ?_ (by simp) _)
theorem must_tag_no (a b c:ByteArray) (A:Option Addr) (n m:Nat) (n0:Int) (w:World):Calls Tryz.prog 40 #[.agg #[.string a,.string b,.string c,.slice A n m],.iface 27 (.int .i64 n0)] w fun e w'=>e=.panicked (thrown n0)∧Below w.heap.size w w':=by
 go_enter Tryz.func40,Tryz.ntmps40
 go_wp2_with fail
 exact⟨rfl,rfl,((Below.refl _ _).alloc (Nat.le_refl _) _).alloc (by simp) _⟩
theorem read_dec (a b:Int) (w:World):Calls Tryz.prog 20 #[.agg #[.int .i64 a,.int .i64 b],.nilIface] w fun e w'=>e=.returned (.agg #[.int .i64 a,.int .i64 b])∧Below w.heap.size w w':=by
 go_enter Tryz.func20,Tryz.ntmps20
 go_wp2_with fail
 refine bodyPost_ret (v:=.agg #[.int .i64 a,.int .i64 b]) (by simp[results,Tryz.results20,go_sem]) rfl ⟨rfl,?_⟩
 repeat' (first|exact Below.refl _ _|refine Below.setCell ?_ (by show w.heap.size≤_;simp) _|refine Below.alloc ?_ (by simp) _)
theorem read_dec_no (a b:Int) (t0:TypeId) (p0:Value) (w:World):Calls Tryz.prog 20 #[.agg #[.int .i64 a,.int .i64 b],.iface t0 p0] w fun e w'=>e=.panicked (thrown 9)∧Below w.heap.size w w':=by
 go_enter Tryz.func20,Tryz.ntmps20
 go_wp2_with fail
 exact⟨rfl,rfl,((Below.refl _ _).alloc (Nat.le_refl _) _).alloc (by simp) _⟩
theorem read_date (a b c:Int) (w:World):Calls Tryz.prog 32 #[.agg #[.int .i64 a,.int .i64 b,.int .i64 c],.nilIface] w fun e w'=>e=.returned (.agg #[.int .i64 a,.int .i64 b,.int .i64 c])∧Below w.heap.size w w':=by
 go_enter Tryz.func32,Tryz.ntmps32
 go_wp2_with fail
 refine bodyPost_ret (v:=.agg #[.int .i64 a,.int .i64 b,.int .i64 c]) (by simp[results,Tryz.results32,go_sem]) rfl ⟨rfl,?_⟩
 repeat' (first|exact Below.refl _ _|refine Below.setCell ?_ (by show w.heap.size≤_;simp) _|refine Below.alloc ?_ (by simp) _)
theorem read_date_no (a b c:Int) (t0:TypeId) (p0:Value) (w:World):Calls Tryz.prog 32 #[.agg #[.int .i64 a,.int .i64 b,.int .i64 c],.iface t0 p0] w fun e w'=>e=.panicked (thrown 9)∧Below w.heap.size w w':=by
 go_enter Tryz.func32,Tryz.ntmps32
 go_wp2_with fail
 exact⟨rfl,rfl,((Below.refl _ _).alloc (Nat.le_refl _) _).alloc (by simp) _⟩
theorem read_int (a:Value) (w:World):Calls Tryz.prog 63 #[a,.nilIface] w fun e w'=>e=.returned a∧w'=w:=by
 go_enter Tryz.func63,Tryz.ntmps63
 go_wp2_with fail
 go_ret
 exact⟨rfl,rfl⟩
theorem read_int_no (a:Value) (t:TypeId) (p:Value) (w:World):Calls Tryz.prog 63 #[a,.iface t p] w fun e w'=>e=.panicked (thrown 9)∧w'=w:=by
 go_enter Tryz.func63,Tryz.ntmps63
 go_wp2_with fail
 exact⟨rfl,rfl,rfl⟩
theorem shortF_low {l:List UInt8} {n x:Int} {g:List UInt8} (h:n < 1000):shortF l n x g=(n,x,g):=by
 cases l with
 | nil=>rfl
 | cons u us=>unfold shortF;rw[if_pos h]
theorem shortF_high {u:UInt8} {us:List UInt8} {n x:Int} {g:List UInt8} (h:¬ n < 1000):shortF (u::us) n x g=shortF us (n / 1000) (n % 1000 / 100) [u]:=by
 rw[shortF,if_neg h]
theorem short_ok {n:Int} (h0:0≤n) (h1:n≤1000000000000000) {m x:Int} {g:List UInt8} (h:shortF [75,77,66,84] n 0 []=(m,x,g)):shortT n=(Lib.itoa m++(if m < 10∧0 < x then 46::Lib.itoa x else [])++g,0):=by
 unfold shortT;rw[if_neg (by omega),h]
theorem short_no {n:Int} (h:n < 0∨1000000000000000 < n):shortT n=([],1):=by
 unfold shortT;rw[if_pos h]
def sgns:List UInt8:=[75,77,66,84]
theorem short_any (n:Int) (w:World) (hn0: -9000000000000000000≤n) (hn1:n≤9000000000000000000) (hv:MV w):
 Calls Tryz.prog 29 #[.int .i64 n] w fun e w'=>(((shortT n).2=0∧e=.returned (.tuple #[.string (str (shortT n).1),.nilIface]))∨((shortT n).2=1∧e=.returned (.tuple #[.string ⟨#[]⟩,.iface 27 (.int .i64 1)])))∧Below w.heap.size w w':=by
 by_cases hbad:n < 0∨1000000000000000 < n
 ·have HN:=hid (short_no hbad)
  by_cases h0:n < 0
  ·clear hbad
   go_enter Tryz.func29,Tryz.ntmps29
   go_wp2_with fail
   go_ret2
   exact⟨.inr ⟨by rw[HN.out],rfl⟩,Below.refl _ _⟩
  ·have h1:1000000000000000 < n:=by omega
   clear hbad
   go_enter Tryz.func29,Tryz.ntmps29
   go_wp2_with fail
   go_ret2
   exact⟨.inr ⟨by rw[HN.out],rfl⟩,Below.refl _ _⟩
 ·have h0:0≤n:=by omega
  have h1:n≤1000000000000000:=by omega
  have i0:¬ n < 0:=by omega
  have i1:¬(1000000000000000 < n):=by omega
  have HIt:Hid (∀(m:Int) W,0≤m→m≤1000000000000000→Below w.heap.size w W→Calls Tryz.prog 62 #[.int .i64 m] W fun e w'=>e=.returned (.string (str (Lib.itoa m)))∧Below W.heap.size W w'):=hid fun m W g0 g1 hW=>itoaD_any m W (by omega) (by omega) (hv.below hW)
  have HOk:Hid (∀(m x:Int) (g:List UInt8),shortF sgns n 0 []=(m,x,g)→shortT n=(Lib.itoa m++(if m < 10∧0 < x then 46::Lib.itoa x else [])++g,0)):=hid fun m x g h=>short_ok h0 h1 h
  clear hbad hv
  go_enter Tryz.func29,Tryz.ntmps29
  go_wp2_with fail
  obtain⟨W1,eW1⟩:∃ W1,W1=w.alloc (.cells #[.string ⟨#[75]⟩,.string ⟨#[77]⟩,.string ⟨#[66]⟩,.string ⟨#[84]⟩] 9):=⟨_,rfl⟩;have hk1:Blk W1 w.heap.size 9 #[.string ⟨#[75]⟩,.string ⟨#[77]⟩,.string ⟨#[66]⟩,.string ⟨#[84]⟩]:=by rw[eW1];exact Blk.new w _ _
  have hb1:Below w.heap.size w W1:=by rw[eW1];exact(Below.refl _ _).alloc (Nat.le_refl _) _
  have HK1:=hid hk1;have HB1:=hid hb1;rw[←eW1];clear eW1 hk1 hb1
  go_loopw [0,4,5,18] (fun vn vs vx vi wr=>∃(k:Nat) (m x:Int) (g:List UInt8),k≤4∧vi=.int .i64 (k:Int)∧vn=.int .i64 m∧vx=.int .i64 x∧vs=.string (str g)∧Hid (shortF (sgns.drop k) m x g=shortF sgns n 0 [])∧0≤m∧m≤1000000000000000∧0≤x∧x≤9∧g.length≤1∧wr=W1) (fun _ _ _ vi _=>4 - (intOf vi).toNat)
  case atStart=>exact⟨0,n,0,[],by decide,rfl,rfl,rfl,rfl,hid rfl,h0,h1,by decide,by decide,by decide,rfl⟩
  case round=>
   obtain⟨k,m,x,g,hk,rfl,rfl,rfl,rfl,hf,m0,m1,x0,x1,hg,rfl⟩:=hrel
   by_cases hlt:k < sgns.length
   ·have hck:(#[Value.string ⟨#[75]⟩,.string ⟨#[77]⟩,.string ⟨#[66]⟩,.string ⟨#[84]⟩]:Array Value)[k]? =some (.string (str [sgns[k]'hlt])):=by
     clear hf
     match k,hlt with
     | 0,_=>rfl
     | 1,_=>rfl
     | 2,_=>rfl
     | 3,_=>rfl
    have c0:wr.cell? ⟨w.heap.size,k,none⟩=some (.string (str [sgns[k]'hlt])):=(HK1.out.cell k).trans hck;have j0:(0:Int)≤(k:Int):=Int.natCast_nonneg k;have j1:(k:Int) < 4:=by have h:sgns.length=4:=rfl;omega
    by_cases hm:m < 1000
    ·have hR:shortF sgns n 0 []=(m,x,g):=by rw[←hf.out,shortF_low hm]
     clear hf hck;have HR:=hid (HOk.out m x g hR);have hi:=Lib.itoa_length_le m (by omega) (by omega)
     have hj:=Lib.itoa_length_le x (by omega) (by omega)
     have HI1:=hid (HIt.out m wr m0 m1 HB1.out);have HI2:Hid (∀ W,Below w.heap.size w W→Calls Tryz.prog 62 #[.int .i64 x] W fun e w'=>e=.returned (.string (str (Lib.itoa x)))∧Below W.heap.size W w'):=hid fun W hW=>HIt.out x W x0 (by omega) hW
     have ez:(str (Lib.itoa m)).size=(Lib.itoa m).length:=str_size _;have ey:(str (Lib.itoa x)).size=(Lib.itoa x).length:=str_size _;have eg:(str g).size=g.length:=str_size _;have HA1:Hid ((⟨#[46]⟩:ByteArray)++str (Lib.itoa x)=str (46::Lib.itoa x)):=hid (str_app [46] (Lib.itoa x));have HA2:=hid (str_app (Lib.itoa m) (46::Lib.itoa x));have HA3:=hid (str_app (Lib.itoa m++46::Lib.itoa x) g);have HA4:=hid (str_app (Lib.itoa m) g);generalize Lib.itoa m=im at *;generalize Lib.itoa x=ix at *;clear hR HIt HOk
     by_cases hb:m < 10∧0 < x
     ·obtain⟨ha,hx⟩:=hb;have q1:¬(9223372036854775807 < (⟨#[46]⟩:ByteArray).size+(str ix).size):=by rw[ey];show ¬(_ < 1+_);omega
      have q2:¬(9223372036854775807 < (str im).size+(str (46::ix)).size):=by rw[ez,str_size,List.length_cons];omega
      have q3:¬(9223372036854775807 < (str (im++46::ix)).size+(str g).size):=by rw[str_size,eg,List.length_append,List.length_cons];omega
      have e1:(⟨#[46]⟩:ByteArray)++str ix=str (46::ix):=HA1.out;have q2':¬(9223372036854775807 < (str im).size+((⟨#[46]⟩:ByteArray)++str ix).size):=by rw[e1];exact q2
      have q3':¬(9223372036854775807 < (str im++((⟨#[46]⟩:ByteArray)++str ix)).size+(str g).size):=by rw[e1,HA2.out];exact q3
      clear e1 q2 q3
      go_wp2_with fail
      refine HI1.out.mono ?_;clear HI1;rintro e w2 ⟨rfl,hb2⟩;have HB2:=hid (HB1.out.trans (hb2.mono HB1.out.size));have HI3:=hid (HI2.out w2 HB2.out);clear hb2 HI2
      go_wp2_with fail
      refine HI3.out.mono ?_;clear HI3;rintro e w3 ⟨rfl,hb3⟩;have HB3:=hid (HB2.out.trans (hb3.mono HB2.out.size));clear hb3
      go_wp2_with fail
      go_ret2
      exact⟨.inl ⟨by rw[HR.out],by rw[HR.out,if_pos ⟨ha,hx⟩,←HA3.out,←HA2.out,←HA1.out];rfl⟩,HB3.out⟩
     ·have q3:¬(9223372036854775807 < (str im).size+(str g).size):=by omega
      have HR2:Hid (shortT n=(im++[]++g,0)):=hid (by rw[HR.out,if_neg hb])
      clear HR
      by_cases ha:m < 10
      ·have hx:¬(0 < x):=fun h=>hb ⟨ha,h⟩;clear hb
       go_wp2_with fail
       refine HI1.out.mono ?_;clear HI1;rintro e w2 ⟨rfl,hb2⟩;have HB2:=hid (HB1.out.trans (hb2.mono HB1.out.size));clear hb2
       go_wp2_with fail
       go_ret2
       exact⟨.inl ⟨by rw[HR2.out],by rw[HR2.out,List.append_nil,←HA4.out];rfl⟩,HB2.out⟩
      ·clear hb
       go_wp2_with fail
       refine HI1.out.mono ?_;clear HI1;rintro e w2 ⟨rfl,hb2⟩;have HB2:=hid (HB1.out.trans (hb2.mono HB1.out.size));clear hb2
       go_wp2_with fail
       go_ret2
       exact⟨.inl ⟨by rw[HR2.out],by rw[HR2.out,List.append_nil,←HA4.out];rfl⟩,HB2.out⟩
    ·have hf2:Hid (shortF (sgns.drop (k+1)) (m / 1000) (m % 1000 / 100) [sgns[k]'hlt]=shortF sgns n 0 []):=hid (by
      rw[←hf.out];have e:sgns.drop k=(sgns[k]'hlt)::sgns.drop (k+1):=List.drop_eq_getElem_cons hlt;rw[e,shortF_high hm])
     generalize (sgns[k]'hlt)=u at *;clear hf hck HOk HIt
     go_wp2_with fail
     exact⟨⟨k+1,_,_,[u],by have h:sgns.length=4:=rfl;omega,by go_num,rfl,rfl,rfl,hf2,by omega,by omega,by omega,by omega,Nat.le_refl 1,by first|rfl|trivial⟩,by have h:sgns.length=4:=rfl;simp[intOf];omega⟩
   ·have hk4:k=4:=by have h:sgns.length=4:=rfl;omega
    have hR:shortF sgns n 0 []=(m,x,g):=by rw[←hf.out,hk4];rfl
    have j1:¬((k:Int) < 4):=by omega
    clear hf;have HR:=hid (HOk.out m x g hR);have hi:=Lib.itoa_length_le m (by omega) (by omega)
    have hj:=Lib.itoa_length_le x (by omega) (by omega)
    have HI1:=hid (HIt.out m wr m0 m1 HB1.out);have HI2:Hid (∀ W,Below w.heap.size w W→Calls Tryz.prog 62 #[.int .i64 x] W fun e w'=>e=.returned (.string (str (Lib.itoa x)))∧Below W.heap.size W w'):=hid fun W hW=>HIt.out x W x0 (by omega) hW
    have ez:(str (Lib.itoa m)).size=(Lib.itoa m).length:=str_size _;have ey:(str (Lib.itoa x)).size=(Lib.itoa x).length:=str_size _;have eg:(str g).size=g.length:=str_size _;have HA1:Hid ((⟨#[46]⟩:ByteArray)++str (Lib.itoa x)=str (46::Lib.itoa x)):=hid (str_app [46] (Lib.itoa x));have HA2:=hid (str_app (Lib.itoa m) (46::Lib.itoa x));have HA3:=hid (str_app (Lib.itoa m++46::Lib.itoa x) g);have HA4:=hid (str_app (Lib.itoa m) g);generalize Lib.itoa m=im at *;generalize Lib.itoa x=ix at *;clear hR HIt HOk
    by_cases hb:m < 10∧0 < x
    ·obtain⟨ha,hx⟩:=hb;have q1:¬(9223372036854775807 < (⟨#[46]⟩:ByteArray).size+(str ix).size):=by rw[ey];show ¬(_ < 1+_);omega
     have q2:¬(9223372036854775807 < (str im).size+(str (46::ix)).size):=by rw[ez,str_size,List.length_cons];omega
     have q3:¬(9223372036854775807 < (str (im++46::ix)).size+(str g).size):=by rw[str_size,eg,List.length_append,List.length_cons];omega
     have e1:(⟨#[46]⟩:ByteArray)++str ix=str (46::ix):=HA1.out;have q2':¬(9223372036854775807 < (str im).size+((⟨#[46]⟩:ByteArray)++str ix).size):=by rw[e1];exact q2
     have q3':¬(9223372036854775807 < (str im++((⟨#[46]⟩:ByteArray)++str ix)).size+(str g).size):=by rw[e1,HA2.out];exact q3
     clear e1 q2 q3
     go_wp2_with fail
     refine HI1.out.mono ?_;clear HI1;rintro e w2 ⟨rfl,hb2⟩;have HB2:=hid (HB1.out.trans (hb2.mono HB1.out.size));have HI3:=hid (HI2.out w2 HB2.out);clear hb2 HI2
     go_wp2_with fail
     refine HI3.out.mono ?_;clear HI3;rintro e w3 ⟨rfl,hb3⟩;have HB3:=hid (HB2.out.trans (hb3.mono HB2.out.size));clear hb3
     go_wp2_with fail
     go_ret2
     exact⟨.inl ⟨by rw[HR.out],by rw[HR.out,if_pos ⟨ha,hx⟩,←HA3.out,←HA2.out,←HA1.out];rfl⟩,HB3.out⟩
    ·have q3:¬(9223372036854775807 < (str im).size+(str g).size):=by omega
     have HR2:Hid (shortT n=(im++[]++g,0)):=hid (by rw[HR.out,if_neg hb])
     clear HR
     by_cases ha:m < 10
     ·have hx:¬(0 < x):=fun h=>hb ⟨ha,h⟩;clear hb
      go_wp2_with fail
      refine HI1.out.mono ?_;clear HI1;rintro e w2 ⟨rfl,hb2⟩;have HB2:=hid (HB1.out.trans (hb2.mono HB1.out.size));clear hb2
      go_wp2_with fail
      go_ret2
      exact⟨.inl ⟨by rw[HR2.out],by rw[HR2.out,List.append_nil,←HA4.out];rfl⟩,HB2.out⟩
     ·clear hb
      go_wp2_with fail
      refine HI1.out.mono ?_;clear HI1;rintro e w2 ⟨rfl,hb2⟩;have HB2:=hid (HB1.out.trans (hb2.mono HB1.out.size));clear hb2
      go_wp2_with fail
      go_ret2
      exact⟨.inl ⟨by rw[HR2.out],by rw[HR2.out,List.append_nil,←HA4.out];rfl⟩,HB2.out⟩
end Go.Proofs.YtagfnpdoooachaaGreatDoor
