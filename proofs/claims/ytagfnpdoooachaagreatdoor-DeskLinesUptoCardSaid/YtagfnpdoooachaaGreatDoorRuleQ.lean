/- rule.parsed. -/
import Derived.Test.YtagfnpdoooachaaGreatDoorRegR
set_option linter.unusedSimpArgs false
set_option linter.unusedVariables false
namespace Go.Proofs.YtagfnpdoooachaaGreatDoor
open Go.RowKit Go.Shelf
open Lib (hid)
attribute [local go_sem] Oper.semAt_some
def pairV (p:Int×Int):List Value:=[.int .i64 p.1,.int .i64 p.2]
def flatP (l:List (Int×Int)):List Value:=l.flatMap pairV
theorem flatP_snoc (l:List (Int×Int)) (p:Int×Int):flatP (l++[p])=flatP l++[.int .i64 p.1,.int .i64 p.2]:=by simp[flatP,pairV]
theorem flatP_at:∀(l:List (Int×Int)) (i:Nat) (h:i < l.length),((flatP l).drop (i*2)).take 2=pairV l[i]
 | [],i,h=>by cases h
 | p::l,0,_=>by show((pairV p++flatP l).drop (0*2)).take 2=_;simp[pairV]
 | p::l,i+1,h=>by
   have ih:=flatP_at l i (by simpa using h)
   show((pairV p++flatP l).drop ((i+1)*2)).take 2=_;rw[show(i+1)*2=(pairV p).length+i*2 from by simp[pairV];omega,List.drop_append,List.drop_eq_nil_of_le (Nat.le_add_right _ _),Nat.add_sub_cancel_left]
   exact ih
theorem pairs_of_own {w:World} {base lo hi:Nat} {v:Value} {l:List (Int×Int)} (h:w.ownsRow base 222 2 v l.length (flatP l)) (hb:lo≤base) (hs:w.heap.size≤hi):ListOk Enc.pair w lo hi v l:=
 ListOk.of_own (E:=Enc.pair) h hb hs fun i hl=>flatP_at l i hl
theorem info_pairR:(Tryz.prog.info? 222).map (fun i=>(i.zero,i.size,i.bytes))=some (some (.agg #[.int .i64 0,.int .i64 0]),2,16):=by kernel_rfl
theorem two_new (w:World) (x y:Value) (t:TypeId):∀ j u,[x,y][j]? =some u→(w.alloc (.cells #[x,y] t)).cell? ((⟨w.heap.size,0,none⟩:Addr).add j)=some u:=by
 intro j u hj;have h:=(Blk.new w t #[x,y]).cell j;have e:((⟨w.heap.size,0,none⟩:Addr).add j)=⟨w.heap.size,j,none⟩:=by
  unfold Addr.add;split
  ·rename_i h0
   have h0':j=0:=by simpa using h0
   subst h0';rfl
  ·simp
 rw[e,h];simpa using hj
structure PaSt (w W1:World) (q R0 B N:Nat) (cs:Array Value) (V:Value) (k:Nat) (xs:List Value) (W:World):Prop where
 below:Below w.heap.size w W
 box:Blk W q 162 cs
 row:W.ownsRow N 222 2 V k xs
 res:∃ z,Blk W R0 162 z∧z.size=4
 sq:SqK B W1 W
 kf:KeepsFrom N W1 W
 size:N≤W.heap.size
theorem PaSt.on {w W1:World} {q R0 B N:Nat} {cs:Array Value} {V:Value} {k:Nat} {xs:List Value} {W W':World} (h:PaSt w W1 q R0 B N cs V k xs W) (hb:Below W.heap.size W W'):PaSt w W1 q R0 B N cs V k xs W':=
 ⟨h.below.trans (hb.mono h.below.size),h.box.below hb h.box.lt,own_below h.row hb (Nat.le_refl _),by obtain⟨z,h1,h2⟩:=h.res;exact⟨z,h1.below hb h1.lt,h2⟩,h.sq.trans (sqk_below hb),h.kf.trans (kf_below hb),Nat.le_trans h.size hb.size⟩
theorem PaSt.drew {w W1:World} {q R0 B N:Nat} {cs:Array Value} {V:Value} {k:Nat} {xs:List Value} {W:World} (h:PaSt w W1 q R0 B N cs V k xs W):PaSt w W1 q R0 B N cs V k xs W.drew:=h.on (below_drewN (Below.refl _ _) 1)
theorem PaSt.alloc {w W1:World} {q R0 B N:Nat} {cs:Array Value} {V:Value} {k:Nat} {xs:List Value} {W:World} (h:PaSt w W1 q R0 B N cs V k xs W) (o:Obj):PaSt w W1 q R0 B N cs V k xs (W.alloc o):=h.on ((Below.refl _ _).alloc (Nat.le_refl _) o)
theorem PaSt.push {w W1:World} {q R0 B N:Nat} {c0 c1 c2 V:Value} {k:Nat} {xs:List Value} {W w7:World} {v:Value} {ys:List Value} {m:Nat} (h:PaSt w W1 q R0 B N #[c0,c1,c2,V] V k xs W) (hg:W.grownBy w7 V.ownBlock)
 (hown:w7.ownsRow N 222 2 v m ys) (hB:B+3≤N) (hG:3 < B) (hq:B+3≤q∨(q < B∧q≠3)) (hqw:w.heap.size≤q) (hwN:w.heap.size≤N) (hqR:R0≠q):PaSt w W1 q R0 B N #[c0,c1,c2,v] v m ys (w7.setCell ⟨q,3,none⟩ v):=by
 have hr:∀ r,V.ownBlock=some r→N≤r:=fun r hr=>(own_lt h.row hr).1;have b7:=blkGrown h.box hg (fun e=>own_blkR h.row h.box (by decide) e.symm)
 refine⟨(h.below.grown hg h.below.size (fun r e=>Nat.le_trans hwN (hr r e))).setCell hqw _,?_,?_,?_,?_,?_,?_⟩
 ·exact b7.set_ 3 v
 ·exact own_keep hown fun g hg' _=>Below.heap_setCell _ _ _ _ (fun(e:g=q)=>own_blkR hown b7 (by decide) (by rw[hg',e]))
 ·obtain⟨z,h1,h2⟩:=h.res;exact⟨z,(blkGrown h1 hg (fun e=>own_blkR h.row h1 (by decide) e.symm)).far hqR _,h2⟩
 ·exact(h.sq.trans (sqk_grown hg (fun r e=>by have:=hr r e;omega) hG)).trans (sqk_set _ _ _ _ (by rcases hq with h|h <;> omega) (by rcases hq with h|h <;> omega))
 ·exact(h.kf.trans (kf_grown hg (own_row h.row))).trans (kf_set _ _ _ _ b7)
 ·exact Nat.le_trans (Nat.le_trans h.size hg.size) (by simp[World.setCell])
def PaI (w:World) (q R0 N:Nat) (c0 c1 c2:Value) (l:List (Int×Int)) (k:Nat) (W:World):Prop:=
 Below w.heap.size w W∧N≤W.heap.size∧(∃ z,Blk W R0 162 z∧z.size=4)∧∃ V,Blk W q 162 #[c0,c1,c2,V]∧W.ownsRow N 222 2 V (l.take k).length (flatP (l.take k))
theorem PaI.own {w:World} {q R0 N M:Nat} {c0 c1 c2:Value} {l:List (Int×Int)} (hM:w.heap.size≤M):OwnFrom M (PaI w q R0 N c0 c1 c2 l):=by
 rintro k W W' row ⟨h1,h2,⟨z,h3,h4⟩,V,h5,h6⟩ hg hr;have hr':=fun r e=>(hr r e).2;exact⟨below_nc h1 (Nat.le_refl _) hg (fun r e=>Nat.le_trans hM (hr r e).1),Nat.le_trans h2 hg.size,⟨z,blk_nc h3 hg hr',h4⟩,V,blk_nc h5 hg hr',own_nc h6 hg hr'⟩
theorem PaI.sq {w:World} {q R0 N B:Nat} {c0 c1 c2:Value} {l:List (Int×Int)} {k:Nat} {X Y:World} (h:PaI w q R0 N c0 c1 c2 l k X) (hs:SqS B X Y) (hw:w.heap.size≤B) (hq:q≠B) (hR:R0≠B) (hN:B < N):PaI w q R0 N c0 c1 c2 l k Y:=by
 obtain⟨v,rfl⟩:=hs;obtain⟨h1,h2,⟨z,h3,h4⟩,V,h5,h6⟩:=h;exact⟨h1.setCell hw _,by simpa[World.setCell]using h2,⟨z,h3.far hR _,h4⟩,V,h5.far hq _,own_keep h6 fun g hg' _=>Below.heap_setCell _ _ _ _ (by have:=(own_lt h6 hg').1;show g≠B;omega)⟩
theorem op_first (op:List UInt8) (h:0 < (str op).size) (h1:op.length=1):(str op)[0]'h=opOf op:=by
 obtain⟨c,rfl⟩:∃ c,op=[c]:=List.length_eq_one_iff.1 h1
 rfl
set_option maxHeartbeats 6400000 in
set_option maxRecDepth 100000 in
theorem parsed_any (s:List UInt8) (w:World) (hs:s.length≤2000000) (hv:RV w) (hG:3 < w.heap.size):
 Calls Tryz.prog 98 #[.string (str s)] w fun e w'=>Below w.heap.size w w'∧∃ V,e=.returned (.agg #[.int .u8 (parsedR s).op.toNat,.int .i64 (parsedR s).mod,.bool (parsedR s).neg,V])∧w'.ownsRow w.heap.size 222 2 V (parsedR s).rng.length (flatP (parsedR s).rng):=by
 have HV:=hid hv;have HCut:Hid (∀(W:World) (t sep:List UInt8),t.length≤s.length→Below w.heap.size w W→Calls Tryz.prog 12 #[.string (str t),.string (str sep)] W fun e w'=>e=.returned (.tuple #[.string (str (Lib.cut t sep).1),.string (str (Lib.cut t sep).2.1),.bool (Lib.cut t sep).2.2])∧Below W.heap.size W w'):=hid fun W t sep ht hW=>cutR_any t sep W (by omega) (hv.below hW)
 have HNum:Hid (∀(W:World) (t:List UInt8),t.length≤s.length→Below w.heap.size w W→Calls Tryz.prog 149 #[.string (str t)] W fun e w'=>e=.returned (.int .i64 (numR t))∧Below W.heap.size W w'):=hid fun W t ht hW=>by
  have h:=number_any (str t) W (by rw[str_size];omega) (hv.below hW)
  rwa[bts_str]at h
 clear hv;have hd:=hdTl_len s;have hcl:=cut_len (hdTl s).1 [32,37,32];have hd1:(hdTl s).1.length≤s.length:=hd.1;have hd2:(hdTl s).2.length≤s.length:=hd.2;have hc1:(Lib.cut (hdTl s).1 [32,37,32]).1.length≤s.length:=Nat.le_trans hcl.1 hd1;have hc2:(Lib.cut (hdTl s).1 [32,37,32]).2.1.length≤s.length:=Nat.le_trans hcl.2 hd1;clear hd hcl;obtain⟨W1,eW1⟩:∃ W1,W1=w.alloc (.cells #[.int .u8 0,.int .i64 0,.bool false,.slice none 0 0] 162):=⟨_,rfl⟩;have HB1:Hid (Below w.heap.size w W1):=hid (by rw[eW1];exact(Below.refl _ _).alloc (Nat.le_refl _) _)
 have M1:Hid (Blk W1 w.heap.size 162 #[.int .u8 0,.int .i64 0,.bool false,.slice none 0 0]):=hid (by rw[eW1];exact Blk.new _ _ _)
 have HC1:Hid (Calls Tryz.prog 12 #[.string (str s),.string ⟨#[32,61,32]⟩] W1 fun e w'=>e=.returned (.tuple #[.string (str (Lib.cut s [32,61,32]).1),.string (str (Lib.cut s [32,61,32]).2.1),.bool (Lib.cut s [32,61,32]).2.2])∧Below W1.heap.size W1 w'):=hid (HCut.out W1 s [32,61,32] (Nat.le_refl _) HB1.out);have HW1:=hid eW1;clear eW1;refine(callsIn_wide (n:=5)).1 ?_;refine callsIn_of_wp_marks Tryz.func98 rfl trivial ?_ rfl;simp only[Tryz.ntmps98,List.size_toArray,List.length_cons,List.length_nil,Nat.reduceAdd,Nat.reduceSub,Array.replicate_succ,Array.replicate_zero,List.push_toArray,List.append_toArray,List.nil_append,List.cons_append]
 gi_wp2
 rw[←HW1.out];clear HW1;refine⟨trivial,(callsIn_wide.2 HC1.out).mono ?_⟩;clear HC1;rintro e w2 ⟨rfl,hb2⟩;have HB2:=hid (HB1.out.trans (hb2.mono HB1.out.size));have M2:=hid (M1.out.below hb2 M1.out.lt);clear hb2 M1 HB1;obtain⟨W3,eW3⟩:∃ W3,W3=w2.alloc (.cells #[.int .u8 0,.int .i64 0,.bool false,.slice none 0 0] 162):=⟨_,rfl⟩;obtain⟨q,eq⟩:∃ q,q=w2.heap.size:=⟨_,rfl⟩;have hqw:w.heap.size≤q:=by rw[eq];exact HB2.out.size
 have hqR:w.heap.size≠q:=by rw[eq];have:=M2.out.lt;omega
 have HB3:Hid (Below w.heap.size w W3):=hid (by rw[eW3];exact HB2.out.alloc HB2.out.size _)
 have M3:Hid (Blk W3 w.heap.size 162 #[.int .u8 0,.int .i64 0,.bool false,.slice none 0 0]):=hid (by rw[eW3];exact M2.out.alloc _)
 have Q3:Hid (Blk W3 q 162 #[.int .u8 0,.int .i64 0,.bool false,.slice none 0 0]):=hid (by rw[eW3,eq];exact Blk.new _ _ _)
 have HW3:=hid eW3;have HQ:=hid eq;clear eW3 eq M2 HB2;obtain⟨Z,hZ⟩:∃ Z,Z= !(Lib.cut s [32,61,32]).2.2:=⟨_,rfl⟩
 gi_upto_if 21 with fail
 rw[←hZ,←HW3.out,←HQ.out];clear HW3 HQ;have HT:Hid (hdTl s=if Z=true then((Lib.cut s [32,33,61,32]).1,(Lib.cut s [32,33,61,32]).2.1)else((Lib.cut s [32,61,32]).1,(Lib.cut s [32,61,32]).2.1)):=hid (by
  unfold hdTl;rw[hZ];cases(Lib.cut s [32,61,32]).2.2 <;> rfl)
 have HP:Hid (parsedR s=⟨opOf (Lib.cut (hdTl s).1 [32,37,32]).1,if(Lib.cut (hdTl s).1 [32,37,32]).2.2 then numR (Lib.cut (hdTl s).1 [32,37,32]).2.1 else 0,Z,(pcsS [44] (hdTl s).2).map rangeOf⟩):=hid (by rw[hZ];rfl)
 clear hZ
 gi_cut [3,4]from 30 (fun h t wx=>h=.string (str (hdTl s).1)∧t=.string (str (hdTl s).2)∧Below w.heap.size w wx∧Blk wx q 162 #[.int .u8 0,.int .i64 0,.bool Z,.slice none 0 0]∧Blk wx w.heap.size 162 #[.int .u8 0,.int .i64 0,.bool false,.slice none 0 0])
 case first=>
  cases Z with
  | false=>
    rw[if_neg (by decide)]at HT
    gi_wp2
    gi_meet
    case rel=>exact⟨by rw[HT.out],by rw[HT.out],HB3.out,Q3.out,M3.out⟩
  | true=>
    rw[if_pos rfl]at HT;have HC2:Hid (Calls Tryz.prog 12 #[.string (str s),.string ⟨#[32,33,61,32]⟩] W3 fun e w'=>e=.returned (.tuple #[.string (str (Lib.cut s [32,33,61,32]).1),.string (str (Lib.cut s [32,33,61,32]).2.1),.bool (Lib.cut s [32,33,61,32]).2.2])∧Below W3.heap.size W3 w'):=hid (HCut.out W3 s [32,33,61,32] (Nat.le_refl _) HB3.out)
    gi_wp2
    refine⟨trivial,(callsIn_wide.2 HC2.out).mono ?_⟩;clear HC2;rintro e w4 ⟨rfl,hb4⟩;have HB4:=hid (HB3.out.trans (hb4.mono HB3.out.size));have M4:=hid (M3.out.below hb4 M3.out.lt);have Q4:=hid (Q3.out.below hb4 Q3.out.lt);have f2:=Q4.out.frozen 2;have g2:w4.cell? ⟨q,2,none⟩=some (.bool false):=(Q4.out.cell 2).trans rfl;clear hb4 HB3 M3 Q3
    gi_wp2
    gi_meet
    case rel=>exact⟨by rw[HT.out],by rw[HT.out],HB4.out.setCell hqw _,Q4.out.set_ 2 _,M4.out.far hqR _⟩
 case rest=>
  obtain⟨rfl,rfl,hb5,q5,m5⟩:=hcut;have HC3:Hid (Calls Tryz.prog 12 #[.string (str (hdTl s).1),.string ⟨#[32,37,32]⟩] wc fun e w'=>e=.returned (.tuple #[.string (str (Lib.cut (hdTl s).1 [32,37,32]).1),.string (str (Lib.cut (hdTl s).1 [32,37,32]).2.1),.bool (Lib.cut (hdTl s).1 [32,37,32]).2.2])∧Below wc.heap.size wc w'):=hid (HCut.out wc (hdTl s).1 [32,37,32] hd1 hb5);have HB5:=hid hb5;have Q5:=hid q5;have M5:=hid m5;clear hb5 q5 m5 HT HB3 M3 Q3
  gi_wp2
  refine⟨trivial,(callsIn_wide.2 HC3.out).mono ?_⟩;clear HC3;rintro e w6 ⟨rfl,hb6⟩;have HB6:=hid (HB5.out.trans (hb6.mono HB5.out.size));have M6:=hid (M5.out.below hb6 M5.out.lt);have Q6:=hid (Q5.out.below hb6 Q5.out.lt);clear hb6 HB5 M5 Q5;generalize (Lib.cut (hdTl s).1 [32,37,32]).1=op at *;generalize (Lib.cut (hdTl s).1 [32,37,32]).2.1=md at *;generalize (Lib.cut (hdTl s).1 [32,37,32]).2.2=dv at *;obtain⟨tl,htl⟩:∃ tl,tl=(hdTl s).2:=⟨_,rfl⟩;rw[←htl]at HP hd2 ⊢;clear htl;have so:(str op).size=op.length:=str_size _;obtain⟨Y,hY⟩:∃ Y,Y=((op.length:Int) == 1):=⟨_,rfl⟩
  gi_upto_if 37 with fail
  rw[←hY]
  gi_cut []from 41 (fun wx=>Below w.heap.size w wx∧Blk wx q 162 #[.int .u8 (opOf op).toNat,.int .i64 0,.bool Z,.slice none 0 0]∧Blk wx w.heap.size 162 #[.int .u8 0,.int .i64 0,.bool false,.slice none 0 0])
  case first=>
   by_cases h1:op.length=1
   ·obtain rfl:Y=true:=by rw[hY,h1];rfl
    have hc0:∀ h:0 < (str op).size,(str op)[0]'h=opOf op:=fun h=>op_first op h h1;have f0:=Q6.out.frozen 0;have g0:w6.cell? ⟨q,0,none⟩=some (.int .u8 0):=(Q6.out.cell 0).trans rfl;have hi0:(0:Int) < (op.length:Int):=by omega
    clear hY;have H1:=hid h1;clear h1
    gi_wp2
    gi_meet
    case rel=>exact⟨HB6.out.setCell hqw _,Q6.out.set_ 0 _,M6.out.far hqR _⟩
   ·obtain rfl:Y=false:=by rw[hY,beq_eq_false_iff_ne];omega
    have ho:Hid (opOf op=0):=hid (by unfold opOf;rw[if_neg h1])
    clear hY h1
    gi_wp2
    gi_meet
    case rel=>exact⟨HB6.out,by rw[ho.out];exact Q6.out,M6.out⟩
  case rest=>
   obtain⟨hb7,q7,m7⟩:=hcut;have HB7:=hid hb7;have Q7:=hid q7;have M7:=hid m7;clear hb7 q7 m7 HB6 M6 Q6 hY
   gi_upto_if 41 with fail
   gi_cut []from 45 (fun wx=>Below w.heap.size w wx∧Blk wx q 162 #[.int .u8 (opOf op).toNat,.int .i64 (if dv=true then numR md else 0),.bool Z,.slice none 0 0]∧Blk wx w.heap.size 162 #[.int .u8 0,.int .i64 0,.bool false,.slice none 0 0])
   case first=>
    cases dv with
    | false=>
      gi_wp2
      gi_meet
      case rel=>exact⟨HB7.out,Q7.out,M7.out⟩
    | true=>
      have HN:=hid (HNum.out wc md hc2 HB7.out)
      gi_wp2
      refine⟨trivial,(callsIn_wide.2 HN.out).mono ?_⟩;clear HN;rintro e w8 ⟨rfl,hb8⟩;have HB8:=hid (HB7.out.trans (hb8.mono HB7.out.size));have M8:=hid (M7.out.below hb8 M7.out.lt);have Q8:=hid (Q7.out.below hb8 Q7.out.lt);have f1:=Q8.out.frozen 1;have g1:w8.cell? ⟨q,1,none⟩=some (.int .i64 0):=(Q8.out.cell 1).trans rfl;clear hb8 HB7 M7 Q7
      gi_wp2
      gi_meet
      case rel=>exact⟨HB8.out.setCell hqw _,Q8.out.set_ 1 _,M8.out.far hqR _⟩
   case rest=>
    obtain⟨hb9,q9,m9⟩:=hcut;have HB9:=hid hb9;have Q9:=hid q9;have M9:=hid m9;have HS:Hid (Calls Tryz.prog 97 #[.string (str tl),.string ⟨#[44]⟩] wc fun e w'=>e=.returned (.func (.func 197) #[] #[.pointer (some ⟨wc.heap.size+1,0,none⟩),.pointer (some ⟨wc.heap.size,0,none⟩),.pointer (some ⟨wc.heap.size+2,0,none⟩)])∧
     Below wc.heap.size wc w'∧w'.heap.size=wc.heap.size+3∧SqB w' wc.heap.size tl [44]):=hid (SplitSeq_any tl [44] wc (HV.out.below hb9))
    clear hb9 q9 m9 HB7 M7 Q7
    gi_wp2
    refine⟨trivial,(callsIn_wide.2 HS.out).mono ?_⟩;clear HS;rintro e wt ⟨rfl,hbt,hzt,hsq⟩;have HBt:=hid (HB9.out.trans (hbt.mono HB9.out.size));have Mt:=hid (M9.out.below hbt M9.out.lt);have Qt:=hid (Q9.out.below hbt Q9.out.lt);have hB0:w.heap.size≤wc.heap.size:=HB9.out.size;have hqB:q < wc.heap.size:=Q9.out.lt;clear hbt HB9 M9 Q9;obtain⟨B,hB⟩:∃ B,B=wc.heap.size:=⟨_,rfl⟩;rw[←hB]at hzt hsq hB0 hqB ⊢;clear hB
    gi_wp2
    have hGB:3 < B:=by omega
    refine range_outer1 rfl (by decide) (gf:=197) (lb:=#[.pointer (some ⟨B+1,0,none⟩),.pointer (some ⟨B,0,none⟩),.pointer (some ⟨B+2,0,none⟩)]) rfl trivial (enters_of Tryz.func197 (by kernel_rfl) rfl)
     (splitSeq_seq 4 (by decide) B hGB tl [44] (by decide) (by decide) (by omega) wt hsq) (SqK.refl _ _) (SqK.refl _) SqK.trans (fun W o hW=>sqk_alloc W o (by omega) (by omega)) (fun W l o o' hl _ _ _=>sqk_put W l o' (N:=wt.heap.size) (by omega) hGB hl)
     (by
       rintro X Y ⟨v,rfl⟩ i hi;exact Below.heap_setCell _ _ _ _ (by show i≠B;omega))
     (PaI w q w.heap.size wt.heap.size (.int .u8 (opOf op).toNat) (.int .i64 (if dv=true then numR md else 0)) (.bool Z) ((pcsS [44] tl).map rangeOf))
     (PaI.own HBt.out.size) (fun k X Y h hs=>h.sq hs hB0 (by omega) (by omega) (by omega))
     ⟨HBt.out,Nat.le_refl _,⟨_,Mt.out,rfl⟩,_,Qt.out,World.ownsRow_nil _ _ _ _⟩ 10 ?assign ?body ?done
    case assign=>
     intro l v W K hK
     gi_wp2
     exact hK
    case body=>
     rintro l k hk W _ ⟨i1,i2,⟨z,i3,i4⟩,V,i5,i6⟩;have hx:((pcsS [44] tl)[k]).length≤s.length:=Nat.le_trans (pcs_len (by decide) _ tl (Nat.le_refl _) _ (List.getElem_mem hk)) hd2
     have HTk:Hid (((pcsS [44] tl).map rangeOf).take (k+1)=((pcsS [44] tl).map rangeOf).take k++[rangeOf (pcsS [44] tl)[k]]):=hid (by
      rw[List.take_succ_eq_append_getElem (by rw[List.length_map];exact hk),List.getElem_map])
     have hkl:(((pcsS [44] tl).map rangeOf).take k).length=k:=by rw[List.length_take,List.length_map];omega
     have hkm:k≤10000000:=by
      have h1:=pcs_count (sep:=[44]) (by decide) _ tl (Nat.le_refl _)
      have h2:=hd2;omega
     rw[hkl]at i6;generalize (pcsS [44] tl)[k]=x at *;generalize ((pcsS [44] tl).map rangeOf).take k=xs at *;have hc3:=cut_len x [46,46];have hca:(Lib.cut x [46,46]).1.length≤s.length:=Nat.le_trans hc3.1 hx;have hcb:(Lib.cut x [46,46]).2.1.length≤s.length:=Nat.le_trans hc3.2 hx;have HRo:Hid (rangeOf x=(numR (Lib.cut x [46,46]).1,numR (if(Lib.cut x [46,46]).2.2=true then(Lib.cut x [46,46]).2.1 else(Lib.cut x [46,46]).1))):=hid rfl
     have HCk:Hid (Calls Tryz.prog 12 #[.string (str x),.string ⟨#[46,46]⟩] W fun e w'=>e=.returned (.tuple #[.string (str (Lib.cut x [46,46]).1),.string (str (Lib.cut x [46,46]).2.1),.bool (Lib.cut x [46,46]).2.2])∧Below W.heap.size W w'):=hid (HCut.out W x [46,46] hx i1);have HS0:Hid (PaSt w W q w.heap.size B wt.heap.size #[.int .u8 (opOf op).toNat,.int .i64 (if dv=true then numR md else 0),.bool Z,V] V k (flatP xs) W):=hid ⟨i1,i5,i6,⟨z,i3,i4⟩,SqK.refl _ _,KeepsFrom.refl _ _,i2⟩
     generalize (Lib.cut x [46,46]).1=ca at *;generalize (Lib.cut x [46,46]).2.1=cb at *;generalize (Lib.cut x [46,46]).2.2=tw at *;generalize (opOf op).toNat=opn at *;generalize (if dv=true then numR md else 0)=mdn at*
     have hBN:B+3≤wt.heap.size:=by omega
     clear i1 i2 i3 i4 i5 i6 hx hc3 HP hc1 hc2 so hd1 hzt;unfold encS
     gi_wp2
     refine⟨trivial,(CallsIn.inRound l (callsIn_wide.2 HCk.out)).mono ?_⟩;clear HCk;rintro e wu ⟨rfl,hbu⟩;have HSu:=hid (HS0.out.on hbu);clear hbu HS0
     gi_upto_if 55 with fail
     gi_cut [12]from 57 (fun b wx=>b=.string (str (if tw=true then cb else ca))∧PaSt w W q w.heap.size B wt.heap.size #[.int .u8 opn,.int .i64 mdn,.bool Z,V] V k (flatP xs) wx)
     case first=>
      cases tw with
      | true=>
        gi_wp2
        gi_meet
        case rel=>exact⟨rfl,HSu.out⟩
      | false=>
        gi_wp2
        gi_meet
        case rel=>exact⟨rfl,HSu.out⟩
     case rest=>
      obtain⟨rfl,hsu⟩:=hcut;have hbb:(if tw=true then cb else ca).length≤s.length:=by split <;> assumption
      generalize (if tw=true then cb else ca)=bb at*
      have HNa:Hid (∀ W',PaSt w W q w.heap.size B wt.heap.size #[.int .u8 opn,.int .i64 mdn,.bool Z,V] V k (flatP xs) W'→Calls Tryz.prog 149 #[.string (str ca)] W' fun e w'=>e=.returned (.int .i64 (numR ca))∧PaSt w W q w.heap.size B wt.heap.size #[.int .u8 opn,.int .i64 mdn,.bool Z,V] V k (flatP xs) w'):=hid fun W' h=>(HNum.out W' ca hca h.below).mono fun e w' ⟨he,hb⟩=>⟨he,h.on hb⟩;have HNb:Hid (∀ W',PaSt w W q w.heap.size B wt.heap.size #[.int .u8 opn,.int .i64 mdn,.bool Z,V] V k (flatP xs) W'→Calls Tryz.prog 149 #[.string (str bb)] W' fun e w'=>e=.returned (.int .i64 (numR bb))∧PaSt w W q w.heap.size B wt.heap.size #[.int .u8 opn,.int .i64 mdn,.bool Z,V] V k (flatP xs) w'):=hid fun W' h=>(HNum.out W' bb hbb h.below).mono fun e w' ⟨he,hb⟩=>⟨he,h.on hb⟩;have HSr:=hid hsu.drew;clear hsu HNum HCut HV HSu hca hcb hbb;generalize numR ca=na at *;generalize numR bb=nb at*
      gi_upto_region 16 with fail
      refine regionIn_round (by kernel_rfl) (by rfl) ?_
      refine wpAnyIn_take (i:=0) (v:=.pointer (some ⟨q,3,none⟩)) rfl rfl (by decide +kernel) (by decide +kernel) (by decide +kernel) (fun _ _ _ h=>h) ⟨Or.inl ⟨by rfl,by intro w;go_simp⟩,fun _=>rfl⟩ ?_
      refine wpAnyIn_take (i:=2) (v:=.string (str ca)) rfl rfl (by decide +kernel) (by decide +kernel) (by decide +kernel) (fun _ _ _ h=>h) ⟨Or.inl ⟨by rfl,by intro w;go_simp⟩,fun _=>rfl⟩ ?_
      refine wpAnyIn_take (i:=4) (v:=.string (str bb)) rfl rfl (by decide +kernel) (by decide +kernel) (by decide +kernel) (fun _ _ _ h=>h) ⟨Or.inl ⟨by rfl,by intro w;go_simp⟩,fun _=>rfl⟩ ?_
      refine any_float (fuel:=3) (i:=1) (di:=58) (vi:=V) 4 (fun t=>match t with|0=>3|1=>5|2=>6|_=>7) (fun t=>match t with|0=>60|1=>62|2=>63|_=>64)
       (fun t=>match t with
         | 0=>#[true,false,true,false,true,false,false,false,false,false,false]
         | 1=>#[true,false,true,true,true,false,false,false,false,false,false]
         | 2=>#[true,false,true,true,true,true,false,false,false,false,false]
         | 3=>#[true,false,true,true,true,true,true,false,false,false,false]
         | _=>#[true,false,true,true,true,true,true,true,false,false,false])
       (fun A0 t a W'=>match t with
         | 0=>a=A0∧PaSt w W q w.heap.size B wt.heap.size #[.int .u8 opn,.int .i64 mdn,.bool Z,V] V k (flatP xs) W'
         | 1=>a=A0.put (some 60) (.int .i64 na)∧PaSt w W q w.heap.size B wt.heap.size #[.int .u8 opn,.int .i64 mdn,.bool Z,V] V k (flatP xs) W'
         | 2=>a=(A0.put (some 60) (.int .i64 na)).put (some 62) (.int .i64 nb)∧PaSt w W q w.heap.size B wt.heap.size #[.int .u8 opn,.int .i64 mdn,.bool Z,V] V k (flatP xs) W'
         | 3=>a=((A0.put (some 60) (.int .i64 na)).put (some 62) (.int .i64 nb)).put (some 63) (.agg #[.int .i64 na,.int .i64 nb])∧PaSt w W q w.heap.size B wt.heap.size #[.int .u8 opn,.int .i64 mdn,.bool Z,V] V k (flatP xs) W'
         | _=>∃ ad:Addr,a=(((A0.put (some 60) (.int .i64 na)).put (some 62) (.int .i64 nb)).put (some 63) (.agg #[.int .i64 na,.int .i64 nb])).put (some 64) (.slice (some ad) 1 1)∧PaSt w W q w.heap.size B wt.heap.size #[.int .u8 opn,.int .i64 mdn,.bool Z,V] V k (flatP xs) W'∧
            ∀ j u,[Value.int .i64 na,.int .i64 nb][j]? =some u→W'.cell? (ad.add j)=some u)
       rfl rfl ?hc (by decide +kernel) ?load ?step ?tail ⟨rfl,HSr.out⟩
      case hc=>
       intro t ht
       match t with
       | 0=>exact⟨rfl,rfl,by decide,by decide,rfl,by decide +kernel,by decide +kernel⟩
       | 1=>exact⟨rfl,rfl,by decide,by decide,rfl,by decide +kernel,by decide +kernel⟩
       | 2=>exact⟨rfl,rfl,by decide,by decide,rfl,by decide +kernel,by decide +kernel⟩
       | 3=>exact⟨rfl,rfl,by decide,by decide,rfl,by decide +kernel,by decide +kernel⟩
       | t+4=>omega
      case load=>
       intro t ht a W' K hC hK
       match t with
       | 0=>
         obtain⟨rfl,hst⟩:=hC;have k3:W'.cell? ⟨q,3,none⟩=some V:=(hst.box.cell 3).trans rfl;clear hst ht
         revert hK
         go_simp
         first|done|(intro hK;exact hK)
       | 1=>
         obtain⟨rfl,hst⟩:=hC;have k3:W'.cell? ⟨q,3,none⟩=some V:=(hst.box.cell 3).trans rfl;clear hst ht
         revert hK
         go_simp
         first|done|(intro hK;exact hK)
       | 2=>
         obtain⟨rfl,hst⟩:=hC;have k3:W'.cell? ⟨q,3,none⟩=some V:=(hst.box.cell 3).trans rfl;clear hst ht
         revert hK
         go_simp
         first|done|(intro hK;exact hK)
       | 3=>
         obtain⟨rfl,hst⟩:=hC;have k3:W'.cell? ⟨q,3,none⟩=some V:=(hst.box.cell 3).trans rfl;clear hst ht
         revert hK
         go_simp
         first|done|(intro hK;exact hK)
       | t+4=>
         obtain⟨ad,rfl,hst,_⟩:=hC;have k3:W'.cell? ⟨q,3,none⟩=some V:=(hst.box.cell 3).trans rfl;clear hst ht
         revert hK
         go_simp
         first|done|(intro hK;exact hK)
      case step=>
       intro t ht a W' b K hC hb hK
       match t with
       | 0=>
         obtain⟨rfl,hst⟩:=hC;have H:=hid (HNa.out W' hst);have HK1:=fun w' (h:PaSt w W q w.heap.size B wt.heap.size #[.int .u8 opn,.int .i64 mdn,.bool Z,V] V k (flatP xs) w')=>hK _ w' ⟨rfl,h⟩;clear hst ht hK;rcases hb with rfl|rfl
         all_goals
          revert HK1
          go_simp
          intro HK1;have HK:=hid HK1;clear HK1
          gi_wp2_with fail
          refine⟨trivial,(callsIn_wide.2 H.out).mono ?_⟩;rintro e wx ⟨rfl,hst⟩
          gi_wp2
          exact HK.out _ hst
       | 1=>
         obtain⟨rfl,hst⟩:=hC;have H:=hid (HNb.out W' hst);have HK1:=fun w' (h:PaSt w W q w.heap.size B wt.heap.size #[.int .u8 opn,.int .i64 mdn,.bool Z,V] V k (flatP xs) w')=>hK _ w' ⟨rfl,h⟩;clear hst ht hK;rcases hb with rfl|rfl
         all_goals
          revert HK1
          go_simp
          intro HK1;have HK:=hid HK1;clear HK1
          gi_wp2_with fail
          refine⟨trivial,(callsIn_wide.2 H.out).mono ?_⟩;rintro e wx ⟨rfl,hst⟩
          gi_wp2
          exact HK.out _ hst
       | 2=>
         obtain⟨rfl,hst⟩:=hC;have HK1:=hK _ W' ⟨rfl,hst⟩;clear hst hK ht;rcases hb with rfl|rfl
         all_goals
          revert HK1
          go_simp
          first|done|(intro HK1;exact HK1)
       | 3=>
         obtain⟨rfl,hst⟩:=hC;have HK1:=hK (.slice (some ⟨W'.heap.size,0,none⟩) 1 1) (W'.alloc (.cells #[.int .i64 na,.int .i64 nb] 222)) ⟨⟨W'.heap.size,0,none⟩,rfl,hst.alloc _,two_new _ _ _ _⟩;clear hst hK ht;rcases hb with rfl|rfl
         all_goals
          revert HK1
          go_simp
          first|done|(intro HK1;exact HK1)
       | t+4=>omega
      case tail=>
       rintro a W' ⟨ad,rfl,hst,hnew⟩;have hrow:=hst.row;have hsz:=hst.size;refine wpAnyIn_ready (rs:=[8]) (by decide +kernel) (by simp) (AllReadyIn.cons rfl (fun K hK=> ?_) AllReadyIn.nil)
       obtain⟨i0,hi,hz0,hz1,hz2⟩:=info_parts info_pairR;refine stepIn_append_own W' rfl _ _ 160 rfl wt.heap.size 222 i0 (.agg #[.int .i64 0,.int .i64 0]) 2 16 Tryz.underlying160 hi hz0 hz1 hz2 rfl (by decide) V k (flatP xs) (by simp[Act.eval,Act.put]) hrow ad 1 1 [.int .i64 na,.int .i64 nb] (by simp[Act.eval,Act.put]) rfl hnew (by simp[Value.oneCell']) (by unfold maxLen;omega) (by omega) hsz ?_
       intro v' w7 hown hg;refine hK _ _ ?_;obtain⟨A7,c7,rfl,_⟩:=own_slice hown;have b7:=blkGrown hst.box hg (fun e=>own_blkR hst.row hst.box (by decide) e.symm)
       have q3:w7.cell? ⟨q,3,none⟩=some V:=(b7.cell 3).trans rfl;have f3:=b7.frozen 3;have HPu:=hid (hst.push hg hown (by omega) hGB (.inr ⟨hqB,by omega⟩) hqw (by omega) hqR)
       clear hst hnew hown hg b7 hrow hK;refine wpAnyIn_take (i:=9) (v:=.pointer (some ⟨q,3,none⟩)) rfl rfl (by decide +kernel) (by decide +kernel) (by decide +kernel) (fun _ _ _ h=>h) ⟨Or.inl ⟨by rfl,by intro w;go_simp⟩,fun _=>rfl⟩ ?_
       refine wpAnyIn_ready (rs:=[10]) (by decide +kernel) (by simp) (AllReadyIn.cons rfl (fun K hK=> ?_) AllReadyIn.nil)
       have HK:=hid hK;clear hK
       go_simp
       refine HK.out _ _ (wpAnyIn_done (by decide +kernel) ?_ _)
       have hp:=HPu.out;refine⟨hp.kf,hp.sq,hp.below,hp.size,hp.res,_,hp.box,?_⟩;rw[HTk.out,HRo.out,flatP_snoc,List.length_append,hkl];exact hp.row
    case done=>
     rintro D W hD ⟨i1,i2,⟨z,i3,i4⟩,V,i5,i6⟩ hK;obtain⟨z0,z1,z2,z3,rfl⟩:∃ z0 z1 z2 z3,z=#[z0,z1,z2,z3]:=by
      obtain⟨l⟩:=z
      match l,i4 with
      | [a,b,c,d],_=>exact⟨a,b,c,d,rfl⟩
     rw[List.take_of_length_le (by rw[List.length_map];exact Nat.le_refl _)]at i6
     obtain⟨VA,Vc,rfl,_⟩:=own_slice i6;have x0:=(i5.cell 0).trans (show _=some (.int .u8 (opOf op).toNat)from rfl);have x1:=(i5.cell 1).trans (show _=some (.int .i64 (if dv=true then numR md else 0))from rfl)
     have x2:=(i5.cell 2).trans (show _=some (.bool Z)from rfl);have x3:=(i5.cell 3).trans (show _=some (.slice VA ((pcsS [44] tl).map rangeOf).length Vc)from rfl);have y0:=(i3.cell 0).trans (show _=some z0 from rfl);have y1:=(i3.cell 1).trans (show _=some z1 from rfl);have y2:=(i3.cell 2).trans (show _=some z2 from rfl);have y3:=(i3.cell 3).trans (show _=some z3 from rfl);have g0:=i3.frozen 0;have g1:=i3.frozen 1;have g2:=i3.frozen 2;have g3:=i3.frozen 3;have HI1:=hid i1;have HI3:=hid i3;have HI6:=hid i6;have HKD:=hid hK;have hDB:w.heap.size+1≤D:=by omega
     have HPo:Hid ((parsedR s).op.toNat=(opOf op).toNat):=hid (by rw[HP.out])
     have HPm:Hid ((parsedR s).mod=if dv=true then numR md else 0):=hid (by rw[HP.out])
     have HPz:Hid ((parsedR s).neg=Z):=hid (by rw[HP.out])
     have HPr:Hid ((parsedR s).rng=(pcsS [44] tl).map rangeOf):=hid (by rw[HP.out])
     clear HP;clear i1 i3 i5 i6 hK hzt;generalize (opOf op).toNat=opn at *;generalize (if dv=true then numR md else 0)=mdn at*
     gi_wp2
     have h8:Below w.heap.size w ((((W.setCell ⟨w.heap.size,0,none⟩ (.int .u8 opn)).setCell ⟨w.heap.size,1,none⟩ (.int .i64 mdn)).setCell ⟨w.heap.size,2,none⟩ (.bool Z)).setCell ⟨w.heap.size,3,none⟩ (.slice VA (pcsS [44] tl).length Vc)):=
      (((HI1.out.setCell (Nat.le_refl _) _).setCell (Nat.le_refl _) _).setCell (Nat.le_refl _) _).setCell (Nat.le_refl _) _
     have b8:Blk ((((W.setCell ⟨w.heap.size,0,none⟩ (.int .u8 opn)).setCell ⟨w.heap.size,1,none⟩ (.int .i64 mdn)).setCell ⟨w.heap.size,2,none⟩ (.bool Z)).setCell ⟨w.heap.size,3,none⟩ (.slice VA (pcsS [44] tl).length Vc)) w.heap.size 162 #[.int .u8 opn,.int .i64 mdn,.bool Z,.slice VA (pcsS [44] tl).length Vc]:=
      (((HI3.out.set_ 0 (.int .u8 opn)).set_ 1 (.int .i64 mdn)).set_ 2 (.bool Z)).set_ 3 (.slice VA (pcsS [44] tl).length Vc)
     have hlm:((pcsS [44] tl).map rangeOf).length=(pcsS [44] tl).length:=List.length_map ..;have n8:((((W.setCell ⟨w.heap.size,0,none⟩ (.int .u8 opn)).setCell ⟨w.heap.size,1,none⟩ (.int .i64 mdn)).setCell ⟨w.heap.size,2,none⟩ (.bool Z)).setCell ⟨w.heap.size,3,none⟩ (.slice VA (pcsS [44] tl).length Vc)).ownsRow w.heap.size 222 2 (.slice VA (pcsS [44] tl).length Vc) (pcsS [44] tl).length (flatP ((pcsS [44] tl).map rangeOf)):=by
      have h6:=own_mono HI6.out HBt.out.size;rw[hlm]at h6;refine own_keep h6 fun g hg _=> ?_;have hne:g≠w.heap.size:=fun e=>own_blkR HI6.out HI3.out (by decide) (by rw[hlm,hg,e])
      rw[Below.heap_setCell _ _ _ _ (by exact hne),Below.heap_setCell _ _ _ _ (by exact hne),Below.heap_setCell _ _ _ _ (by exact hne),Below.heap_setCell _ _ _ _ (by exact hne)]
     have hKD:((((W.setCell ⟨w.heap.size,0,none⟩ (.int .u8 opn)).setCell ⟨w.heap.size,1,none⟩ (.int .i64 mdn)).setCell ⟨w.heap.size,2,none⟩ (.bool Z)).setCell ⟨w.heap.size,3,none⟩ (.slice VA (pcsS [44] tl).length Vc)).heap[D]? =some (.deferred (some [])):=by
      have hne:D≠w.heap.size:=by omega
      rw[Below.heap_setCell _ _ _ _ (by exact hne),Below.heap_setCell _ _ _ _ (by exact hne),Below.heap_setCell _ _ _ _ (by exact hne),Below.heap_setCell _ _ _ _ (by exact hne)]
      exact HKD.out
     generalize ((((W.setCell ⟨w.heap.size,0,none⟩ (.int .u8 opn)).setCell ⟨w.heap.size,1,none⟩ (.int .i64 mdn)).setCell ⟨w.heap.size,2,none⟩ (.bool Z)).setCell ⟨w.heap.size,3,none⟩ (.slice VA (pcsS [44] tl).length Vc))=W8 at *;have hDR:w.heap.size≠D:=by omega
     have hDw:w.heap.size≤D:=by omega
     refine⟨by simp,.inl ⟨_,_,rfl,run_takeDeferred hKD,?_⟩⟩
     have b9:Blk (W8.putObj D (.deferred none)) w.heap.size 162 #[.int .u8 opn,.int .i64 mdn,.bool Z,.slice VA (pcsS [44] tl).length Vc]:=(World.putObj_heap_other (by omega)).trans b8
     refine⟨_,results_cell_row rfl _ _ w.heap.size 162 _ (0,0) _ rfl b9 Tryz.underlying162 rfl (by kernel_rfl),?_⟩
     refine⟨h8.trans (belowK_b (w:=w) (Nat.le_refl _) _ D _ _ hDw hKD rfl rfl),.slice VA (pcsS [44] tl).length Vc,?_,?_⟩
     ·rw[HPo.out,HPm.out,HPz.out]
     ·rw[HPr.out,hlm];exact ownsRow_putObj n8 _ hKD rfl
end Go.Proofs.YtagfnpdoooachaaGreatDoor
