/- npat.Check and nout.check at the pattern and the signs that messages have. -/
import Derived.Test.YtpfmmbbggcghiaaGreatDoorGrpB
set_option linter.unusedSimpArgs false
set_option linter.unusedVariables false
set_option maxHeartbeats 6400000
set_option maxRecDepth 100000
namespace Go.Proofs.YtpfmmbbggcghiaaGreatDoor
open Go.RowKit
open Lib (hid)
def patV:Value:=.agg #[.string ⟨#[]⟩,.string ⟨#[]⟩,.int .i64 1,.int .i64 0,.int .i64 3,.int .i64 3,.int .i64 0]
def symV:Value:=.agg #[.int .u8 46,.int .u8 44]
def affixChars:ByteArray:=⟨#[97,98,99,100,101,102,103,104,105,106,107,108,109,110,111,112,113,114,115,116,117,118,119,120,121,122,65,66,67,68,69,70,71,72,73,74,75,76,77,78,79,80,81,82,83,84,85,86,87,88,89,90,32,36,37]⟩
theorem asciiAff:∀(j:Nat) b,affixChars.data.toList[j]? =some b→b.toNat < 128:=by
 have h:∀ b∈affixChars.data.toList,b.toNat < 128:=by decide
 exact fun j b hb=>h b (List.mem_of_getElem? hb)
theorem trim_none:Lib.trimS (⟨#[]⟩:ByteArray).data.toList affixChars.data.toList=[]:=by decide +kernel
theorem affix_none (w:World):Calls Tryz.prog 209 #[.string ⟨#[]⟩] w fun e w'=>e=.returned (.bool true)∧Below w.heap.size w w':=by
 have HT:Hid (Calls Tryz.prog 110 #[.string ⟨#[]⟩,.string affixChars] w fun e w'=>e=.returned (.string ⟨#[]⟩)∧Below w.heap.size w w'):=hid (by
  have h:=trim_any ⟨#[]⟩ affixChars w (by decide) (by decide) asciiAff
  rw[trim_none]at h;exact h)
 unfold affixChars at HT
 go_enter Tryz.func209,Tryz.ntmps209
 go_wp2_with fail
 refine HT.out.mono ?_;clear HT;rintro e w1 ⟨rfl,hb⟩;have HB:=hid hb;clear hb
 go_wp2_with fail
 go_ret
 exact⟨rfl,HB.out⟩
theorem npatCheck_any (w:World):Calls Tryz.prog 176 #[patV] w fun e w'=>e=.returned .nilIface∧Below w.heap.size w w':=by
 have HA:Hid (∀ W,Calls Tryz.prog 209 #[.string ⟨#[]⟩] W fun e w'=>e=.returned (.bool true)∧Below W.heap.size W w'):=hid fun W=>affix_none W;obtain⟨W1,eW1⟩:∃ W1,W1=w.alloc (.cells #[.string ⟨#[]⟩,.string ⟨#[]⟩,.int .i64 1,.int .i64 0,.int .i64 3,.int .i64 3,.int .i64 0] 192):=⟨_,rfl⟩;have mb:Blk W1 w.heap.size 192 #[.string ⟨#[]⟩,.string ⟨#[]⟩,.int .i64 1,.int .i64 0,.int .i64 3,.int .i64 3,.int .i64 0]:=by rw[eW1];exact Blk.new _ _ _
 have hb1:Below w.heap.size w W1:=by rw[eW1];exact(Below.refl _ _).alloc (Nat.le_refl _) _
 have HB1:=hid hb1;have MB:=hid mb;have EW:=hid eW1;have k0:=(mb.cell 0).trans (show _=some (.string ⟨#[]⟩)from rfl);clear hb1 mb eW1;unfold patV
 go_enter Tryz.func176,Tryz.ntmps176
 go_upto_region 1 with fail
 rw[←EW.out];clear EW
 go_wp2_with fail
 refine(HA.out _).mono ?_;rintro e w2 ⟨rfl,hb2⟩;have HB2:=hid (HB1.out.trans (hb2.mono HB1.out.size));have MB2:=hid (MB.out.below hb2 MB.out.lt);have k1:=(MB2.out.cell 1).trans (show _=some (.string ⟨#[]⟩)from rfl);clear k0 hb2 MB HB1
 go_wp2_with fail
 refine(HA.out _).mono ?_;clear HA;rintro e w3 ⟨rfl,hb3⟩;have HB3:=hid (HB2.out.trans (hb3.mono HB2.out.size));have m3:=MB2.out.below hb3 MB2.out.lt;have c2:=(m3.cell 2).trans (show _=some (.int .i64 1)from rfl);have c3:=(m3.cell 3).trans (show _=some (.int .i64 0)from rfl);have c4:=(m3.cell 4).trans (show _=some (.int .i64 3)from rfl);have c5:=(m3.cell 5).trans (show _=some (.int .i64 3)from rfl);have c6:=(m3.cell 6).trans (show _=some (.int .i64 0)from rfl);clear k1 hb3 m3 MB2 HB2
 go_wp2_with fail
 go_ret
 exact⟨rfl,HB3.out⟩
theorem symCheck_any (w:World):Calls Tryz.prog 177 #[symV] w fun e w'=>e=.returned .nilIface∧Below w.heap.size w w':=by
 have H1:Hid (∀ W,Calls Tryz.prog 115 #[.string ⟨#[46,44,39,95]⟩,.int .u8 46] W fun e w'=>e=.returned (.int .i64 0)∧w'=W):=hid fun W=>Tryz.strings_IndexByte ⟨#[46,44,39,95]⟩ 46 W;have H2:Hid (∀ W,Calls Tryz.prog 115 #[.string ⟨#[46,44,39,95]⟩,.int .u8 44] W fun e w'=>e=.returned (.int .i64 1)∧w'=W):=hid fun W=>Tryz.strings_IndexByte ⟨#[46,44,39,95]⟩ 44 W;have HB:Hid (Below w.heap.size w (w.alloc (.cells #[.int .u8 46,.int .u8 44] 194))):=hid ((Below.refl _ _).alloc (Nat.le_refl _) _);unfold symV
 go_enter Tryz.func177,Tryz.ntmps177
 go_wp2_with fail
 refine(H1.out _).mono ?_;clear H1;rintro e w2 ⟨rfl,rfl⟩
 go_wp2_with fail
 refine(H2.out _).mono ?_;clear H2;rintro e w2 ⟨rfl,rfl⟩
 go_wp2_with fail
 go_ret
 exact⟨rfl,HB.out⟩
theorem ncheck_any (w:World):Calls Tryz.prog 134 #[patV,symV] w fun e w'=>e=.returned .nilIface∧Below w.heap.size w w':=by
 have H1:Hid (∀ W,Calls Tryz.prog 176 #[patV] W fun e w'=>e=.returned .nilIface∧Below W.heap.size W w'):=hid fun W=>npatCheck_any W;have H2:Hid (∀ W,Calls Tryz.prog 177 #[symV] W fun e w'=>e=.returned .nilIface∧Below W.heap.size W w'):=hid fun W=>symCheck_any W;unfold patV symV at *;obtain⟨W2,eW2⟩:∃ W2,W2=(w.alloc (.cells #[.string ⟨#[]⟩,.string ⟨#[]⟩,.int .i64 1,.int .i64 0,.int .i64 3,.int .i64 3,.int .i64 0] 192)).alloc (.cells #[.int .u8 46,.int .u8 44] 194):=⟨_,rfl⟩;have mb:Blk W2 (w.heap.size+1) 194 #[.int .u8 46,.int .u8 44]:=by
  rw[eW2];have:=Blk.new (w.alloc (.cells #[.string ⟨#[]⟩,.string ⟨#[]⟩,.int .i64 1,.int .i64 0,.int .i64 3,.int .i64 3,.int .i64 0] 192)) 194 #[.int .u8 46,.int .u8 44];rw[World.size_alloc]at this;exact this
 have hb2:Below w.heap.size w W2:=by rw[eW2];exact((Below.refl _ _).alloc (Nat.le_refl _) _).alloc (by simp) _
 have HB2:=hid hb2;have MB:=hid mb;have EW:=hid eW2;clear hb2 mb eW2
 go_enter Tryz.func134,Tryz.ntmps134
 go_wp2_with fail
 rw[←EW.out];clear EW;refine(H1.out _).mono ?_;clear H1;rintro e w3 ⟨rfl,hb3⟩;have HB3:=hid (HB2.out.trans (hb3.mono HB2.out.size));have m3:=MB.out.below hb3 MB.out.lt;have c0:=(m3.cell 0).trans (show _=some (.int .u8 46)from rfl);have c1:=(m3.cell 1).trans (show _=some (.int .u8 44)from rfl);clear hb3 m3 MB HB2
 go_wp2_with fail
 refine(H2.out _).mono ?_;clear H2;rintro e w4 ⟨rfl,hb4⟩;have HB4:=hid (HB3.out.trans (hb4.mono HB3.out.size));clear hb4
 go_wp2_with fail
 go_ret
 exact⟨rfl,HB4.out⟩
def rangeOf (s:List UInt8):Int×Int:=(numR (Lib.cut s [46,46]).1,numR (if(Lib.cut s [46,46]).2.2 then(Lib.cut s [46,46]).2.1 else(Lib.cut s [46,46]).1))
def hdTl (s:List UInt8):List UInt8×List UInt8:=if(Lib.cut s [32,61,32]).2.2 then((Lib.cut s [32,61,32]).1,(Lib.cut s [32,61,32]).2.1)else((Lib.cut s [32,33,61,32]).1,(Lib.cut s [32,33,61,32]).2.1)
def opOf (l:List UInt8):UInt8:=if l.length=1 then l.headD 0 else 0
def parsedR (s:List UInt8):Rl:=
 ⟨opOf (Lib.cut (hdTl s).1 [32,37,32]).1,if(Lib.cut (hdTl s).1 [32,37,32]).2.2 then numR (Lib.cut (hdTl s).1 [32,37,32]).2.1 else 0,!(Lib.cut s [32,61,32]).2.2,(pcsS [44] (hdTl s).2).map rangeOf⟩
def partOf (s:List UInt8):List Rl:=(pcsS [32,97,110,100,32] s).map parsedR
def ruleOf (s:List UInt8):List (List Rl):=(pcsS [32,111,114,32] s).map partOf
theorem cut_len (s sep:List UInt8):(Lib.cut s sep).1.length≤s.length∧(Lib.cut s sep).2.1.length≤s.length:=by
 unfold Lib.cut;split
 ·exact⟨by rw[List.length_take];omega,by rw[List.length_drop];omega⟩
 ·exact⟨Nat.le_refl _,Nat.zero_le _⟩
theorem hdTl_len (s:List UInt8):(hdTl s).1.length≤s.length∧(hdTl s).2.length≤s.length:=by
 unfold hdTl;split
 ·exact cut_len s _
 ·exact cut_len s _
theorem parsed_len (s:List UInt8):(parsedR s).rng.length≤s.length+1:=by
 have h1:=pcs_count (sep:=[44]) (by decide) _ (hdTl s).2 (Nat.le_refl _)
 have h2:=(hdTl_len s).2;show((pcsS [44] (hdTl s).2).map rangeOf).length≤_;rw[List.length_map];omega
theorem part_len (s:List UInt8):(partOf s).length≤s.length+1∧∀ r∈partOf s,r.rng.length≤s.length+1:=by
 refine⟨by unfold partOf;rw[List.length_map];exact pcs_count (by decide) _ s (Nat.le_refl _),fun r hr=> ?_⟩
 obtain⟨x,hx,rfl⟩:=List.mem_map.1 hr;have h1:=pcs_len (by decide) _ s (Nat.le_refl _) x hx
 have h2:=parsed_len x;omega
theorem rule_len (s:List UInt8):(ruleOf s).length≤s.length+1∧∀ p∈ruleOf s,p.length≤s.length+1∧∀ r∈p,r.rng.length≤s.length+1:=by
 refine⟨by unfold ruleOf;rw[List.length_map];exact pcs_count (by decide) _ s (Nat.le_refl _),fun p hp=> ?_⟩
 obtain⟨x,hx,rfl⟩:=List.mem_map.1 hp;have h1:=pcs_len (by decide) _ s (Nat.le_refl _) x hx
 have h2:=part_len x;exact⟨by omega,fun r hr=>by have:=h2.2 r hr;omega⟩
def countR (R:List (List Rl)):Nat:=(R.map List.length).sum
def partOk (p:List Rl):Bool:= !p.isEmpty && p.all fineR
def checkR (R:List (List Rl)):Int:=if R.isEmpty || !(R.all partOk)then 3 else if 20 < countR R then 4 else 0
def errR (n:Int):Value:=if n=0 then .nilIface else .iface 35 (.int .i64 n)
theorem checkR_zero {R:List (List Rl)} (h:checkR R=0):R≠[]∧(∀ p∈R,p≠[]∧∀ r∈p,fineR r=true)∧countR R≤20:=by
 unfold checkR at h;split at h
 ·exact absurd h (by decide)
 ·rename_i h1
  split at h
  ·exact absurd h (by decide)
  ·rename_i h2
   simp only[Bool.or_eq_true,not_or,Bool.not_eq_true',Bool.not_eq_true,Bool.not_eq_false']at h1;obtain⟨h3,h4⟩:=h1;refine⟨by rintro rfl;simp at h3,fun p hp=> ?_,by omega⟩
   have h5:R.all partOk=true:=by simpa using h4
   have h6:=List.all_eq_true.1 h5 p hp;unfold partOk at h6;simp only[Bool.and_eq_true,Bool.not_eq_true',List.isEmpty_eq_false_iff,List.all_eq_true]at h6;exact h6
structure OpV where
 i:Int
 v:Int
 w:Int
 f:Int
 t:Int
def valR (o:OpV) (c:UInt8):Int:=if c=110∨c=105 then o.i else if c=118 then o.v else if c=119 then o.w else if c=102 then o.f else if c=116 then o.t else 0
def xR (o:OpV) (r:Rl):Int:=if r.mod=0 then valR o r.op else Int.tmod (valR o r.op) r.mod
def inR (x:Int) (p:Int×Int):Bool:=decide (p.1≤x) && decide (x≤p.2)
def hold1 (o:OpV) (r:Rl):Bool:=(r.rng.any (inR (xR o r)) && (r.op != 110 || o.t == 0)) != r.neg
def holdP (o:OpV) (p:List Rl):Bool:= !(p.any fun r=> !hold1 o r)
def holdR (o:OpV) (R:List (List Rl)):Bool:=R.any (holdP o)
theorem join_le {α:Type} (T:α→List UInt8) (sep:List UInt8) (B:Nat):∀(l:List α),(∀ x∈l,(T x).length≤B)→(joinT T l sep).length≤l.length*(B+sep.length)
 | [],_=>by unfold joinT;simp[Lib.join]
 | a::l,h=>by
   have hs:∀(l:List α),(∀ x∈l,(T x).length≤B)→Lib.lens (l.map T)≤l.length*B:=by
    intro l
    induction l with
    | nil=>intro _;simp[Lib.lens]
    | cons a l ih=>
      intro h;have h1:=ih fun x hx=>h x (List.mem_cons_of_mem _ hx);have h2:=h a (List.mem_cons_self ..);unfold Lib.lens at h1 ⊢;rw[List.map_cons,List.map_cons,List.sum_cons,List.length_cons,Nat.add_mul,Nat.one_mul];omega
   have h1:=hs (a::l) h;unfold joinT;rw[List.map_cons,Lib.join_length,←List.map_cons,List.length_map,List.length_cons,Nat.mul_add];rw[List.length_cons]at h1;have:sep.length*l.length≤(l.length+1)*sep.length:=by rw[Nat.mul_comm];exact Nat.mul_le_mul_right _ (by omega)
   omega
theorem join_sum {α:Type} (T:α→List UInt8) (sep:List UInt8) (f:α→Nat) (C:Nat):∀(l:List α),(∀ x∈l,(T x).length+sep.length≤f x*C)→(joinT T l sep).length≤(l.map f).sum*C
 | [],_=>by unfold joinT;simp[Lib.join]
 | a::l,h=>by
   have hs:∀(l:List α),(∀ x∈l,(T x).length+sep.length≤f x*C)→Lib.lens (l.map T)+sep.length*l.length≤(l.map f).sum*C:=by
    intro l
    induction l with
    | nil=>intro _;simp[Lib.lens]
    | cons a l ih=>
      intro h;have h1:=ih fun x hx=>h x (List.mem_cons_of_mem _ hx);have h2:=h a (List.mem_cons_self ..);unfold Lib.lens at h1 ⊢;rw[List.map_cons,List.map_cons,List.sum_cons,List.length_cons,List.map_cons,List.sum_cons,Nat.add_mul,Nat.mul_add,Nat.mul_one];omega
   have h1:=hs (a::l) h;unfold joinT;rw[List.map_cons,Lib.join_length,←List.map_cons,List.length_map];rw[List.length_cons,Nat.mul_add,Nat.mul_one]at h1;omega
theorem ranged_len {p:Int×Int} (h:rngOk p=true):(rangedR p).length≤44:=by
 have hp:0≤p.1∧p.1≤p.2∧p.2≤1000000:=by
  unfold rngOk at h;simp at h;omega
 have h1:=itoa_small p.1 hp.1 (by omega)
 have h2:=itoa_small p.2 (by omega) hp.2.2
 unfold rangedR;split
 ·omega
 ·simp only[List.length_append,List.length_cons,List.length_nil];omega
theorem related_len {r:Rl} (h:fineR r=true) {M:Nat} (hM:r.rng.length≤M):(relatedR r).length≤29+M*45:=by
 obtain⟨_,h2,h3,_,h5⟩:=fineR_all h;have h1:=join_le rangedR [44] 44 r.rng fun p hp=>ranged_len (h5 p hp);have h4:=itoa_small r.mod h2 h3;have h6:r.rng.length*(44+1)≤M*45:=Nat.mul_le_mul_right _ hM;have h7:(headR r).length≤29:=by
  unfold headR;rw[List.length_cons,List.length_append];have a1:(if r.mod=0 then([]:List UInt8)else [32,37,32]++Lib.itoa r.mod).length≤24:=by split <;> simp;omega
  have a2:(if r.neg=true then([32,33,61,32]:List UInt8)else [32,61,32]).length≤4:=by split <;> simp
  omega
 unfold relatedR;rw[List.length_append];simp only[List.length_cons,List.length_nil]at h1;omega
theorem text_len {R:List (List Rl)} (h:checkR R=0) (hM:∀ p∈R,∀ r∈p,r.rng.length≤1049000):(textR R).length≤1000000000:=by
 obtain⟨_,h1,h2⟩:=checkR_zero h;have h3:(textR R).length≤(R.map List.length).sum*47205038:=by
  refine join_sum partR _ List.length _ R fun p hp=> ?_;have h4:(partR p).length≤p.length*(29+1049000*45+5):=join_le relatedR [32,97,110,100,32] _ p fun r hr=>related_len ((h1 p hp).2 r hr) (hM p hp r hr);have h5:0 < p.length:=List.length_pos_iff.2 (h1 p hp).1;show(partR p).length+4≤_;omega
 unfold countR at h2;omega
def fmtD (d:DecV):DecV:=if 3 < (trimD d).scale then trimD (round3 (trimD d))else trimD d
theorem fmtD_ok (d:DecV) (h:d.ok):(fmtD d).ok:=by
 unfold fmtD;split
 ·rename_i h3
  exact trimD_ok _ (round3_ok _ (trimD_ok d h) h3)
 ·exact trimD_ok d h
def wholeT (d:DecV):List UInt8:=Lib.trimPrefix (Lib.cut (textD (fmtD d)) [46]).1 [45]
def minusT (d:DecV):Bool:=Lib.hasPrefix (Lib.cut (textD (fmtD d)) [46]).1 [45]
def behindT (d:DecV):List UInt8:=(Lib.cut (textD (fmtD d)) [46]).2.1
def wholeP (d:DecV):List UInt8:=Lib.repeatL [48] (1 - ((wholeT d).length:Int)).toNat++wholeT d
def numS (d:DecV):List UInt8:=
 let s:=if behindT d=[]then putG (str (wholeP d))else putG (str (wholeP d))++[46]++behindT d
 if minusT d then [45]++s else s
def numE (d:DecV):Int:=if d.ok then(if digitsB (str (wholeP d))then 0 else 3)else 1
def numT (d:DecV):List UInt8:=if numE d=0 then numS d else []
theorem fmt_len (d:DecV) (h:d.ok):(wholeT d).length≤50∧(behindT d).length≤50∧(wholeP d).length≤52∧(putG (str (wholeP d))).length≤110:=by
 have h1:=textD_len (fmtD d) (fmtD_ok d h);obtain⟨h2,h3⟩:=cut_len (textD (fmtD d)) [46];have h4:(wholeT d).length≤50:=by
  unfold wholeT Lib.trimPrefix;split
  ·rw[List.length_drop];omega
  ·omega
 have h5:(wholeP d).length≤52:=by
  unfold wholeP;rw[List.length_append,Lib.repeatL_length,List.length_singleton];omega
 have h6:=putG_len (str (wholeP d));rw[str_size]at h6;exact⟨h4,by unfold behindT;omega,h5,by omega⟩
theorem conv_dot (w:World):(convert 110 9 (.slice (some ⟨w.heap.size,0,none⟩) 1 1)).run Tryz.prog (w.alloc (.cells #[.int .u8 46] 5))=.ok (.string ⟨#[46]⟩) (w.alloc (.cells #[.int .u8 46] 5)):=by
 refine run_convert_bytes_back (P:=Tryz.prog) _ 110 9 5 ⟨w.heap.size,0,none⟩ 1 [46] Tryz.underlying110 Tryz.underlying5 Tryz.underlying9 ?_;intro j hj;have:j=0:=by simp at hj;omega
 subst this;exact((Blk.new w 5 #[.int .u8 46]).cell 0).trans rfl
structure FSt (w:World) (d:DecV) (W:World):Prop where
 below:Below w.heap.size w W
 pat:Blk W w.heap.size 192 #[.string ⟨#[]⟩,.string ⟨#[]⟩,.int .i64 1,.int .i64 0,.int .i64 3,.int .i64 3,.int .i64 0]
 sym:Blk W (w.heap.size+1) 194 #[.int .u8 46,.int .u8 44]
 dec:Blk W (w.heap.size+2) 65 #[.int .i64 d.coef,.int .i64 d.scale]
theorem FSt.on {w W W':World} {d:DecV} (h:FSt w d W) (hb:Below W.heap.size W W'):FSt w d W':=
 ⟨h.below.trans (hb.mono h.below.size),h.pat.below hb h.pat.lt,h.sym.below hb h.sym.lt,h.dec.below hb h.dec.lt⟩
theorem FSt.set {w W:World} {d d':DecV} (h:FSt w d W):FSt w d' ((W.setCell ⟨w.heap.size+2,0,none⟩ (.int .i64 d'.coef)).setCell ⟨w.heap.size+2,1,none⟩ (.int .i64 d'.scale)):=
 ⟨(h.below.setCell (p:=⟨_,_,none⟩) (by show w.heap.size≤w.heap.size+2;omega) _).setCell (p:=⟨_,_,none⟩) (by show w.heap.size≤w.heap.size+2;omega) _,
   (h.pat.far (by show w.heap.size≠w.heap.size+2;omega) _).far (by show w.heap.size≠w.heap.size+2;omega) _,(h.sym.far (by show w.heap.size+1≠w.heap.size+2;omega) _).far (by show w.heap.size+1≠w.heap.size+2;omega) _,(h.dec.set_ 0 _).set_ 1 _⟩
theorem format_any (d:DecV) (w:World) (hv:MV w) (hr:RV w):Calls Tryz.prog 92 #[patV,symV,d.v] w fun e w'=>e=.returned (.tuple #[.string (str (numT d)),errD (numE d)])∧Below w.heap.size w w':=by
 obtain⟨W3,eW3⟩:∃ W3,W3=((w.alloc (.cells #[.string ⟨#[]⟩,.string ⟨#[]⟩,.int .i64 1,.int .i64 0,.int .i64 3,.int .i64 3,.int .i64 0] 192)).alloc (.cells #[.int .u8 46,.int .u8 44] 194)).alloc (.cells #[.int .i64 d.coef,.int .i64 d.scale] 65):=⟨_,rfl⟩;have hF:FSt w d W3:=by
  rw[eW3];have h1:=Blk.new (w.alloc (.cells #[.string ⟨#[]⟩,.string ⟨#[]⟩,.int .i64 1,.int .i64 0,.int .i64 3,.int .i64 3,.int .i64 0] 192)) 194 #[.int .u8 46,.int .u8 44];have h2:=Blk.new ((w.alloc (.cells #[.string ⟨#[]⟩,.string ⟨#[]⟩,.int .i64 1,.int .i64 0,.int .i64 3,.int .i64 3,.int .i64 0] 192)).alloc (.cells #[.int .u8 46,.int .u8 44] 194)) 65 #[.int .i64 d.coef,.int .i64 d.scale];rw[World.size_alloc]at h1;rw[World.size_alloc,World.size_alloc]at h2;exact⟨(((Below.refl _ _).alloc (Nat.le_refl _) _).alloc (by simp) _).alloc (by simp;omega) _,((Blk.new _ _ _).alloc _).alloc _,h1.alloc _,h2⟩
 have H1:Hid (∀ W,Calls Tryz.prog 134 #[patV,symV] W fun e w'=>e=.returned .nilIface∧Below W.heap.size W w'):=hid fun W=>ncheck_any W;have HA:Hid (∀ W,Calls Tryz.prog 88 #[d.v] W fun e w'=>e=.returned (errD (checkD d))∧Below W.heap.size W w'):=hid fun W=>checkD_any d W;have HF:=hid hF;have EW:=hid eW3;have p0:=(hF.pat.cell 0).trans (show _=some (.string ⟨#[]⟩)from rfl);have p1:=(hF.pat.cell 1).trans (show _=some (.string ⟨#[]⟩)from rfl);have p2:=(hF.pat.cell 2).trans (show _=some (.int .i64 1)from rfl);have p3:=(hF.pat.cell 3).trans (show _=some (.int .i64 0)from rfl);have p4:=(hF.pat.cell 4).trans (show _=some (.int .i64 3)from rfl);have p5:=(hF.pat.cell 5).trans (show _=some (.int .i64 3)from rfl);have p6:=(hF.pat.cell 6).trans (show _=some (.int .i64 0)from rfl);have q0:=(hF.sym.cell 0).trans (show _=some (.int .u8 46)from rfl);have q1:=(hF.sym.cell 1).trans (show _=some (.int .u8 44)from rfl);clear hF eW3;unfold patV symV DecV.v at*
 go_enter Tryz.func92,Tryz.ntmps92
 go_upto_region 1 with fail
 rw[←EW.out];clear EW
 go_wp2_with fail
 refine(H1.out _).mono ?_;clear H1 p0 p1 p2 p3 p4 p5 p6 q0 q1;rintro e w4 ⟨rfl,hb4⟩;have HF4:=hid (HF.out.on hb4);clear hb4 HF;have d0:=(HF4.out.dec.cell 0).trans (show _=some (.int .i64 d.coef)from rfl);have d1:=(HF4.out.dec.cell 1).trans (show _=some (.int .i64 d.scale)from rfl)
 go_wp2_with fail
 refine(HA.out _).mono ?_;clear HA d0 d1;rintro e w5 ⟨rfl,hb5⟩;have HF5:=hid (HF4.out.on hb5);clear hb5 HF4
 by_cases hd:d.ok
 ·rw[checkD_ok hd,errD_zero];have HE:Hid (numE d=if digitsB (str (wholeP d))then 0 else 3):=hid (if_pos hd)
  have HT:Hid (numT d=if numE d=0 then numS d else []):=hid rfl
  obtain⟨z1,z2,z3,z4⟩:=fmt_len d hd;have hok:=fmtD_ok d hd;have h1ok:=trimD_ok d hd;have HTr:Hid (∀ W,Calls Tryz.prog 135 #[.agg #[.int .i64 d.coef,.int .i64 d.scale],.int .i64 0] W fun e w'=>e=.returned (.agg #[.int .i64 (trimD d).coef,.int .i64 (trimD d).scale])∧Below W.heap.size W w'):=hid fun W=>trimmed_any d W hd;have HRo:Hid (3 < (trimD d).scale→∀ W,Calls Tryz.prog 136 #[.agg #[.int .i64 (trimD d).coef,.int .i64 (trimD d).scale],.int .i64 3,.int .i64 5] W fun e w'=>e=.returned (.tuple #[.agg #[.int .i64 (round3 (trimD d)).coef,.int .i64 (round3 (trimD d)).scale],.nilIface])∧Below W.heap.size W w'):=hid fun h3 W=>round_any (trimD d) W h1ok h3;have HTs:Hid (3 < (trimD d).scale→∀ W,Calls Tryz.prog 135 #[.agg #[.int .i64 (round3 (trimD d)).coef,.int .i64 (round3 (trimD d)).scale],.int .i64 0] W fun e w'=>e=.returned (.agg #[.int .i64 (trimD (round3 (trimD d))).coef,.int .i64 (trimD (round3 (trimD d))).scale])∧Below W.heap.size W w'):=hid fun h3 W=>trimmed_any _ W (round3_ok _ h1ok h3);have HFm:Hid ((3 < (trimD d).scale→fmtD d=trimD (round3 (trimD d)))∧(¬ 3 < (trimD d).scale→fmtD d=trimD d)):=hid ⟨fun h=>if_pos h,fun h=>if_neg h⟩;have HTx:Hid (∀ W,Below w.heap.size w W→Calls Tryz.prog 55 #[.agg #[.int .i64 (fmtD d).coef,.int .i64 (fmtD d).scale]] W fun e w'=>e=.returned (.string (str (textD (fmtD d))))∧Below W.heap.size W w'):=hid fun W hW=>textD_any (fmtD d) W hok (hv.below hW)
  have HCt:Hid (∀ W,Below w.heap.size w W→Calls Tryz.prog 29 #[.string (str (textD (fmtD d))),.string ⟨#[46]⟩] W fun e w'=>e=.returned (.tuple #[.string (str (Lib.cut (textD (fmtD d)) [46]).1),.string (str (behindT d)),.bool (Lib.cut (textD (fmtD d)) [46]).2.2])∧∃ n,w'=W.drewN n):=hid fun W hW=>by
   obtain⟨m,hm⟩:=(hr.below hW).max;exact Tryz.strings_Cut (str (textD (fmtD d))) ⟨#[46]⟩ m W (by rw[str_size];have:=textD_len _ hok;omega) hm
  have HCp:Hid (∀ W,Calls Tryz.prog 120 #[.string (str (Lib.cut (textD (fmtD d)) [46]).1),.string ⟨#[45]⟩] W fun e w'=>e=.returned (.tuple #[.string (str (wholeT d)),.bool (minusT d)])∧w'=W):=hid fun W=>Tryz.strings_CutPrefix (str (Lib.cut (textD (fmtD d)) [46]).1) ⟨#[45]⟩ W;have HR0:Hid (∀ W,Calls Tryz.prog 94 #[.string ⟨#[48]⟩,.int .i64 0] W fun e w'=>e=.returned (.string ⟨#[]⟩)∧Below W.heap.size W w'):=hid fun W=>Tryz.strings_Repeat ⟨#[48]⟩ 0 W (by decide) (by decide)
  have HR1:Hid (∀ W,Calls Tryz.prog 94 #[.string ⟨#[48]⟩,.int .i64 ((1 - ((wholeT d).length:Int)).toNat:Nat)] W fun e w'=>e=.returned (.string (str (Lib.repeatL [48] (1 - ((wholeT d).length:Int)).toNat)))∧Below W.heap.size W w'):=hid fun W=>Tryz.strings_Repeat ⟨#[48]⟩ _ W (by omega) (by show 1*_≤_;omega)
  have HPu:Hid (∀ W,Calls Tryz.prog 137 #[.string (str (wholeP d)),.int .i64 3,.int .i64 0,.int .u8 44] W fun e w'=>e=.returned (.tuple #[.string (str (putG (str (wholeP d)))),if digitsB (str (wholeP d))then .nilIface else .iface 35 (.int .i64 3)])∧Below W.heap.size W w'):=hid fun W=>put_any _ W (by rw[str_size];omega)
  have HWp:Hid (str (wholeP d)=str (Lib.repeatL [48] (1 - ((wholeT d).length:Int)).toNat)++str (wholeT d)):=hid (str_appD _ _);have HNs:Hid (numS d=if minusT d then [45]++(if behindT d=[]then putG (str (wholeP d))else putG (str (wholeP d))++[46]++behindT d)else(if behindT d=[]then putG (str (wholeP d))else putG (str (wholeP d))++[46]++behindT d)):=hid rfl
  clear hd hok hv hr h1ok;generalize fmtD d=df at *;generalize behindT d=be at *;generalize wholeT d=wt at *;generalize minusT d=mi at *;generalize wholeP d=wp at *;generalize numS d=ns at *;generalize hnt:numT d=nt at *;generalize hne:numE d=ne at *;have HNT:=hid hnt;have HNE:=hid hne;clear hnt hne;generalize digitsB (str wp)=db at *;generalize putG (str wp)=pg at *;generalize textD df=tx at *;generalize Lib.cut tx [46]=ct at *;have d0:=(HF5.out.dec.cell 0).trans (show _=some (.int .i64 d.coef)from rfl);have d1:=(HF5.out.dec.cell 1).trans (show _=some (.int .i64 d.scale)from rfl)
  go_wp2_with fail
  refine(HTr.out _).mono ?_;clear HTr d0 d1;rintro e w6 ⟨rfl,hb6⟩;have h6:=HF5.out.on hb6;have k0:=(h6.dec.cell 0).trans (show _=some (.int .i64 d.coef)from rfl);have k1:=(h6.dec.cell 1).trans (show _=some (.int .i64 d.scale)from rfl);have f0:=h6.dec.frozen 0;have f1:=h6.dec.frozen 1;have h7:FSt w (trimD d) _:=h6.set (d':=trimD d);obtain⟨w7,e7⟩:∃ w7,w7=(w6.setCell ⟨w.heap.size+2,0,none⟩ (.int .i64 (trimD d).coef)).setCell ⟨w.heap.size+2,1,none⟩ (.int .i64 (trimD d).scale):=⟨_,rfl⟩;rw[←e7]at h7;have HF7:=hid h7;have E7:=hid e7;have p4:=(h6.pat.cell 4).trans (show _=some (.int .i64 3)from rfl);have d1:=(h7.dec.cell 1).trans (show _=some (.int .i64 (trimD d).scale)from rfl);have p4':=(h7.pat.cell 4).trans (show _=some (.int .i64 3)from rfl);have HB6:=hid hb6;clear h6 h7 e7 hb6 HF5;generalize trimD d=dt at*
  go_upto_if 35 with fail
  rw[←E7.out];clear E7 HB6 k0 k1 f0 f1 p4
  go_cut [] (fun wx=>FSt w df wx)
  case first=>
   clear HTx HCt HCp HR0 HR1 HPu
   by_cases h3:3 < dt.scale
   ·have HRo2:=hid (HRo.out h3 w7);have HTs2:=hid (HTs.out h3);have HFm2:=hid (HFm.out.1 h3);have d0:=(HF7.out.dec.cell 0).trans (show _=some (.int .i64 dt.coef)from rfl);clear HRo HTs HFm
    go_wp2_with fail
    refine HRo2.out.mono ?_;clear HRo2 d0 d1 p4';rintro e w8 ⟨rfl,hb8⟩;have h8:=HF7.out.on hb8;generalize round3 dt=dr at *;have h9:FSt w dt (w8.alloc (.cells #[.int .i64 dr.coef,.int .i64 dr.scale] 65)):=h8.on ((Below.refl _ _).alloc (Nat.le_refl _) _);have HF9:=hid h9;clear h8 h9 hb8 HF7
    go_wp2_with fail
    refine(HTs2.out _).mono ?_;clear HTs2;rintro e w10 ⟨rfl,hb10⟩;have h10:=HF9.out.on hb10;have k0:=(h10.dec.cell 0).trans (show _=some (.int .i64 dt.coef)from rfl);have k1:=(h10.dec.cell 1).trans (show _=some (.int .i64 dt.scale)from rfl);have f0:=h10.dec.frozen 0;have f1:=h10.dec.frozen 1;have h11:=h10.set (d':=trimD dr);rw[←HFm2.out]at h11 ⊢;have HF11:=hid h11;clear h10 h11 hb10 HFm2
    go_wp2_with fail
    go_meet
    case rel=>exact HF11.out
   ·have HFm2:=hid (HFm.out.2 (by first|exact h3|exact Int.not_lt.1 h3))
    clear HRo HTs HFm
    go_wp2_with fail
    go_meet
    case rel=>rw[HFm2.out];exact HF7.out
  case rest=>
   clear HRo HTs HFm HF7 d1 p4';have HF8:=hid hcut;have d0:=(hcut.dec.cell 0).trans (show _=some (.int .i64 df.coef)from rfl);have d1:=(hcut.dec.cell 1).trans (show _=some (.int .i64 df.scale)from rfl);have HTx2:=hid (HTx.out wc hcut.below);clear hcut HTx
   go_wp2_with fail
   refine HTx2.out.mono ?_;clear HTx2 d0 d1;rintro e w9 ⟨rfl,hb9⟩;have HF9:=hid (HF8.out.on hb9);have HCt2:=hid (HCt.out w9 HF9.out.below);clear hb9 HF8 HCt
   go_wp2_with fail
   refine HCt2.out.mono ?_;clear HCt2;rintro e w10 ⟨rfl,n10,hw10⟩;have h10:FSt w df w10:=by rw[hw10];exact HF9.out.on (below_drewN (Below.refl _ _) n10)
   have HF10:=hid h10;have p3:=(h10.pat.cell 3).trans (show _=some (.int .i64 0)from rfl);clear hw10 h10 HF9
   go_wp2_with fail
   refine(HCp.out _).mono ?_;clear HCp;rintro e w11 ⟨rfl,rfl⟩;have y1:(str be).size=be.length:=str_size be;have y2:(str wt).size=wt.length:=str_size wt;obtain⟨kk,hkk⟩:∃ kk:Nat,kk=(1 - (wt.length:Int)).toNat:=⟨_,rfl⟩;rw[←hkk]at HR1 HWp;have y3:(str (Lib.repeatL [48] kk)).size≤1:=by rw[str_size,Lib.repeatL_length,List.length_singleton];omega
   have hm0:max (0:Int) (-((str be).size:Int))=0:=by omega
   have hw0:wrap64 (-((str be).size:Int))= -((str be).size:Int):=by unfold wrap64;omega
   have hm1:max (0:Int) (1 - ((str wt).size:Int))=(kk:Int):=by omega
   have hw1:wrap64 (1 - ((str wt).size:Int))=1 - ((str wt).size:Int):=by unfold wrap64;omega
   have hse:str be++(⟨#[]⟩:ByteArray)=str be:=bts_inj (by simp[bts,ByteArray.data_append])
   have y4:(str be).size≤50:=by omega
   have y5:(str wt).size≤50:=by omega
   have y6:(str pg).size≤110:=by rw[str_size];exact z4
   have HBe:Hid ((be=[]→((str be).toList == [])=true)∧(be≠[]→((str be).toList == [])=false)):=hid (by
    have e:(str be).toList=be:=by rw[ByteArray.toList_eq];rfl
    rw[e];exact⟨fun h=>by rw[h];rfl,fun h=>by simpa using h⟩)
   have HStr:Hid (∀ a b:List UInt8,str (a++b)=str a++str b):=hid str_appD;rw[HWp.out]at HPu;have v1:¬(9223372036854775807 < (str be).size):=by omega
   have v2:¬(9223372036854775807 < (str (Lib.repeatL [48] kk)).size+(str wt).size):=by omega
   clear HWp y1 y2 hkk z1 z2 z3 z4;generalize hSB:str be=SB at *;generalize str wt=SW at *;generalize str (Lib.repeatL [48] kk)=RL at *;generalize hPG:str pg=PG at *;have HSB:=hid hSB;have HPG:=hid hPG;clear hSB hPG
   go_wp2_with fail
   refine(HR0.out _).mono ?_;clear HR0 hm0 hw0;rintro e w12 ⟨rfl,hb12⟩;have h12:=HF10.out.on hb12;have HF12:=hid h12;have p2:=(h12.pat.cell 2).trans (show _=some (.int .i64 1)from rfl);clear h12 hb12 p3 HF10
   go_wp2_with fail
   refine(HR1.out _).mono ?_;clear HR1 hm1 hw1;rintro e w13 ⟨rfl,hb13⟩;have h13:=HF12.out.on hb13;have HF13:=hid h13;have p5:=(h13.pat.cell 5).trans (show _=some (.int .i64 3)from rfl);have p6:=(h13.pat.cell 6).trans (show _=some (.int .i64 0)from rfl);have q1:=(h13.sym.cell 1).trans (show _=some (.int .u8 44)from rfl);clear h13 hb13 p2 HF12
   go_wp2_with fail
   refine(HPu.out _).mono ?_;clear HPu p5 p6 q1;rintro e w14 ⟨rfl,hb14⟩;have h14:=HF13.out.on hb14;have HF14:=hid h14;clear h14 hb14 HF13;cases db with
   | false=>
     obtain rfl:ne=3:=by rw[HE.out];rfl
     obtain rfl:nt=[]:=by rw[HT.out];rfl
     rw[if_neg (by decide)]
     go_wp2_with fail
     go_ret2
     exact⟨by rw[HNT.out,HNE.out,errD_ne (by decide)];rfl,HF14.out.below⟩
   | true=>
     obtain rfl:ne=0:=by rw[HE.out];rfl
     obtain rfl:nt=ns:=by rw[HT.out];rfl
     rw[if_pos rfl]
     by_cases hbe:be=[]
     ·have hq:=HBe.out.1 hbe;have p0:=(HF14.out.pat.cell 0).trans (show _=some (.string ⟨#[]⟩)from rfl);have p1:=(HF14.out.pat.cell 1).trans (show _=some (.string ⟨#[]⟩)from rfl);have HN:Hid (nt=if mi then [45]++pg else pg):=hid (by rw[HNs.out,if_pos hbe])
      have e1:(⟨#[]⟩:ByteArray)++PG=PG:=bts_inj (by simp[bts,ByteArray.data_append])
      have e2:PG++(⟨#[]⟩:ByteArray)=PG:=bts_inj (by simp[bts,ByteArray.data_append])
      have v3:¬(9223372036854775807 < PG.size):=by omega
      have v4:¬(9223372036854775807 < 1+PG.size):=by omega
      have HB14:=hid HF14.out.below;clear hbe HNs HBe HF14;cases mi with
      | false=>
        go_wp2_with fail
        go_ret2
        exact⟨by rw[HNT.out,HNE.out,errD_zero,HN.out,if_neg (by decide),HPG.out];rfl,HB14.out⟩
      | true=>
        have HN2:Hid (nt=[45]++pg):=hid (HN.out.trans rfl)
        go_wp2_with fail
        go_ret2
        exact⟨by rw[HNT.out,HNE.out,errD_zero,HN2.out,HStr.out,HPG.out];rfl,HB14.out⟩
     ·have hq:=HBe.out.2 hbe;have hb15:Below w14.heap.size w14 (w14.alloc (.cells #[.int .u8 46] 5)):=(Below.refl _ _).alloc (Nat.le_refl _) _;have q0:=(HF14.out.sym.cell 0).trans (show _=some (.int .u8 46)from rfl);have h15:=HF14.out.on hb15;have p0:=(h15.pat.cell 0).trans (show _=some (.string ⟨#[]⟩)from rfl);have p1:=(h15.pat.cell 1).trans (show _=some (.string ⟨#[]⟩)from rfl);have HB15:=hid h15.below;have hcv:=conv_dot w14;have HN:Hid (nt=if mi then [45]++(pg++[46]++be)else pg++[46]++be):=hid (by rw[HNs.out,if_neg hbe])
      have e1:(⟨#[]⟩:ByteArray)++(PG++((⟨#[46]⟩:ByteArray)++SB))=PG++((⟨#[46]⟩:ByteArray)++SB):=bts_inj (by simp[bts,ByteArray.data_append])
      have e2:(PG++((⟨#[46]⟩:ByteArray)++SB))++(⟨#[]⟩:ByteArray)=PG++((⟨#[46]⟩:ByteArray)++SB):=bts_inj (by simp[bts,ByteArray.data_append])
      have e3:Hid (∀ a b c:ByteArray,a++b++c=a++(b++c)):=hid fun a b c=>bts_inj (by simp[bts,ByteArray.data_append])
      have v3:¬(9223372036854775807 < 1+SB.size):=by omega
      have v4:¬(9223372036854775807 < PG.size+(1+SB.size)):=by omega
      have v5:¬(9223372036854775807 < 1+(PG.size+(1+SB.size))):=by omega
      clear hbe HNs HBe HF14 h15 hb15;cases mi with
      | false=>
        go_wp2_with fail
        go_ret2
        exact⟨by rw[HNT.out,HNE.out,errD_zero,HN.out,if_neg (by decide),HStr.out,HStr.out,HPG.out,HSB.out,e3.out];rfl,HB15.out⟩
      | true=>
        have HN2:Hid (nt=[45]++(pg++[46]++be)):=hid (HN.out.trans rfl)
        go_wp2_with fail
        go_ret2
        exact⟨by rw[HNT.out,HNE.out,errD_zero,HN2.out,HStr.out,HStr.out,HStr.out,HPG.out,HSB.out,e3.out];rfl,HB15.out⟩
 ·have HE:Hid (numE d=1):=hid (if_neg hd);have HT:Hid (numT d=[]):=hid (if_neg (by rw[HE.out];decide))
  rw[checkD_no hd,errD_ne (by decide)]
  clear hd
  go_wp2_with fail
  go_ret2
  exact⟨by rw[HE.out,HT.out];rfl,HF5.out.below⟩
end Go.Proofs.YtpfmmbbggcghiaaGreatDoor
