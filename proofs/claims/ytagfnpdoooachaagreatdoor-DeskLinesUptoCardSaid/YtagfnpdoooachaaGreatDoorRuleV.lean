/- npat.Check and nout.check at the pattern and the signs that messages have. -/
import Derived.Test.YtagfnpdoooachaaGreatDoorGrpB
set_option linter.unusedSimpArgs false
set_option linter.unusedVariables false
set_option maxHeartbeats 3200000
set_option maxRecDepth 100000
namespace Go.Proofs.YtagfnpdoooachaaGreatDoor
open Go.RowKit
open Lib (hid)
def patV:Value:=.agg #[.string ⟨#[]⟩,.string ⟨#[]⟩,.int .i64 1,.int .i64 0,.int .i64 3,.int .i64 3,.int .i64 0]
def symV:Value:=.agg #[.int .u8 46,.int .u8 44]
def affixChars:ByteArray:=⟨#[97,98,99,100,101,102,103,104,105,106,107,108,109,110,111,112,113,114,115,116,117,118,119,120,121,122,65,66,67,68,69,70,71,72,73,74,75,76,77,78,79,80,81,82,83,84,85,86,87,88,89,90,32,36,37]⟩
theorem asciiAff:∀(j:Nat) b,affixChars.data.toList[j]? =some b→b.toNat < 128:=by
 have h:∀ b∈affixChars.data.toList,b.toNat < 128:=by decide
 exact fun j b hb=>h b (List.mem_of_getElem? hb)
theorem trim_none:Lib.trimS (⟨#[]⟩:ByteArray).data.toList affixChars.data.toList=[]:=by decide +kernel
theorem affix_none (w:World):Calls Tryz.prog 203 #[.string ⟨#[]⟩] w fun e w'=>e=.returned (.bool true)∧Below w.heap.size w w':=by
 have HT:Hid (Calls Tryz.prog 176 #[.string ⟨#[]⟩,.string affixChars] w fun e w'=>e=.returned (.string ⟨#[]⟩)∧Below w.heap.size w w'):=hid (by
  have h:=trim_any ⟨#[]⟩ affixChars w (by decide) (by decide) asciiAff
  rw[trim_none]at h;exact h)
 unfold affixChars at HT
 go_enter Tryz.func203,Tryz.ntmps203
 go_wp2_with fail
 refine HT.out.mono ?_;clear HT;rintro e w1 ⟨rfl,hb⟩;have HB:=hid hb;clear hb
 go_wp2_with fail
 go_ret
 exact⟨rfl,HB.out⟩
theorem npatCheck_any (w:World):Calls Tryz.prog 159 #[patV] w fun e w'=>e=.returned .nilIface∧Below w.heap.size w w':=by
 have HA:Hid (∀ W,Calls Tryz.prog 203 #[.string ⟨#[]⟩] W fun e w'=>e=.returned (.bool true)∧Below W.heap.size W w'):=hid fun W=>affix_none W;obtain⟨W1,eW1⟩:∃ W1,W1=w.alloc (.cells #[.string ⟨#[]⟩,.string ⟨#[]⟩,.int .i64 1,.int .i64 0,.int .i64 3,.int .i64 3,.int .i64 0] 112):=⟨_,rfl⟩;have mb:Blk W1 w.heap.size 112 #[.string ⟨#[]⟩,.string ⟨#[]⟩,.int .i64 1,.int .i64 0,.int .i64 3,.int .i64 3,.int .i64 0]:=by rw[eW1];exact Blk.new _ _ _
 have hb1:Below w.heap.size w W1:=by rw[eW1];exact(Below.refl _ _).alloc (Nat.le_refl _) _
 have HB1:=hid hb1;have MB:=hid mb;have EW:=hid eW1;have k0:=(mb.cell 0).trans (show _=some (.string ⟨#[]⟩)from rfl);clear hb1 mb eW1;unfold patV
 go_enter Tryz.func159,Tryz.ntmps159
 go_upto_region 1 with fail
 rw[←EW.out];clear EW
 go_wp2_with fail
 refine(HA.out _).mono ?_;rintro e w2 ⟨rfl,hb2⟩;have HB2:=hid (HB1.out.trans (hb2.mono HB1.out.size));have MB2:=hid (MB.out.below hb2 MB.out.lt);have k1:=(MB2.out.cell 1).trans (show _=some (.string ⟨#[]⟩)from rfl);clear k0 hb2 MB HB1
 go_wp2_with fail
 refine(HA.out _).mono ?_;clear HA;rintro e w3 ⟨rfl,hb3⟩;have HB3:=hid (HB2.out.trans (hb3.mono HB2.out.size));have m3:=MB2.out.below hb3 MB2.out.lt;have c2:=(m3.cell 2).trans (show _=some (.int .i64 1)from rfl);have c3:=(m3.cell 3).trans (show _=some (.int .i64 0)from rfl);have c4:=(m3.cell 4).trans (show _=some (.int .i64 3)from rfl);have c5:=(m3.cell 5).trans (show _=some (.int .i64 3)from rfl);have c6:=(m3.cell 6).trans (show _=some (.int .i64 0)from rfl);clear k1 hb3 m3 MB2 HB2
 go_wp2_with fail
 go_ret
 exact⟨rfl,HB3.out⟩
theorem symCheck_any (w:World):Calls Tryz.prog 160 #[symV] w fun e w'=>e=.returned .nilIface∧Below w.heap.size w w':=by
 have H1:Hid (∀ W,Calls Tryz.prog 177 #[.string ⟨#[46,44,39,95]⟩,.int .u8 46] W fun e w'=>e=.returned (.int .i64 0)∧w'=W):=hid fun W=>Tryz.strings_IndexByte ⟨#[46,44,39,95]⟩ 46 W;have H2:Hid (∀ W,Calls Tryz.prog 177 #[.string ⟨#[46,44,39,95]⟩,.int .u8 44] W fun e w'=>e=.returned (.int .i64 1)∧w'=W):=hid fun W=>Tryz.strings_IndexByte ⟨#[46,44,39,95]⟩ 44 W;have HB:Hid (Below w.heap.size w (w.alloc (.cells #[.int .u8 46,.int .u8 44] 114))):=hid ((Below.refl _ _).alloc (Nat.le_refl _) _);unfold symV
 go_enter Tryz.func160,Tryz.ntmps160
 go_wp2_with fail
 refine(H1.out _).mono ?_;clear H1;rintro e w2 ⟨rfl,rfl⟩
 go_wp2_with fail
 refine(H2.out _).mono ?_;clear H2;rintro e w2 ⟨rfl,rfl⟩
 go_wp2_with fail
 go_ret
 exact⟨rfl,HB.out⟩
theorem ncheck_any (w:World):Calls Tryz.prog 106 #[patV,symV] w fun e w'=>e=.returned .nilIface∧Below w.heap.size w w':=by
 have H1:Hid (∀ W,Calls Tryz.prog 159 #[patV] W fun e w'=>e=.returned .nilIface∧Below W.heap.size W w'):=hid fun W=>npatCheck_any W;have H2:Hid (∀ W,Calls Tryz.prog 160 #[symV] W fun e w'=>e=.returned .nilIface∧Below W.heap.size W w'):=hid fun W=>symCheck_any W;unfold patV symV at *;obtain⟨W2,eW2⟩:∃ W2,W2=(w.alloc (.cells #[.string ⟨#[]⟩,.string ⟨#[]⟩,.int .i64 1,.int .i64 0,.int .i64 3,.int .i64 3,.int .i64 0] 112)).alloc (.cells #[.int .u8 46,.int .u8 44] 114):=⟨_,rfl⟩;have mb:Blk W2 (w.heap.size+1) 114 #[.int .u8 46,.int .u8 44]:=by
  rw[eW2];have:=Blk.new (w.alloc (.cells #[.string ⟨#[]⟩,.string ⟨#[]⟩,.int .i64 1,.int .i64 0,.int .i64 3,.int .i64 3,.int .i64 0] 112)) 114 #[.int .u8 46,.int .u8 44];rw[World.size_alloc]at this;exact this
 have hb2:Below w.heap.size w W2:=by rw[eW2];exact((Below.refl _ _).alloc (Nat.le_refl _) _).alloc (by simp) _
 have HB2:=hid hb2;have MB:=hid mb;have EW:=hid eW2;clear hb2 mb eW2
 go_enter Tryz.func106,Tryz.ntmps106
 go_wp2_with fail
 rw[←EW.out];clear EW;refine(H1.out _).mono ?_;clear H1;rintro e w3 ⟨rfl,hb3⟩;have HB3:=hid (HB2.out.trans (hb3.mono HB2.out.size));have m3:=MB.out.below hb3 MB.out.lt;have c0:=(m3.cell 0).trans (show _=some (.int .u8 46)from rfl);have c1:=(m3.cell 1).trans (show _=some (.int .u8 44)from rfl);clear hb3 m3 MB HB2
 go_wp2_with fail
 refine(H2.out _).mono ?_;clear H2;rintro e w4 ⟨rfl,hb4⟩;have HB4:=hid (HB3.out.trans (hb4.mono HB3.out.size));clear hb4
 go_wp2_with fail
 go_ret
 exact⟨rfl,HB4.out⟩
def headR (r:Rl):List UInt8:=r.op::((if r.mod=0 then []else [32,37,32]++Lib.itoa r.mod)++(if r.neg then [32,33,61,32]else [32,61,32]))
def relatedR (r:Rl):List UInt8:=headR r++joinT rangedR r.rng [44]
theorem fineR_all {r:Rl} (h:fineR r=true):r.op∈opsR∧0≤r.mod∧r.mod≤1000000∧r.rng≠[]∧∀ p∈r.rng,rngOk p=true:=by
 unfold fineR at h;simp only[Bool.and_eq_true,decide_eq_true_eq,Bool.not_eq_true',List.isEmpty_eq_false_iff,List.all_eq_true,List.contains_iff_mem]at h;obtain⟨⟨⟨⟨h1,h2⟩,h3⟩,h4⟩,h5⟩:=h;exact⟨h1,h2,h3,h4,h5⟩
theorem enc_op {c:UInt8} (h:c∈opsR):Utf8.encode (c.toNat:Int)=str [c]:=by
 unfold opsR at h;simp at h;rcases h with h|h|h|h|h|h <;> rw[h] <;> decide +kernel
theorem related_any (r:Rl) (V:Value) (lo:Nat) (w:World) (hf:fineR r=true) (hV:ListOk Enc.pair w lo w.heap.size V r.rng) (hn:r.rng.length≤10000000) (hj:(joinT rangedR r.rng [44]).length≤1000000000) (hv:RV w):
 Calls Tryz.prog 153 #[.agg #[.int .u8 r.op.toNat,.int .i64 r.mod,.bool r.neg,V]] w fun e w'=>e=.returned (.string (str (relatedR r)))∧Below w.heap.size w w':=by
 obtain⟨f1,f2,f3,f4,f5⟩:=fineR_all hf;obtain⟨VA,Vc,rfl,_⟩:=hV.form;obtain⟨W1,eW1⟩:∃ W1,W1=w.alloc (.cells #[.int .u8 r.op.toNat,.int .i64 r.mod,.bool r.neg,.slice VA r.rng.length Vc] 162):=⟨_,rfl⟩;have hb1:Below w.heap.size w W1:=by rw[eW1];exact(Below.refl _ _).alloc (Nat.le_refl _) _
 have m1:Blk W1 w.heap.size 162 #[.int .u8 r.op.toNat,.int .i64 r.mod,.bool r.neg,.slice VA r.rng.length Vc]:=by rw[eW1];exact Blk.new _ _ _
 have HB1:=hid hb1;have M1:=hid m1;have HW1:=hid eW1;have HI:Hid (∀ W,Below w.heap.size w W→Calls Tryz.prog 62 #[.int .i64 r.mod] W fun e w'=>e=.returned (.string (str (Lib.itoa r.mod)))∧Below W.heap.size W w'):=hid fun W hW=>itoa_any r.mod W f2 f3 (hv.below hW);have HJ:Hid (∀ W,Below w.heap.size w W→Calls Tryz.prog 198 #[.slice VA r.rng.length Vc,.string ⟨#[44]⟩,.func (.func 199) #[] #[]] W fun e w'=>e=.returned (.string (str (joinT rangedR r.rng [44])))∧Below W.heap.size W w'):=hid fun W hW=>
  joinedP_any r.rng _ [44] rangedR lo W ((hV.below Enc.pair_laws hW).mono Enc.pair_laws (Nat.le_refl _) hW.size) hn (Nat.le_trans hj (by decide)) (hid fun x hx W' hW'=>ranged_any x W' (f5 x hx) ((hv.below hW).below hW'))
 have li:=itoa_small r.mod f2 f3;have si:(str (Lib.itoa r.mod)).size=(Lib.itoa r.mod).length:=str_size _;have sj:(str (joinT rangedR r.rng [44])).size=(joinT rangedR r.rng [44]).length:=str_size _;have k0:W1.cell? ⟨w.heap.size,0,none⟩=some (.int .u8 r.op.toNat):=(m1.cell 0).trans rfl;have k1:W1.cell? ⟨w.heap.size,1,none⟩=some (.int .i64 r.mod):=(m1.cell 1).trans rfl;have hop:r.op.toNat < 128:=by
  unfold opsR at f1;simp at f1;rcases f1 with h|h|h|h|h|h <;> rw[h] <;> decide
 clear hf hV hv f4 f5 eW1 hb1 m1
 go_enter Tryz.func153,Tryz.ntmps153
 go_upto_region 1 with fail
 rw[←HW1.out];clear HW1
 go_upto_region 2 with fail
 rw[enc_op f1];have k2:=(M1.out.cell 2).trans (show _=some (.bool r.neg)from rfl);have k3:=(M1.out.cell 3).trans (show _=some (.slice VA r.rng.length Vc)from rfl);obtain⟨M,hM⟩:∃ M:List UInt8,M=if r.mod=0 then []else [32,37,32]++Lib.itoa r.mod:=⟨_,rfl⟩
 have hMl:M.length≤24:=by rw[hM];split <;> simp;omega
 have HRs:Hid (relatedR r=r.op::(M++(if r.neg then [32,33,61,32]else [32,61,32]))++joinT rangedR r.rng [44]):=hid (by rw[hM];rfl)
 have HM:=hid hM;clear hM;obtain⟨Z,hZ⟩:∃ Z,Z=(r.mod != 0):=⟨_,rfl⟩
 go_upto_if 10 with fail
 rw[←hZ];have HZ:=hid hZ;clear hZ
 go_cut [3] (fun o wx=>o=.string (str (r.op::M))∧Below W1.heap.size W1 wx)
 case first=>
  by_cases h0:r.mod=0
  ·obtain rfl:Z=false:=by rw[HZ.out];simp[h0]
   have e:M=[]:=by rw[HM.out,if_pos h0]
   clear HI HJ h0 k2 k3
   go_wp2_with fail
   go_meet
   case rel=>exact⟨by rw[e],Below.refl _ _⟩
  ·obtain rfl:Z=true:=by rw[HZ.out];simp[h0]
   have e:M=[32,37,32]++Lib.itoa r.mod:=by rw[HM.out,if_neg h0]
   have z1:¬(9223372036854775807 < 3+(Lib.itoa r.mod).length):=by omega
   have z2:¬(9223372036854775807 < 1+(3+(Lib.itoa r.mod).length)):=by omega
   have hst:str [r.op]++((⟨#[32,37,32]⟩:ByteArray)++str (Lib.itoa r.mod))=str (r.op::M):=by rw[e,show(⟨#[32,37,32]⟩:ByteArray)=str [32,37,32]from rfl,←strR_app,←strR_app];rfl
   have HS:=hid hst;have s1:(str [r.op]).size=1:=rfl;have C:=hid (HI.out _ HB1.out);generalize Lib.itoa r.mod=im at *;clear HJ h0 HI hst e k2 k3
   go_wp2_with fail
   refine C.out.mono ?_;clear C;rintro e w2 ⟨rfl,hb2⟩;have HB2:=hid hb2;clear hb2
   go_wp2_with fail
   go_meet
   case rel=>exact⟨by rw[HS.out],HB2.out⟩
 case rest=>
  obtain⟨rfl,hb2⟩:=hcut;have HB2:=hid (HB1.out.trans (hb2.mono HB1.out.size));have M2:=M1.out.below hb2 M1.out.lt;have j2:=(M2.cell 2).trans (show _=some (.bool r.neg)from rfl);have j3:=(M2.cell 3).trans (show _=some (.slice VA r.rng.length Vc)from rfl);have C:=hid (HJ.out _ HB2.out);have sM:(str (r.op::M)).size=M.length+1:=str_size _;clear hb2 HI HJ k0 k1 k2 k3 M1 M2 HB1 HM HZ f2 f3 li si f1;generalize joinT rangedR r.rng [44]=J at *;cases hneg:r.neg with
  | true=>
    rw[hneg]at j2;rw[hneg,if_pos rfl]at HRs;have hst:str (r.op::M)++(⟨#[32,33,61,32]⟩:ByteArray)++str J=str (relatedR r):=by rw[HRs.out,show(⟨#[32,33,61,32]⟩:ByteArray)=str [32,33,61,32]from rfl,←strR_app,←strR_app];rfl
    have HS:=hid hst;have z1:¬(9223372036854775807 < M.length+1+4):=by omega
    have z2:¬(9223372036854775807 < M.length+1+4+J.length):=by omega
    clear HRs hst hneg
    go_wp2_with fail
    refine C.out.mono ?_;clear C;rintro e w3 ⟨rfl,hb3⟩;have HB3:=hid (HB2.out.trans (hb3.mono HB2.out.size));clear hb3
    go_wp2_with fail
    go_ret
    exact⟨by rw[←HS.out];rfl,HB3.out⟩
  | false=>
    rw[hneg]at j2;rw[hneg,if_neg (by decide)]at HRs
    have hst:str (r.op::M)++(⟨#[32,61,32]⟩:ByteArray)++str J=str (relatedR r):=by rw[HRs.out,show(⟨#[32,61,32]⟩:ByteArray)=str [32,61,32]from rfl,←strR_app,←strR_app];rfl
    have HS:=hid hst;have z1:¬(9223372036854775807 < M.length+1+3):=by omega
    have z2:¬(9223372036854775807 < M.length+1+3+J.length):=by omega
    clear HRs hst hneg
    go_wp2_with fail
    refine C.out.mono ?_;clear C;rintro e w3 ⟨rfl,hb3⟩;have HB3:=hid (HB2.out.trans (hb3.mono HB2.out.size));clear hb3
    go_wp2_with fail
    go_ret
    exact⟨by rw[←HS.out];rfl,HB3.out⟩
def partR (p:List Rl):List UInt8:=joinT relatedR p [32,97,110,100,32]
def textR (R:List (List Rl)):List UInt8:=joinT partR R [32,111,114,32]
theorem mem_join_le {α:Type} (T:α→List UInt8) (sep:List UInt8) {l:List α} {x:α} (h:x∈l):(T x).length≤(joinT T l sep).length:=by
 unfold joinT;cases l with
 | nil=>cases h
 | cons a l=>
   rw[List.map_cons,Lib.join_length];have h1:(T x).length≤Lib.lens (T a::l.map T):=by
    have h2:T x∈T a::l.map T:=by rw[←List.map_cons];exact List.mem_map_of_mem h
    unfold Lib.lens;generalize T a::l.map T=L at h2
    induction L with
    | nil=>cases h2
    | cons y L ih=>
      rw[List.map_cons,List.sum_cons];rcases List.mem_cons.1 h2 with rfl|h2
      ·omega
      ·have:=ih h2;omega
   omega
structure RlIn (r:Rl):Prop where
 fine:fineR r=true
 len:r.rng.length≤10000000
theorem related_small {r:Rl}:(joinT rangedR r.rng [44]).length≤(relatedR r).length:=by unfold relatedR;rw[List.length_append];omega
theorem textPart_any (p:List Rl) (V:Value) (lo:Nat) (w:World) (hp:∀ r∈p,RlIn r) (hV:ListOk Enc.rl w lo w.heap.size V p) (hn:p.length≤10000000) (hj:(partR p).length≤1000000000) (hv:RV w):
 Calls Tryz.prog 151 #[V] w fun e w'=>e=.returned (.string (str (partR p)))∧Below w.heap.size w w':=by
 have HJ:=hid (joinedR_any p V [32,97,110,100,32] relatedR lo w hV hn (Nat.le_trans hj (by decide)) (hid fun r hr W hW V' hV'=>
  related_any r V' lo W (hp r hr).fine hV' (hp r hr).len (Nat.le_trans (Nat.le_trans related_small (mem_join_le relatedR _ hr)) hj) (hv.below hW)))
 clear hp hV hn hj hv
 go_enter Tryz.func151,Tryz.ntmps151
 go_wp2_with fail
 refine HJ.out.mono ?_;clear HJ;rintro e w1 ⟨rfl,hb⟩;have HB:=hid hb;clear hb
 go_wp2_with fail
 go_ret
 exact⟨rfl,HB.out⟩
theorem fine1_any (p:Int×Int) (w:World):Calls Tryz.prog 201 #[.agg #[.int .i64 p.1,.int .i64 p.2]] w fun e w'=>e=.returned (.bool (!rngOk p))∧Below w.heap.size w w':=by
 obtain⟨a,b⟩:=p;have hR:(!rngOk (a,b))=(decide (a < 0) || decide (b < a) || decide (1000000 < b)):=by unfold rngOk;simp
 rw[hR];clear hR;dsimp only
 go_enter Tryz.func201,Tryz.ntmps201
 go_wp2_with fail
 all_goals (go_ret;exact⟨rfl,(Below.refl _ _).alloc (Nat.le_refl _) _⟩)
def rangeOf (s:List UInt8):Int×Int:=(numR (Lib.cut s [46,46]).1,numR (if(Lib.cut s [46,46]).2.2 then(Lib.cut s [46,46]).2.1 else(Lib.cut s [46,46]).1))
def hdTl (s:List UInt8):List UInt8×List UInt8:=if(Lib.cut s [32,61,32]).2.2 then((Lib.cut s [32,61,32]).1,(Lib.cut s [32,61,32]).2.1)else((Lib.cut s [32,33,61,32]).1,(Lib.cut s [32,33,61,32]).2.1)
def opOf (l:List UInt8):UInt8:=if l.length=1 then l.headD 0 else 0
def parsedR (s:List UInt8):Rl:=
 ⟨opOf (Lib.cut (hdTl s).1 [32,37,32]).1,if(Lib.cut (hdTl s).1 [32,37,32]).2.2 then numR (Lib.cut (hdTl s).1 [32,37,32]).2.1 else 0,!(Lib.cut s [32,61,32]).2.2,(pcsS [44] (hdTl s).2).map rangeOf⟩
def partOf (s:List UInt8):List Rl:=(pcsS [32,97,110,100,32] s).map parsedR
def ruleOf (s:List UInt8):List (List Rl):=(pcsS [32,111,114,32] s).map partOf
theorem cut_len (s sep:List UInt8):(Lib.cut s sep).1.length≤s.length∧(Lib.cut s sep).2.1.length≤s.length:=by
 unfold Lib.cut;split
 ·exact⟨by rw[List.length_take];omega,by rw[List.length_drop];omega⟩
 ·exact⟨Nat.le_refl _,Nat.zero_le _⟩
theorem hdTl_len (s:List UInt8):(hdTl s).1.length≤s.length∧(hdTl s).2.length≤s.length:=by
 unfold hdTl;split
 ·exact cut_len s _
 ·exact cut_len s _
theorem parsed_len (s:List UInt8):(parsedR s).rng.length≤s.length+1:=by
 have h1:=pcs_count (sep:=[44]) (by decide) _ (hdTl s).2 (Nat.le_refl _)
 have h2:=(hdTl_len s).2;show((pcsS [44] (hdTl s).2).map rangeOf).length≤_;rw[List.length_map];omega
theorem part_len (s:List UInt8):(partOf s).length≤s.length+1∧∀ r∈partOf s,r.rng.length≤s.length+1:=by
 refine⟨by unfold partOf;rw[List.length_map];exact pcs_count (by decide) _ s (Nat.le_refl _),fun r hr=> ?_⟩
 obtain⟨x,hx,rfl⟩:=List.mem_map.1 hr;have h1:=pcs_len (by decide) _ s (Nat.le_refl _) x hx
 have h2:=parsed_len x;omega
theorem rule_len (s:List UInt8):(ruleOf s).length≤s.length+1∧∀ p∈ruleOf s,p.length≤s.length+1∧∀ r∈p,r.rng.length≤s.length+1:=by
 refine⟨by unfold ruleOf;rw[List.length_map];exact pcs_count (by decide) _ s (Nat.le_refl _),fun p hp=> ?_⟩
 obtain⟨x,hx,rfl⟩:=List.mem_map.1 hp;have h1:=pcs_len (by decide) _ s (Nat.le_refl _) x hx
 have h2:=part_len x;exact⟨by omega,fun r hr=>by have:=h2.2 r hr;omega⟩
def countR (R:List (List Rl)):Nat:=(R.map List.length).sum
def partOk (p:List Rl):Bool:= !p.isEmpty && p.all fineR
def checkR (R:List (List Rl)):Int:=if R.isEmpty || !(R.all partOk)then 3 else if 20 < countR R then 4 else 0
def errR (n:Int):Value:=if n=0 then .nilIface else .iface 27 (.int .i64 n)
theorem checkR_zero {R:List (List Rl)} (h:checkR R=0):R≠[]∧(∀ p∈R,p≠[]∧∀ r∈p,fineR r=true)∧countR R≤20:=by
 unfold checkR at h;split at h
 ·exact absurd h (by decide)
 ·rename_i h1
  split at h
  ·exact absurd h (by decide)
  ·rename_i h2
   simp only[Bool.or_eq_true,not_or,Bool.not_eq_true',Bool.not_eq_true,Bool.not_eq_false']at h1;obtain⟨h3,h4⟩:=h1;refine⟨by rintro rfl;simp at h3,fun p hp=> ?_,by omega⟩
   have h5:R.all partOk=true:=by simpa using h4
   have h6:=List.all_eq_true.1 h5 p hp;unfold partOk at h6;simp only[Bool.and_eq_true,Bool.not_eq_true',List.isEmpty_eq_false_iff,List.all_eq_true]at h6;exact h6
structure OpV where
 i:Int
 v:Int
 w:Int
 f:Int
 t:Int
def valR (o:OpV) (c:UInt8):Int:=if c=110∨c=105 then o.i else if c=118 then o.v else if c=119 then o.w else if c=102 then o.f else if c=116 then o.t else 0
def xR (o:OpV) (r:Rl):Int:=if r.mod=0 then valR o r.op else Int.tmod (valR o r.op) r.mod
def inR (x:Int) (p:Int×Int):Bool:=decide (p.1≤x) && decide (x≤p.2)
def hold1 (o:OpV) (r:Rl):Bool:=(r.rng.any (inR (xR o r)) && (r.op != 110 || o.t == 0)) != r.neg
def holdP (o:OpV) (p:List Rl):Bool:= !(p.any fun r=> !hold1 o r)
def holdR (o:OpV) (R:List (List Rl)):Bool:=R.any (holdP o)
theorem join_le {α:Type} (T:α→List UInt8) (sep:List UInt8) (B:Nat):∀(l:List α),(∀ x∈l,(T x).length≤B)→(joinT T l sep).length≤l.length*(B+sep.length)
 | [],_=>by unfold joinT;simp[Lib.join]
 | a::l,h=>by
   have hs:∀(l:List α),(∀ x∈l,(T x).length≤B)→Lib.lens (l.map T)≤l.length*B:=by
    intro l
    induction l with
    | nil=>intro _;simp[Lib.lens]
    | cons a l ih=>
      intro h;have h1:=ih fun x hx=>h x (List.mem_cons_of_mem _ hx);have h2:=h a (List.mem_cons_self ..);unfold Lib.lens at h1 ⊢;rw[List.map_cons,List.map_cons,List.sum_cons,List.length_cons,Nat.add_mul,Nat.one_mul];omega
   have h1:=hs (a::l) h;unfold joinT;rw[List.map_cons,Lib.join_length,←List.map_cons,List.length_map,List.length_cons,Nat.mul_add];rw[List.length_cons]at h1;have:sep.length*l.length≤(l.length+1)*sep.length:=by rw[Nat.mul_comm];exact Nat.mul_le_mul_right _ (by omega)
   omega
theorem join_sum {α:Type} (T:α→List UInt8) (sep:List UInt8) (f:α→Nat) (C:Nat):∀(l:List α),(∀ x∈l,(T x).length+sep.length≤f x*C)→(joinT T l sep).length≤(l.map f).sum*C
 | [],_=>by unfold joinT;simp[Lib.join]
 | a::l,h=>by
   have hs:∀(l:List α),(∀ x∈l,(T x).length+sep.length≤f x*C)→Lib.lens (l.map T)+sep.length*l.length≤(l.map f).sum*C:=by
    intro l
    induction l with
    | nil=>intro _;simp[Lib.lens]
    | cons a l ih=>
      intro h;have h1:=ih fun x hx=>h x (List.mem_cons_of_mem _ hx);have h2:=h a (List.mem_cons_self ..);unfold Lib.lens at h1 ⊢;rw[List.map_cons,List.map_cons,List.sum_cons,List.length_cons,List.map_cons,List.sum_cons,Nat.add_mul,Nat.mul_add,Nat.mul_one];omega
   have h1:=hs (a::l) h;unfold joinT;rw[List.map_cons,Lib.join_length,←List.map_cons,List.length_map];rw[List.length_cons,Nat.mul_add,Nat.mul_one]at h1;omega
theorem ranged_len {p:Int×Int} (h:rngOk p=true):(rangedR p).length≤44:=by
 have hp:0≤p.1∧p.1≤p.2∧p.2≤1000000:=by
  unfold rngOk at h;simp at h;omega
 have h1:=itoa_small p.1 hp.1 (by omega)
 have h2:=itoa_small p.2 (by omega) hp.2.2
 unfold rangedR;split
 ·omega
 ·simp only[List.length_append,List.length_cons,List.length_nil];omega
theorem related_len {r:Rl} (h:fineR r=true) {M:Nat} (hM:r.rng.length≤M):(relatedR r).length≤29+M*45:=by
 obtain⟨_,h2,h3,_,h5⟩:=fineR_all h;have h1:=join_le rangedR [44] 44 r.rng fun p hp=>ranged_len (h5 p hp);have h4:=itoa_small r.mod h2 h3;have h6:r.rng.length*(44+1)≤M*45:=Nat.mul_le_mul_right _ hM;have h7:(headR r).length≤29:=by
  unfold headR;rw[List.length_cons,List.length_append];have a1:(if r.mod=0 then([]:List UInt8)else [32,37,32]++Lib.itoa r.mod).length≤24:=by split <;> simp;omega
  have a2:(if r.neg=true then([32,33,61,32]:List UInt8)else [32,61,32]).length≤4:=by split <;> simp
  omega
 unfold relatedR;rw[List.length_append];simp only[List.length_cons,List.length_nil]at h1;omega
theorem text_len {R:List (List Rl)} (h:checkR R=0) (hM:∀ p∈R,∀ r∈p,r.rng.length≤1049000):(textR R).length≤1000000000:=by
 obtain⟨_,h1,h2⟩:=checkR_zero h;have h3:(textR R).length≤(R.map List.length).sum*47205038:=by
  refine join_sum partR _ List.length _ R fun p hp=> ?_;have h4:(partR p).length≤p.length*(29+1049000*45+5):=join_le relatedR [32,97,110,100,32] _ p fun r hr=>related_len ((h1 p hp).2 r hr) (hM p hp r hr);have h5:0 < p.length:=List.length_pos_iff.2 (h1 p hp).1;show(partR p).length+4≤_;omega
 unfold countR at h2;omega
end Go.Proofs.YtagfnpdoooachaaGreatDoor
