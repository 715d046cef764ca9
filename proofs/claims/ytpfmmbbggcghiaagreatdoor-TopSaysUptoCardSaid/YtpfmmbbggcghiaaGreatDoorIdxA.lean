/- A relation as a text. -/
import Derived.Test.YtpfmmbbggcghiaaGreatDoorJoined
set_option linter.unusedSimpArgs false
set_option linter.unusedVariables false
set_option maxHeartbeats 3200000
set_option maxRecDepth 100000
namespace Go.Proofs.YtpfmmbbggcghiaaGreatDoor
open Go.RowKit
open Lib (hid)
def headR (r:Rl):List UInt8:=r.op::((if r.mod=0 then []else [32,37,32]++Lib.itoa r.mod)++(if r.neg then [32,33,61,32]else [32,61,32]))
def relatedR (r:Rl):List UInt8:=headR r++joinT rangedR r.rng [44]
theorem fineR_all {r:Rl} (h:fineR r=true):r.op∈opsR∧0≤r.mod∧r.mod≤1000000∧r.rng≠[]∧∀ p∈r.rng,rngOk p=true:=by
 unfold fineR at h;simp only[Bool.and_eq_true,decide_eq_true_eq,Bool.not_eq_true',List.isEmpty_eq_false_iff,List.all_eq_true,List.contains_iff_mem]at h;obtain⟨⟨⟨⟨h1,h2⟩,h3⟩,h4⟩,h5⟩:=h;exact⟨h1,h2,h3,h4,h5⟩
theorem enc_op {c:UInt8} (h:c∈opsR):Utf8.encode (c.toNat:Int)=str [c]:=by
 unfold opsR at h;simp at h;rcases h with h|h|h|h|h|h <;> rw[h] <;> decide +kernel
theorem related_any (r:Rl) (V:Value) (lo:Nat) (w:World) (hf:fineR r=true) (hV:ListOk Enc.pair w lo w.heap.size V r.rng) (hn:r.rng.length≤10000000) (hj:(joinT rangedR r.rng [44]).length≤1000000000) (hv:RV w):
 Calls Tryz.prog 215 #[.agg #[.int .u8 r.op.toNat,.int .i64 r.mod,.bool r.neg,V]] w fun e w'=>e=.returned (.string (str (relatedR r)))∧Below w.heap.size w w':=by
 obtain⟨f1,f2,f3,f4,f5⟩:=fineR_all hf;obtain⟨VA,Vc,rfl,_⟩:=hV.form;obtain⟨W1,eW1⟩:∃ W1,W1=w.alloc (.cells #[.int .u8 r.op.toNat,.int .i64 r.mod,.bool r.neg,.slice VA r.rng.length Vc] 307):=⟨_,rfl⟩;have hb1:Below w.heap.size w W1:=by rw[eW1];exact(Below.refl _ _).alloc (Nat.le_refl _) _
 have m1:Blk W1 w.heap.size 307 #[.int .u8 r.op.toNat,.int .i64 r.mod,.bool r.neg,.slice VA r.rng.length Vc]:=by rw[eW1];exact Blk.new _ _ _
 have HB1:=hid hb1;have M1:=hid m1;have HW1:=hid eW1;have HI:Hid (∀ W,Below w.heap.size w W→Calls Tryz.prog 61 #[.int .i64 r.mod] W fun e w'=>e=.returned (.string (str (Lib.itoa r.mod)))∧Below W.heap.size W w'):=hid fun W hW=>itoa_any r.mod W f2 f3 (hv.below hW);have HJ:Hid (∀ W,Below w.heap.size w W→Calls Tryz.prog 231 #[.slice VA r.rng.length Vc,.string ⟨#[44]⟩,.func (.func 232) #[] #[]] W fun e w'=>e=.returned (.string (str (joinT rangedR r.rng [44])))∧Below W.heap.size W w'):=hid fun W hW=>
  joinedP_any r.rng _ [44] rangedR lo W ((hV.below Enc.pair_laws hW).mono Enc.pair_laws (Nat.le_refl _) hW.size) hn (Nat.le_trans hj (by decide)) (hid fun x hx W' hW'=>ranged_any x W' (f5 x hx) ((hv.below hW).below hW'))
 have li:=itoa_small r.mod f2 f3;have si:(str (Lib.itoa r.mod)).size=(Lib.itoa r.mod).length:=str_size _;have sj:(str (joinT rangedR r.rng [44])).size=(joinT rangedR r.rng [44]).length:=str_size _;have k0:W1.cell? ⟨w.heap.size,0,none⟩=some (.int .u8 r.op.toNat):=(m1.cell 0).trans rfl;have k1:W1.cell? ⟨w.heap.size,1,none⟩=some (.int .i64 r.mod):=(m1.cell 1).trans rfl;have hop:r.op.toNat < 128:=by
  unfold opsR at f1;simp at f1;rcases f1 with h|h|h|h|h|h <;> rw[h] <;> decide
 clear hf hV hv f4 f5 eW1 hb1 m1
 go_enter Tryz.func215,Tryz.ntmps215
 go_upto_region 1 with fail
 rw[←HW1.out];clear HW1
 go_upto_region 2 with fail
 rw[enc_op f1];have k2:=(M1.out.cell 2).trans (show _=some (.bool r.neg)from rfl);have k3:=(M1.out.cell 3).trans (show _=some (.slice VA r.rng.length Vc)from rfl);obtain⟨M,hM⟩:∃ M:List UInt8,M=if r.mod=0 then []else [32,37,32]++Lib.itoa r.mod:=⟨_,rfl⟩
 have hMl:M.length≤24:=by rw[hM];split <;> simp;omega
 have HRs:Hid (relatedR r=r.op::(M++(if r.neg then [32,33,61,32]else [32,61,32]))++joinT rangedR r.rng [44]):=hid (by rw[hM];rfl)
 have HM:=hid hM;clear hM;obtain⟨Z,hZ⟩:∃ Z,Z=(r.mod != 0):=⟨_,rfl⟩
 go_upto_if 10 with fail
 rw[←hZ];have HZ:=hid hZ;clear hZ
 go_cut [3] (fun o wx=>o=.string (str (r.op::M))∧Below W1.heap.size W1 wx)
 case first=>
  by_cases h0:r.mod=0
  ·obtain rfl:Z=false:=by rw[HZ.out];simp[h0]
   have e:M=[]:=by rw[HM.out,if_pos h0]
   clear HI HJ h0 k2 k3
   go_wp2_with fail
   go_meet
   case rel=>exact⟨by rw[e],Below.refl _ _⟩
  ·obtain rfl:Z=true:=by rw[HZ.out];simp[h0]
   have e:M=[32,37,32]++Lib.itoa r.mod:=by rw[HM.out,if_neg h0]
   have z1:¬(9223372036854775807 < 3+(Lib.itoa r.mod).length):=by omega
   have z2:¬(9223372036854775807 < 1+(3+(Lib.itoa r.mod).length)):=by omega
   have hst:str [r.op]++((⟨#[32,37,32]⟩:ByteArray)++str (Lib.itoa r.mod))=str (r.op::M):=by rw[e,show(⟨#[32,37,32]⟩:ByteArray)=str [32,37,32]from rfl,←strR_app,←strR_app];rfl
   have HS:=hid hst;have s1:(str [r.op]).size=1:=rfl;have C:=hid (HI.out _ HB1.out);generalize Lib.itoa r.mod=im at *;clear HJ h0 HI hst e k2 k3
   go_wp2_with fail
   refine C.out.mono ?_;clear C;rintro e w2 ⟨rfl,hb2⟩;have HB2:=hid hb2;clear hb2
   go_wp2_with fail
   go_meet
   case rel=>exact⟨by rw[HS.out],HB2.out⟩
 case rest=>
  obtain⟨rfl,hb2⟩:=hcut;have HB2:=hid (HB1.out.trans (hb2.mono HB1.out.size));have M2:=M1.out.below hb2 M1.out.lt;have j2:=(M2.cell 2).trans (show _=some (.bool r.neg)from rfl);have j3:=(M2.cell 3).trans (show _=some (.slice VA r.rng.length Vc)from rfl);have C:=hid (HJ.out _ HB2.out);have sM:(str (r.op::M)).size=M.length+1:=str_size _;clear hb2 HI HJ k0 k1 k2 k3 M1 M2 HB1 HM HZ f2 f3 li si f1;generalize joinT rangedR r.rng [44]=J at *;cases hneg:r.neg with
  | true=>
    rw[hneg]at j2;rw[hneg,if_pos rfl]at HRs;have hst:str (r.op::M)++(⟨#[32,33,61,32]⟩:ByteArray)++str J=str (relatedR r):=by rw[HRs.out,show(⟨#[32,33,61,32]⟩:ByteArray)=str [32,33,61,32]from rfl,←strR_app,←strR_app];rfl
    have HS:=hid hst;have z1:¬(9223372036854775807 < M.length+1+4):=by omega
    have z2:¬(9223372036854775807 < M.length+1+4+J.length):=by omega
    clear HRs hst hneg
    go_wp2_with fail
    refine C.out.mono ?_;clear C;rintro e w3 ⟨rfl,hb3⟩;have HB3:=hid (HB2.out.trans (hb3.mono HB2.out.size));clear hb3
    go_wp2_with fail
    go_ret
    exact⟨by rw[←HS.out];rfl,HB3.out⟩
  | false=>
    rw[hneg]at j2;rw[hneg,if_neg (by decide)]at HRs
    have hst:str (r.op::M)++(⟨#[32,61,32]⟩:ByteArray)++str J=str (relatedR r):=by rw[HRs.out,show(⟨#[32,61,32]⟩:ByteArray)=str [32,61,32]from rfl,←strR_app,←strR_app];rfl
    have HS:=hid hst;have z1:¬(9223372036854775807 < M.length+1+3):=by omega
    have z2:¬(9223372036854775807 < M.length+1+3+J.length):=by omega
    clear HRs hst hneg
    go_wp2_with fail
    refine C.out.mono ?_;clear C;rintro e w3 ⟨rfl,hb3⟩;have HB3:=hid (HB2.out.trans (hb3.mono HB2.out.size));clear hb3
    go_wp2_with fail
    go_ret
    exact⟨by rw[←HS.out];rfl,HB3.out⟩
def partR (p:List Rl):List UInt8:=joinT relatedR p [32,97,110,100,32]
def textR (R:List (List Rl)):List UInt8:=joinT partR R [32,111,114,32]
theorem mem_join_le {α:Type} (T:α→List UInt8) (sep:List UInt8) {l:List α} {x:α} (h:x∈l):(T x).length≤(joinT T l sep).length:=by
 unfold joinT;cases l with
 | nil=>cases h
 | cons a l=>
   rw[List.map_cons,Lib.join_length];have h1:(T x).length≤Lib.lens (T a::l.map T):=by
    have h2:T x∈T a::l.map T:=by rw[←List.map_cons];exact List.mem_map_of_mem h
    unfold Lib.lens;generalize T a::l.map T=L at h2
    induction L with
    | nil=>cases h2
    | cons y L ih=>
      rw[List.map_cons,List.sum_cons];rcases List.mem_cons.1 h2 with rfl|h2
      ·omega
      ·have:=ih h2;omega
   omega
structure RlIn (r:Rl):Prop where
 fine:fineR r=true
 len:r.rng.length≤10000000
theorem related_small {r:Rl}:(joinT rangedR r.rng [44]).length≤(relatedR r).length:=by unfold relatedR;rw[List.length_append];omega
theorem textPart_any (p:List Rl) (V:Value) (lo:Nat) (w:World) (hp:∀ r∈p,RlIn r) (hV:ListOk Enc.rl w lo w.heap.size V p) (hn:p.length≤10000000) (hj:(partR p).length≤1000000000) (hv:RV w):
 Calls Tryz.prog 213 #[V] w fun e w'=>e=.returned (.string (str (partR p)))∧Below w.heap.size w w':=by
 have HJ:=hid (joinedR_any p V [32,97,110,100,32] relatedR lo w hV hn (Nat.le_trans hj (by decide)) (hid fun r hr W hW V' hV'=>
  related_any r V' lo W (hp r hr).fine hV' (hp r hr).len (Nat.le_trans (Nat.le_trans related_small (mem_join_le relatedR _ hr)) hj) (hv.below hW)))
 clear hp hV hn hj hv
 go_enter Tryz.func213,Tryz.ntmps213
 go_wp2_with fail
 refine HJ.out.mono ?_;clear HJ;rintro e w1 ⟨rfl,hb⟩;have HB:=hid hb;clear hb
 go_wp2_with fail
 go_ret
 exact⟨rfl,HB.out⟩
theorem fine1_any (p:Int×Int) (w:World):Calls Tryz.prog 233 #[.agg #[.int .i64 p.1,.int .i64 p.2]] w fun e w'=>e=.returned (.bool (!rngOk p))∧Below w.heap.size w w':=by
 obtain⟨a,b⟩:=p;have hR:(!rngOk (a,b))=(decide (a < 0) || decide (b < a) || decide (1000000 < b)):=by unfold rngOk;simp
 rw[hR];clear hR;dsimp only
 go_enter Tryz.func233,Tryz.ntmps233
 go_wp2_with fail
 all_goals (go_ret;exact⟨rfl,(Below.refl _ _).alloc (Nat.le_refl _) _⟩)
theorem enc_hi (c:UInt8) (h:128≤c.toNat):∃ a b:UInt8,Utf8.encode (c.toNat:Int)=⟨#[a,b]⟩∧128≤b.toNat:=by
 have hc:=c.toNat_lt;have hv:Utf8.valid (c.toNat:Int)=true:=by unfold Utf8.valid;simp;omega
 unfold Utf8.encode;simp only[hv,if_true,Int.toNat_natCast];rw[if_neg (by omega),if_pos (by omega)]
 refine⟨_,_,rfl,?_⟩;rw[UInt8.toNat_ofNat'];omega
theorem byte_hi (b:UInt8) (h:128≤b.toNat):Lib.indexByte [118,119,102,116] b= -1:=by
 have e:∀ d:UInt8,d.toNat < 128→(d == b)=false:=fun d hd=>by
  rw[beq_eq_false_iff_ne];rintro rfl;omega
 unfold Lib.indexByte;simp[Lib.indexByte,e 118 (by decide),e 119 (by decide),e 102 (by decide),e 116 (by decide)]
theorem indexRune_hi (c:UInt8) (hc:128≤c.toNat) (w:World):
 Calls Tryz.prog 205 #[.string ⟨#[110,105,118,119,102,116]⟩,.int .i32 c.toNat] w fun e w'=>e=.returned (.int .i64 (-1))∧∃ n,w'=w.drewN n:=by
 obtain⟨a,b,he,hb⟩:=enc_hi c hc;have h0:(0:Int)≤(c.toNat:Int):=by omega
 have h1:¬((c.toNat:Int) < 128):=by omega
 have hlt:=c.toNat_lt;have h2:((c.toNat:Int) == 65533)=false:=by rw[beq_eq_false_iff_ne];omega
 have hv:Lib.validRune (c.toNat:Int)=true:=by unfold Lib.validRune;simp;omega
 have HV:=hid (Tryz.utf8_ValidRune (c.toNat:Int) w);rw[hv]at HV;obtain⟨R,hR⟩:∃ R,R=Utf8.encode (c.toNat:Int):=⟨_,rfl⟩;rw[he]at hR;have hsz:R.size=2:=by rw[hR];rfl
 have hr1:1 < R.size:=by omega
 have hri:(1:Int) < (R.size:Int):=by omega
 have hRb:R[1]=b:=by subst hR;rfl
 have hbn:((105:Int) == (R[1].toNat:Int))=false:=by rw[beq_eq_false_iff_ne,hRb];omega
 have hs1:1 < (⟨#[110,105,118,119,102,116]⟩:ByteArray).size:=by decide +kernel
 have hs105:((⟨#[110,105,118,119,102,116]⟩:ByteArray)[1]'hs1).toNat=105:=rfl;have hbn2:¬((⟨#[110,105,118,119,102,116]⟩:ByteArray)[1]'hs1=R[1]):=by rw[hRb];intro h;have:=congrArg UInt8.toNat h;rw[hs105]at this;omega
 have hbn3:((((⟨#[110,105,118,119,102,116]⟩:ByteArray)[1]'hs1).toNat:Int) == (R[1].toNat:Int))=false:=by rw[hs105];exact hbn
 have hbb:b.toNat.toUInt8=b:=by simp
 have HIb:Hid (∀ W,Calls Tryz.prog 115 #[.string ((⟨#[110,105,118,119,102,116]⟩:ByteArray).extract 2 6),.int .u8 R[1].toNat] W fun e w'=>e=.returned (.int .i64 (-1))∧W=w'):=hid fun W=>by
  have h:=Tryz.strings_IndexByte ⟨#[118,119,102,116]⟩ (b.toNat:Int) W;rw[Int.toNat_natCast,hbb,show(⟨#[118,119,102,116]⟩:ByteArray).data.toList=[118,119,102,116]from rfl,byte_hi b hb]at h;rw[hRb];exact h.mono fun e w' ⟨h1,h2⟩=>⟨h1,h2.symm⟩
 rw[←hR]at he;have HE:=hid he;clear hv he hbb hR hRb;generalize (c.toNat:Int)=C at*
 go_enter Tryz.func205,Tryz.ntmps205
 go_wp2_with fail
 refine HV.out.mono ?_;clear HV;rintro e w1 ⟨rfl,rfl⟩;have he':=HE.out
 go_wp2_with fail
 go_step3
 go_wp2_with fail
 clear HE he'
 go_loopw [9,10] (fun i f wr=>i=.int .i64 1∧f=.int .i64 0∧wr=w1) (fun _ _ _=>0)
 case atStart=>exact⟨rfl,rfl,rfl⟩
 case round=>
  obtain⟨rfl,rfl,rfl⟩:=hrel
  go_wp2_with fail
  go_step3
  go_wp2_with fail
  go_quiet (fail)
  go_wp2_with fail
  go_quiet ((go_at_call 115;first|with_reducible exact quiet_left (HIb.out _)|with_reducible exact quiet_add_left (HIb.out _)))
  go_wp2_with fail
  rw[Exit.noGoto_ret]
  go_wp2
  rw[Exit.noGoto_ret]
  go_wp2
  go_ret
  exact⟨rfl,_,rfl⟩
theorem containsRune_any (c:UInt8) (w:World):
 Calls Tryz.prog 202 #[.string ⟨#[110,105,118,119,102,116]⟩,.int .i32 c.toNat] w fun e w'=>e=.returned (.bool (opsR.contains c))∧Below w.heap.size w w':=by
 by_cases hc:c.toNat < 128
 ·refine(Tryz.strings_ContainsRune_ascii ⟨#[110,105,118,119,102,116]⟩ (c.toNat:Int) w (by omega) (by omega)).mono ?_
  rintro e w' ⟨rfl,rfl⟩;refine⟨?_,Below.refl _ _⟩;rw[Int.toNat_natCast,show c.toNat.toUInt8=c by simp,show(⟨#[110,105,118,119,102,116]⟩:ByteArray).data.toList=opsR from rfl]
  congr 2
  by_cases hm:c∈opsR
  ·rw[List.contains_iff_mem.2 hm];refine decide_eq_true ?_;refine Decidable.byContradiction fun h=> ?_;have h1:Lib.indexByte opsR c= -1:=by have:=Lib.indexByte_ge opsR c;omega
   obtain⟨k,hk,rfl⟩:=List.getElem_of_mem hm;exact Lib.indexByte_none h1 k (List.getElem?_eq_getElem hk)
  ·rw[show opsR.contains c=false from by rw[←Bool.not_eq_true,List.contains_iff_mem];exact hm]
   refine decide_eq_false fun h=> ?_;obtain⟨o,ho⟩:=Int.eq_ofNat_of_zero_le h;exact hm (List.mem_of_getElem? (Lib.indexByte_some ho).1)
 ·have hm:opsR.contains c=false:=by
   rw[←Bool.not_eq_true,List.contains_iff_mem];intro h;unfold opsR at h;simp at h;rcases h with h|h|h|h|h|h <;> rw[h]at hc <;> exact hc (by decide)
  rw[hm];have HI:=hid (indexRune_hi c (by omega) w)
  clear hm hc
  go_enter Tryz.func202,Tryz.ntmps202
  go_wp2_with fail
  refine HI.out.mono ?_;clear HI;rintro e w1 ⟨rfl,n,rfl⟩
  go_wp2_with fail
  go_ret
  exact⟨rfl,below_drewN (Below.refl _ _) n⟩
theorem rune_c (r:Nat) (h:128≤r):128≤(if Utf8.valid (r:Int)=true then(r:Int).toNat else Utf8.runeError):=by
 split
 ·omega
 ·decide
theorem enc_any (r:Nat) (h:128≤r):∃ R,Utf8.encode (r:Int)=R∧(R.size=2∨R.size=3∨R.size=4)∧∀(h1:1 < R.size),R.size=2→128≤R[1].toNat:=by
 have hc:=rune_c r h;unfold Utf8.encode;simp only;generalize (if Utf8.valid (r:Int)=true then(r:Int).toNat else Utf8.runeError)=c at*
 rw[if_neg (show ¬ c < 0x80 by omega)]
 by_cases h1:c < 0x800
 ·rw[if_pos h1];refine⟨_,rfl,.inl rfl,fun _ _=> ?_⟩;show 128≤(UInt8.ofNat (0x80+c % 64)).toNat;rw[UInt8.toNat_ofNat'];omega
 ·rw[if_neg h1]
  by_cases h2:c < 0x10000
  ·rw[if_pos h2];exact⟨_,rfl,.inr (.inl rfl),fun _ h3=>absurd (show 3=2 from h3) (by decide)⟩
  ·rw[if_neg h2];exact⟨_,rfl,.inr (.inr rfl),fun _ h3=>absurd (show 4=2 from h3) (by decide)⟩
theorem below_iter (w:World) (s:ByteArray) (p:Nat):Below w.heap.size w (w.iter s p):=(Below.refl _ _).alloc (Nat.le_refl _) _
theorem indexRune_two (X:ByteArray) (hX:X.size=2) (x0:(X[0]'(by omega)).toNat < 128) (x1:(X[1]'(by omega)).toNat < 128) (r:Nat) (hr:128≤r) (hr2:r≤2147483647) (w:World):
 Calls Tryz.prog 205 #[.string X,.int .i32 r] w fun e w'=>e=.returned (.int .i64 (-1))∧Below w.heap.size w w':=by
 have h0:(0:Int)≤(r:Int):=by omega
 have h1:¬((r:Int) < 128):=by omega
 by_cases hrr:r=65533
 ·subst hrr;have hi0:0 < X.size:=by omega
  have hi1:1 < X.size:=by omega
  have hi2:¬ 2 < X.size:=by omega
  have n0:=fun ty=>run_next_ascii (P:=Tryz.prog) w X 0 ty hi0 x0;have n1:=fun ty=>run_next_ascii (P:=Tryz.prog) w X 1 ty hi1 x1;have n2:=run_next_end (P:=Tryz.prog) w X 2;generalize X[0].toNat=a at *;generalize X[1].toNat=b at *;have e0:((a:Int) == 65533)=false:=by rw[beq_eq_false_iff_ne];omega
  have e1:((b:Int) == 65533)=false:=by rw[beq_eq_false_iff_ne];omega
  go_enter Tryz.func205,Tryz.ntmps205
  go_wp2_with fail
  go_loopg [5,6] 2 (fun g _ _ wx=>∃ i:Nat,i+g=2∧wx=w.iter X i)
  case atStart=>exact⟨0,by omega,rfl⟩
  case round=>
   obtain⟨i,hig,rfl⟩:=hrel
   match gk,hig with
   | 0,hig=>
     obtain rfl:i=2:=by omega
     go_wp2
     go_ret
     exact⟨rfl,below_iter w X 2⟩
   | 1,hig=>
     obtain rfl:i=1:=by omega
     go_wp2
     go_roundg 0
     case measure=>omega
     case rel=>exact⟨2,by omega,rfl⟩
   | 2,hig=>
     obtain rfl:i=0:=by omega
     go_wp2
     go_roundg 1
     case measure=>omega
     case rel=>exact⟨1,by omega,rfl⟩
   | g+3,hig=>omega
 ·have h2:((r:Int) == 65533)=false:=by rw[beq_eq_false_iff_ne];omega
  have HV:=hid (Tryz.utf8_ValidRune (r:Int) w);cases hv:Lib.validRune (r:Int)with
  | false=>
    rw[hv]at HV;generalize (r:Int)=C at *;clear x0 x1
    go_enter Tryz.func205,Tryz.ntmps205
    go_wp2_with fail
    refine HV.out.mono ?_;clear HV;rintro e w1 ⟨rfl,rfl⟩
    go_wp2_with fail
    go_ret
    exact⟨rfl,Below.refl _ _⟩
  | true=>
    rw[hv]at HV;obtain⟨R,he,hsz,hhi⟩:=enc_any r hr;have HE:=hid he;have hbn3:∀(h1:1 < R.size),R.size=2→(((X[1]'(by omega)).toNat:Int) == (R[1].toNat:Int))=false:=fun h1 h2=>by
     have:=hhi h1 h2;rw[beq_eq_false_iff_ne];omega
    have HB3:=hid hbn3;have hX1:1 < X.size:=by omega
    have hXi:(1:Int) < (X.size:Int):=by omega
    have hX2:2≤X.size:=by omega
    have hXi2:(2:Int)≤(X.size:Int):=by omega
    have hex:X.extract 2 2=⟨#[]⟩:=by
     apply ByteArray.ext;simp
    have HIb:Hid (∀ W (c:Int),Calls Tryz.prog 115 #[.string ByteArray.empty,.int .u8 c] W fun e w'=>e=.returned (.int .i64 (-1))∧W=w'):=hid fun W c=>by
     have h:=Tryz.strings_IndexByte ByteArray.empty c W;exact h.mono fun e w' ⟨h1,h2⟩=>⟨h1,h2.symm⟩
    generalize (r:Int)=C at *;clear hv hhi hbn3 he
    go_enter Tryz.func205,Tryz.ntmps205
    go_wp2_with fail
    refine HV.out.mono ?_;clear HV;rintro e w1 ⟨rfl,rfl⟩;have he':=HE.out;rcases hsz with hsz|hsz|hsz
    ·have hr1:1 < R.size:=by omega
     have hri:(1:Int) < (R.size:Int):=by omega
     have hbn:=HB3.out hr1 hsz;have hbnn:((X[1].toNat:Int) != (R[1].toNat:Int))=true:=by unfold bne;rw[hbn];rfl
     go_wp2_with fail
     go_step3
     go_wp2_with fail
     clear HE he'
     go_loopw [9,10] (fun i f wr=>i=.int .i64 1∧f=.int .i64 0∧wr=w1) (fun _ _ _=>0)
     case atStart=>exact⟨rfl,rfl,rfl⟩
     case round=>
      obtain⟨rfl,rfl,rfl⟩:=hrel
      go_wp2_with fail
      go_step3
      go_wp2_with fail
      go_quiet (fail)
      go_wp2_with fail
      go_quiet ((go_at_call 115;first|with_reducible exact quiet_left (HIb.out _ _)|with_reducible exact quiet_add_left (HIb.out _ _)))
      go_wp2_with fail
      rw[Exit.noGoto_ret]
      go_wp2
      rw[Exit.noGoto_ret]
      go_wp2
      go_ret
      exact⟨rfl,below_drewN (Below.refl _ _) _⟩
    ·go_wp2_with fail
     go_step3
     go_wp2_with fail
     clear HE he'
     go_loopw [9,10] (fun i f wr=>i=.int .i64 2∧f=.int .i64 0∧wr=w1) (fun _ _ _=>0)
     case atStart=>exact⟨rfl,rfl,rfl⟩
     case round=>
      obtain⟨rfl,rfl,rfl⟩:=hrel
      go_wp2_with fail
      rw[Exit.noGoto_ret]
      go_wp2
      go_ret
      exact⟨rfl,Below.refl _ _⟩
    ·go_wp2_with fail
     go_step3
     go_wp2_with fail
     clear HE he'
     go_loopw [9,10] (fun i f wr=>i=.int .i64 3∧f=.int .i64 0∧wr=w1) (fun _ _ _=>0)
     case atStart=>exact⟨rfl,rfl,rfl⟩
     case round=>
      obtain⟨rfl,rfl,rfl⟩:=hrel
      go_wp2_with fail
      rw[Exit.noGoto_ret]
      go_wp2
      go_ret
      exact⟨rfl,Below.refl _ _⟩
theorem high_of {s:ByteArray} {q:Nat} (h:(s.get! q).toNat / 64=2) (hq:q < s.size):128≤(s[q]'hq).toNat:=by
 have h2:s.get! q=s[q]'hq:=by have:=get_at s q hq;rwa[Nat.add_zero]at this
 rw[h2]at h;omega
theorem decode_next (s:ByteArray) (pos:Nat) (h:pos < s.size) (ha:128≤(s[pos]'h).toNat):pos+(Utf8.decode s pos).2≤s.size∧∀ j,pos≤j→j < pos+(Utf8.decode s pos).2→∀ hj:j < s.size,128≤(s[j]'hj).toNat:=by
 have one:pos+1≤s.size∧∀ j,pos≤j→j < pos+1→∀ hj:j < s.size,128≤(s[j]'hj).toNat:=⟨h,fun j h1 h2 hj=>by
  obtain rfl:j=pos:=by omega
  exact ha⟩
 have hn:¬(s[pos]'h).toNat < 128:=by omega
 simp only[Utf8.decode,get_at s pos h,hn,if_false];split
 ·rename_i h1
  simp only[Bool.and_eq_true,decide_eq_true_eq,beq_iff_eq]at h1;split
  ·refine⟨by show pos+2≤_;omega,fun j p1 p2 hj=> ?_⟩
   have p2:j < pos+2:=p2;rcases(show j=pos∨j=pos+1 by omega)with rfl|rfl
   ·exact ha
   ·exact high_of h1.2.2 hj
  ·exact one
 split
 ·rename_i h1
  simp only[Bool.and_eq_true,decide_eq_true_eq,beq_iff_eq]at h1;split
  ·refine⟨by show pos+3≤_;omega,fun j p1 p2 hj=> ?_⟩
   have p2:j < pos+3:=p2;rcases(show j=pos∨j=pos+1∨j=pos+2 by omega)with rfl|rfl|rfl
   ·exact ha
   ·exact high_of h1.1.2.2 hj
   ·exact high_of h1.2.2 hj
  ·exact one
 split
 ·rename_i h1
  simp only[Bool.and_eq_true,decide_eq_true_eq,beq_iff_eq]at h1;split
  ·refine⟨by show pos+4≤_;omega,fun j p1 p2 hj=> ?_⟩
   have p2:j < pos+4:=p2;rcases(show j=pos∨j=pos+1∨j=pos+2∨j=pos+3 by omega)with rfl|rfl|rfl|rfl
   ·exact ha
   ·exact high_of h1.1.1.2.2 hj
   ·exact high_of h1.1.2.2 hj
   ·exact high_of h1.2.2 hj
  ·exact one
 ·exact one
theorem contains_lo {l:List UInt8} (hl:∀ x∈l,x.toNat < 128) {b:UInt8} (hb:128≤b.toNat):l.contains b=false:=by
 rw[←Bool.not_eq_true,List.contains_iff_mem];intro h;have:=hl b h;omega
theorem noAny_run {s:ByteArray} {l:List UInt8} (hl:∀ x∈l,x.toNat < 128) {i n:Nat} (h:Lib.NoAny s.data.toList l i) (hi:∀ j,i≤j→j < n→∀ hj:j < s.size,128≤(s[j]'hj).toNat):Lib.NoAny s.data.toList l n:=fun j b hj hb=>by
 by_cases hji:j < i
 ·exact h j b hji hb
 ·have hjs:j < s.size:=by
   rw[Lib.size_eq];exact(List.getElem?_eq_some_iff.1 hb).1
  rw[Lib.data_getElem? s j hjs]at hb;injection hb with hb;subst hb;exact contains_lo hl (hi j (by omega) hj hjs)
theorem indexAny_two (s X:ByteArray) (hX:X.size=2) (hlo:∀ x∈X.data.toList,x.toNat < 128) (hs:s.size < 4294967281) (w:World):
 Calls Tryz.prog 169 #[.string s,.string X] w fun e w'=>e=.returned (.int .i64 (Lib.indexAny s.data.toList X.data.toList))∧Below w.heap.size w w':=by
 by_cases h8:8 < s.size
 ·refine(Tryz.strings_IndexAny_long (zero_of_info (n:=256) (by kernel_rfl)).1 s X w (by omega) h8 hs (by omega) fun j b hb=>hlo b (List.mem_of_getElem? hb)).mono ?_
  rintro e w' ⟨rfl,rfl⟩;exact⟨rfl,((Below.refl _ _).alloc (Nat.le_refl _) _).alloc (by simp) _⟩
 ·have hne:(X.toList.isEmpty)=false:=by
   rw[Lib.toList_data];cases h:X.data.toList with
   | nil=>have:=Lib.size_eq X;rw[h,List.length_nil]at this;omega
   | cons _ _=>rfl
  have hn1:((X.size:Int) == 1)=false:=beq_eq_false_iff_ne.2 (by omega)
  have HA:=hid (Tryz.strings_shouldUseASCIISet (s.size:Int) w);rw[decide_eq_false (show ¬((8:Int) < (s.size:Int)) by omega)]at HA
  have hx0:(X[0]'(by omega)).toNat < 128:=hlo _ (List.mem_of_getElem? (Lib.data_getElem? X 0 (by omega)))
  have hx1:(X[1]'(by omega)).toNat < 128:=hlo _ (List.mem_of_getElem? (Lib.data_getElem? X 1 (by omega)))
  have HRh:Hid (∀(r:Nat) W,128≤r→r≤2147483647→Calls Tryz.prog 205 #[.string X,.int .i32 r] W fun e w'=>e=.returned (.int .i64 (-1))∧Below W.heap.size W w'):=hid fun r W h1 h2=>indexRune_two X hX hx0 hx1 r h1 h2 W;have HRl:Hid (∀(x:UInt8) W,x.toNat < 128→Calls Tryz.prog 205 #[.string X,.int .i32 x.toNat] W fun e w'=>e=.returned (.int .i64 (Lib.indexByte X.data.toList x))∧w'=W):=hid fun x W h1=>by
   have h:=Tryz.strings_IndexRune_ascii X (x.toNat:Int) W (by omega) (by omega)
   rw[show((x.toNat:Int)).toNat.toUInt8=x by simp]at h
   exact h
  have HLo:=hid hlo;clear hx0 hx1 hlo;generalize X.data.toList=chars at*
  go_enter Tryz.func169,Tryz.ntmps169
  go_wp2_with fail
  refine HA.out.mono ?_;clear HA;rintro e w1 ⟨rfl,rfl⟩;have hk0:(w1.iter s 0).heap[w1.heap.size]? =some (.stringIter s 0):=World.iter_heap w1 s 0;have HK0:=hid hk0;have HB0:=hid (below_iter w1 s 0);clear hk0
  go_wp2_with fail
  go_loopg [9,10] s.size (fun g _ _ wx=>∃ i:Nat,i+g=s.size∧wx.heap[w1.heap.size]? =some (.stringIter s i)∧Below w1.heap.size w1 wx∧Hid (Lib.NoAny s.data.toList chars i))
  case atStart=>exact⟨0,by omega,HK0.out,HB0.out,hid (Lib.NoAny.zero _ _)⟩
  case round=>
   clear HK0 HB0;obtain⟨i,hig,hk,hb,HN⟩:=hrel;obtain⟨wx,rfl⟩:∃ wx:World,wx=wr:=⟨_,rfl⟩;have HB:=hid hb;have HK:=hid hk
   by_cases hi:i < s.size
   ·have hnx:=fun ty=>Lib.run_next_any_at (P:=Tryz.prog) wx w1.heap.size s i ty hk hi;have hlt:w1.heap.size < wx.heap.size:=(Array.getElem?_eq_some_iff.1 hk).1;obtain⟨x,hx⟩:∃ x:UInt8,s[i]'hi=x:=⟨_,rfl⟩;have Hx:Hid (s.data.toList[i]? =some x):=hid (by rw[←hx];exact Lib.data_getElem? s i hi)
    have HD:Hid (x.toNat < 128∧Utf8.decode s i=(x.toNat,1)∨128≤x.toNat∧128≤(Utf8.decode s i).1∧1≤(Utf8.decode s i).2∧i+(Utf8.decode s i).2≤s.size∧Lib.NoAny s.data.toList chars (i+(Utf8.decode s i).2)):=hid (by
     subst hx
     by_cases h128:(s[i]'hi).toNat < 128
     ·exact .inl ⟨h128,decode_ascii s i hi h128⟩
     ·obtain⟨d1,d2⟩:=decode_high s i hi (by omega)
      obtain⟨d3,d4⟩:=decode_next s i hi (by omega)
      exact .inr ⟨by omega,d1,d2,d3,noAny_run HLo.out HN.out d4⟩)
    have hdl:=decode_le s i;have HW:Hid (∀ p,(wx.iterAt w1.heap.size s p).heap[w1.heap.size]? =some (.stringIter s p)∧Below w1.heap.size w1 (wx.iterAt w1.heap.size s p)∧w1.heap.size < (wx.iterAt w1.heap.size s p).heap.size):=hid fun p=>⟨Lib.iterAt_heap _ _ _ _ _ hk,Lib.below_iterAt hb (Nat.le_refl _) _ _,by rw[Lib.iterAt_size];exact hlt⟩
    clear hx hk hb;generalize Utf8.decode s i=D at *;obtain⟨r,n⟩:=D;dsimp only at hnx HD hdl;rcases HD.out with⟨hx128,hD⟩|⟨hx128,d1,d2,d3,d4⟩
    ·injection hD with e1 e2;subst e1;subst e2;have HQ:=hid (HRl.out x (wx.iterAt w1.heap.size s (i+1)) hx128);have hcon:=Lib.contains_iff_indexByte chars x;cases hin:chars.contains x with
     | false=>
       have HN2:=hid (HN.out.succ Hx.out hin);rw[hin]at hcon;have hlt0:¬((0:Int)≤Lib.indexByte chars x):=of_decide_eq_false hcon.symm;generalize Lib.indexByte chars x=o at *;clear hcon HD HRl HRh HN Hx hin HLo
       go_wp2_with fail
       refine HQ.out.mono ?_;clear HQ;rintro e w2 ⟨rfl,rfl⟩;obtain⟨q1,q2,_⟩:=HW.out (i+1);have Q1:=hid q1;have Q2:=hid q2;clear q1 q2 HW
       go_wp2_with fail
       go_roundg (s.size - (i+1))
       case measure=>omega
       case rel=>exact⟨i+1,by omega,Q1.out,Q2.out,HN2⟩
     | true=>
       have HH:=hid (Lib.indexAny_hit HN.out Hx.out hin);rw[hin]at hcon;have hge:(0:Int)≤Lib.indexByte chars x:=of_decide_eq_true hcon.symm;generalize Lib.indexByte chars x=o at *;clear hcon HD HRl HRh HN Hx hin HLo
       go_wp2_with fail
       refine HQ.out.mono ?_;clear HQ;rintro e w2 ⟨rfl,rfl⟩;obtain⟨_,q2,_⟩:=HW.out (i+1);have Q2:=hid q2;clear q2 HW
       go_wp2_with fail
       go_ret
       exact⟨by rw[HH.out];rfl,Q2.out⟩
    ·have HQ:=hid (HRh.out r (wx.iterAt w1.heap.size s (i+n)) d1 hdl);have HN2:=hid d4;clear HD HRl HRh HN Hx HLo d4
     go_wp2_with fail
     refine HQ.out.mono ?_;clear HQ;rintro e w2 ⟨rfl,hb2⟩;obtain⟨q1,q2,q3⟩:=HW.out (i+n);have Q1:=hid ((hb2.block _ q3).trans q1);have Q2:=hid (q2.trans (hb2.mono (Nat.le_of_lt q3)));clear q1 q2 q3 HW hb2
     go_wp2_with fail
     go_roundg (s.size - (i+n))
     case measure=>omega
     case rel=>exact⟨i+n,by omega,Q1.out,Q2.out,HN2⟩
   ·obtain rfl:i=s.size:=by omega
    have hnx:=fun ty=>Lib.run_next_end_at (P:=Tryz.prog) wx w1.heap.size s s.size ty hk (by omega)
    have HH:Hid (Lib.indexAny s.data.toList chars= -1):=hid (Lib.indexAny_none (by rw[←Lib.size_eq];exact HN.out))
    clear HRl HRh HN HLo hk hb HK
    go_wp2_with fail
    go_ret
    exact⟨by rw[HH.out];rfl,HB.out⟩
end Go.Proofs.YtpfmmbbggcghiaaGreatDoor
