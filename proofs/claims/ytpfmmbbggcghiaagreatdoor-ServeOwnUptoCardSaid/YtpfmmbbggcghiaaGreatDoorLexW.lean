/- A relation as a text. -/
import Derived.Test.YtpfmmbbggcghiaaGreatDoorJoined
import Derived.Deep.RegionHeld3
set_option linter.unusedSimpArgs false
set_option linter.unusedVariables false
set_option maxHeartbeats 3200000
set_option maxRecDepth 100000
namespace Go.Proofs.YtpfmmbbggcghiaaGreatDoor
open Go.RowKit
open Lib (hid)
def headR (r:Rl):List UInt8:=r.op::((if r.mod=0 then []else [32,37,32]++Lib.itoa r.mod)++(if r.neg then [32,33,61,32]else [32,61,32]))
def relatedR (r:Rl):List UInt8:=headR r++joinT rangedR r.rng [44]
theorem fineR_all {r:Rl} (h:fineR r=true):r.op∈opsR∧0≤r.mod∧r.mod≤1000000∧r.rng≠[]∧∀ p∈r.rng,rngOk p=true:=by
 unfold fineR at h;simp only[Bool.and_eq_true,decide_eq_true_eq,Bool.not_eq_true',List.isEmpty_eq_false_iff,List.all_eq_true,List.contains_iff_mem]at h;obtain⟨⟨⟨⟨h1,h2⟩,h3⟩,h4⟩,h5⟩:=h;exact⟨h1,h2,h3,h4,h5⟩
theorem enc_op {c:UInt8} (h:c∈opsR):Utf8.encode (c.toNat:Int)=str [c]:=by
 unfold opsR at h;simp at h;rcases h with h|h|h|h|h|h <;> rw[h] <;> decide +kernel
theorem related_any (r:Rl) (V:Value) (lo:Nat) (w:World) (hf:fineR r=true) (hV:ListOk Enc.pair w lo w.heap.size V r.rng) (hn:r.rng.length≤10000000) (hj:(joinT rangedR r.rng [44]).length≤1000000000) (hv:RV w):
 Calls Tryz.prog 215 #[.agg #[.int .u8 r.op.toNat,.int .i64 r.mod,.bool r.neg,V]] w fun e w'=>e=.returned (.string (str (relatedR r)))∧Below w.heap.size w w':=by
 obtain⟨f1,f2,f3,f4,f5⟩:=fineR_all hf;obtain⟨VA,Vc,rfl,_⟩:=hV.form;obtain⟨W1,eW1⟩:∃ W1,W1=w.alloc (.cells #[.int .u8 r.op.toNat,.int .i64 r.mod,.bool r.neg,.slice VA r.rng.length Vc] 307):=⟨_,rfl⟩;have hb1:Below w.heap.size w W1:=by rw[eW1];exact(Below.refl _ _).alloc (Nat.le_refl _) _
 have m1:Blk W1 w.heap.size 307 #[.int .u8 r.op.toNat,.int .i64 r.mod,.bool r.neg,.slice VA r.rng.length Vc]:=by rw[eW1];exact Blk.new _ _ _
 have HB1:=hid hb1;have M1:=hid m1;have HW1:=hid eW1;have HI:Hid (∀ W,Below w.heap.size w W→Calls Tryz.prog 61 #[.int .i64 r.mod] W fun e w'=>e=.returned (.string (str (Lib.itoa r.mod)))∧Below W.heap.size W w'):=hid fun W hW=>itoa_any r.mod W f2 f3 (hv.below hW);have HJ:Hid (∀ W,Below w.heap.size w W→Calls Tryz.prog 231 #[.slice VA r.rng.length Vc,.string ⟨#[44]⟩,.func (.func 232) #[] #[]] W fun e w'=>e=.returned (.string (str (joinT rangedR r.rng [44])))∧Below W.heap.size W w'):=hid fun W hW=>
  joinedP_any r.rng _ [44] rangedR lo W ((hV.below Enc.pair_laws hW).mono Enc.pair_laws (Nat.le_refl _) hW.size) hn (Nat.le_trans hj (by decide)) (hid fun x hx W' hW'=>ranged_any x W' (f5 x hx) ((hv.below hW).below hW'))
 have li:=itoa_small r.mod f2 f3;have si:(str (Lib.itoa r.mod)).size=(Lib.itoa r.mod).length:=str_size _;have sj:(str (joinT rangedR r.rng [44])).size=(joinT rangedR r.rng [44]).length:=str_size _;have k0:W1.cell? ⟨w.heap.size,0,none⟩=some (.int .u8 r.op.toNat):=(m1.cell 0).trans rfl;have k1:W1.cell? ⟨w.heap.size,1,none⟩=some (.int .i64 r.mod):=(m1.cell 1).trans rfl;have hop:r.op.toNat < 128:=by
  unfold opsR at f1;simp at f1;rcases f1 with h|h|h|h|h|h <;> rw[h] <;> decide
 clear hf hV hv f4 f5 eW1 hb1 m1
 go_enter Tryz.func215,Tryz.ntmps215
 go_upto_region 1 with fail
 rw[←HW1.out];clear HW1
 go_upto_region 2 with fail
 rw[enc_op f1];have k2:=(M1.out.cell 2).trans (show _=some (.bool r.neg)from rfl);have k3:=(M1.out.cell 3).trans (show _=some (.slice VA r.rng.length Vc)from rfl);obtain⟨M,hM⟩:∃ M:List UInt8,M=if r.mod=0 then []else [32,37,32]++Lib.itoa r.mod:=⟨_,rfl⟩
 have hMl:M.length≤24:=by rw[hM];split <;> simp;omega
 have HRs:Hid (relatedR r=r.op::(M++(if r.neg then [32,33,61,32]else [32,61,32]))++joinT rangedR r.rng [44]):=hid (by rw[hM];rfl)
 have HM:=hid hM;clear hM;obtain⟨Z,hZ⟩:∃ Z,Z=(r.mod != 0):=⟨_,rfl⟩
 go_upto_if 10 with fail
 rw[←hZ];have HZ:=hid hZ;clear hZ
 go_cut [3] (fun o wx=>o=.string (str (r.op::M))∧Below W1.heap.size W1 wx)
 case first=>
  by_cases h0:r.mod=0
  ·obtain rfl:Z=false:=by rw[HZ.out];simp[h0]
   have e:M=[]:=by rw[HM.out,if_pos h0]
   clear HI HJ h0 k2 k3
   go_wp2_with fail
   go_meet
   case rel=>exact⟨by rw[e],Below.refl _ _⟩
  ·obtain rfl:Z=true:=by rw[HZ.out];simp[h0]
   have e:M=[32,37,32]++Lib.itoa r.mod:=by rw[HM.out,if_neg h0]
   have z1:¬(9223372036854775807 < 3+(Lib.itoa r.mod).length):=by omega
   have z2:¬(9223372036854775807 < 1+(3+(Lib.itoa r.mod).length)):=by omega
   have hst:str [r.op]++((⟨#[32,37,32]⟩:ByteArray)++str (Lib.itoa r.mod))=str (r.op::M):=by rw[e,show(⟨#[32,37,32]⟩:ByteArray)=str [32,37,32]from rfl,←strR_app,←strR_app];rfl
   have HS:=hid hst;have s1:(str [r.op]).size=1:=rfl;have C:=hid (HI.out _ HB1.out);generalize Lib.itoa r.mod=im at *;clear HJ h0 HI hst e k2 k3
   go_wp2_with fail
   refine C.out.mono ?_;clear C;rintro e w2 ⟨rfl,hb2⟩;have HB2:=hid hb2;clear hb2
   go_wp2_with fail
   go_meet
   case rel=>exact⟨by rw[HS.out],HB2.out⟩
 case rest=>
  obtain⟨rfl,hb2⟩:=hcut;have HB2:=hid (HB1.out.trans (hb2.mono HB1.out.size));have M2:=M1.out.below hb2 M1.out.lt;have j2:=(M2.cell 2).trans (show _=some (.bool r.neg)from rfl);have j3:=(M2.cell 3).trans (show _=some (.slice VA r.rng.length Vc)from rfl);have C:=hid (HJ.out _ HB2.out);have sM:(str (r.op::M)).size=M.length+1:=str_size _;clear hb2 HI HJ k0 k1 k2 k3 M1 M2 HB1 HM HZ f2 f3 li si f1;generalize joinT rangedR r.rng [44]=J at *;cases hneg:r.neg with
  | true=>
    rw[hneg]at j2;rw[hneg,if_pos rfl]at HRs;have hst:str (r.op::M)++(⟨#[32,33,61,32]⟩:ByteArray)++str J=str (relatedR r):=by rw[HRs.out,show(⟨#[32,33,61,32]⟩:ByteArray)=str [32,33,61,32]from rfl,←strR_app,←strR_app];rfl
    have HS:=hid hst;have z1:¬(9223372036854775807 < M.length+1+4):=by omega
    have z2:¬(9223372036854775807 < M.length+1+4+J.length):=by omega
    clear HRs hst hneg
    go_wp2_with fail
    refine C.out.mono ?_;clear C;rintro e w3 ⟨rfl,hb3⟩;have HB3:=hid (HB2.out.trans (hb3.mono HB2.out.size));clear hb3
    go_wp2_with fail
    go_ret
    exact⟨by rw[←HS.out];rfl,HB3.out⟩
  | false=>
    rw[hneg]at j2;rw[hneg,if_neg (by decide)]at HRs
    have hst:str (r.op::M)++(⟨#[32,61,32]⟩:ByteArray)++str J=str (relatedR r):=by rw[HRs.out,show(⟨#[32,61,32]⟩:ByteArray)=str [32,61,32]from rfl,←strR_app,←strR_app];rfl
    have HS:=hid hst;have z1:¬(9223372036854775807 < M.length+1+3):=by omega
    have z2:¬(9223372036854775807 < M.length+1+3+J.length):=by omega
    clear HRs hst hneg
    go_wp2_with fail
    refine C.out.mono ?_;clear C;rintro e w3 ⟨rfl,hb3⟩;have HB3:=hid (HB2.out.trans (hb3.mono HB2.out.size));clear hb3
    go_wp2_with fail
    go_ret
    exact⟨by rw[←HS.out];rfl,HB3.out⟩
def partR (p:List Rl):List UInt8:=joinT relatedR p [32,97,110,100,32]
def textR (R:List (List Rl)):List UInt8:=joinT partR R [32,111,114,32]
theorem mem_join_le {α:Type} (T:α→List UInt8) (sep:List UInt8) {l:List α} {x:α} (h:x∈l):(T x).length≤(joinT T l sep).length:=by
 unfold joinT;cases l with
 | nil=>cases h
 | cons a l=>
   rw[List.map_cons,Lib.join_length];have h1:(T x).length≤Lib.lens (T a::l.map T):=by
    have h2:T x∈T a::l.map T:=by rw[←List.map_cons];exact List.mem_map_of_mem h
    unfold Lib.lens;generalize T a::l.map T=L at h2
    induction L with
    | nil=>cases h2
    | cons y L ih=>
      rw[List.map_cons,List.sum_cons];rcases List.mem_cons.1 h2 with rfl|h2
      ·omega
      ·have:=ih h2;omega
   omega
structure RlIn (r:Rl):Prop where
 fine:fineR r=true
 len:r.rng.length≤10000000
theorem related_small {r:Rl}:(joinT rangedR r.rng [44]).length≤(relatedR r).length:=by unfold relatedR;rw[List.length_append];omega
theorem textPart_any (p:List Rl) (V:Value) (lo:Nat) (w:World) (hp:∀ r∈p,RlIn r) (hV:ListOk Enc.rl w lo w.heap.size V p) (hn:p.length≤10000000) (hj:(partR p).length≤1000000000) (hv:RV w):
 Calls Tryz.prog 213 #[V] w fun e w'=>e=.returned (.string (str (partR p)))∧Below w.heap.size w w':=by
 have HJ:=hid (joinedR_any p V [32,97,110,100,32] relatedR lo w hV hn (Nat.le_trans hj (by decide)) (hid fun r hr W hW V' hV'=>
  related_any r V' lo W (hp r hr).fine hV' (hp r hr).len (Nat.le_trans (Nat.le_trans related_small (mem_join_le relatedR _ hr)) hj) (hv.below hW)))
 clear hp hV hn hj hv
 go_enter Tryz.func213,Tryz.ntmps213
 go_wp2_with fail
 refine HJ.out.mono ?_;clear HJ;rintro e w1 ⟨rfl,hb⟩;have HB:=hid hb;clear hb
 go_wp2_with fail
 go_ret
 exact⟨rfl,HB.out⟩
theorem fine1_any (p:Int×Int) (w:World):Calls Tryz.prog 233 #[.agg #[.int .i64 p.1,.int .i64 p.2]] w fun e w'=>e=.returned (.bool (!rngOk p))∧Below w.heap.size w w':=by
 obtain⟨a,b⟩:=p;have hR:(!rngOk (a,b))=(decide (a < 0) || decide (b < a) || decide (1000000 < b)):=by unfold rngOk;simp
 rw[hR];clear hR;dsimp only
 go_enter Tryz.func233,Tryz.ntmps233
 go_wp2_with fail
 all_goals (go_ret;exact⟨rfl,(Below.refl _ _).alloc (Nat.le_refl _) _⟩)
theorem enc_hi (c:UInt8) (h:128≤c.toNat):∃ a b:UInt8,Utf8.encode (c.toNat:Int)=⟨#[a,b]⟩∧128≤b.toNat:=by
 have hc:=c.toNat_lt;have hv:Utf8.valid (c.toNat:Int)=true:=by unfold Utf8.valid;simp;omega
 unfold Utf8.encode;simp only[hv,if_true,Int.toNat_natCast];rw[if_neg (by omega),if_pos (by omega)]
 refine⟨_,_,rfl,?_⟩;rw[UInt8.toNat_ofNat'];omega
theorem byte_hi (b:UInt8) (h:128≤b.toNat):Lib.indexByte [118,119,102,116] b= -1:=by
 have e:∀ d:UInt8,d.toNat < 128→(d == b)=false:=fun d hd=>by
  rw[beq_eq_false_iff_ne];rintro rfl;omega
 unfold Lib.indexByte;simp[Lib.indexByte,e 118 (by decide),e 119 (by decide),e 102 (by decide),e 116 (by decide)]
theorem indexRune_hi (c:UInt8) (hc:128≤c.toNat) (w:World):
 Calls Tryz.prog 205 #[.string ⟨#[110,105,118,119,102,116]⟩,.int .i32 c.toNat] w fun e w'=>e=.returned (.int .i64 (-1))∧∃ n,w'=w.drewN n:=by
 obtain⟨a,b,he,hb⟩:=enc_hi c hc;have h0:(0:Int)≤(c.toNat:Int):=by omega
 have h1:¬((c.toNat:Int) < 128):=by omega
 have hlt:=c.toNat_lt;have h2:((c.toNat:Int) == 65533)=false:=by rw[beq_eq_false_iff_ne];omega
 have hv:Lib.validRune (c.toNat:Int)=true:=by unfold Lib.validRune;simp;omega
 have HV:=hid (Tryz.utf8_ValidRune (c.toNat:Int) w);rw[hv]at HV;obtain⟨R,hR⟩:∃ R,R=Utf8.encode (c.toNat:Int):=⟨_,rfl⟩;rw[he]at hR;have hsz:R.size=2:=by rw[hR];rfl
 have hr1:1 < R.size:=by omega
 have hri:(1:Int) < (R.size:Int):=by omega
 have hRb:R[1]=b:=by subst hR;rfl
 have hbn:((105:Int) == (R[1].toNat:Int))=false:=by rw[beq_eq_false_iff_ne,hRb];omega
 have hs1:1 < (⟨#[110,105,118,119,102,116]⟩:ByteArray).size:=by decide +kernel
 have hs105:((⟨#[110,105,118,119,102,116]⟩:ByteArray)[1]'hs1).toNat=105:=rfl;have hbn2:¬((⟨#[110,105,118,119,102,116]⟩:ByteArray)[1]'hs1=R[1]):=by rw[hRb];intro h;have:=congrArg UInt8.toNat h;rw[hs105]at this;omega
 have hbn3:((((⟨#[110,105,118,119,102,116]⟩:ByteArray)[1]'hs1).toNat:Int) == (R[1].toNat:Int))=false:=by rw[hs105];exact hbn
 have hbb:b.toNat.toUInt8=b:=by simp
 have HIb:Hid (∀ W,Calls Tryz.prog 115 #[.string ((⟨#[110,105,118,119,102,116]⟩:ByteArray).extract 2 6),.int .u8 R[1].toNat] W fun e w'=>e=.returned (.int .i64 (-1))∧W=w'):=hid fun W=>by
  have h:=Tryz.strings_IndexByte ⟨#[118,119,102,116]⟩ (b.toNat:Int) W;rw[Int.toNat_natCast,hbb,show(⟨#[118,119,102,116]⟩:ByteArray).data.toList=[118,119,102,116]from rfl,byte_hi b hb]at h;rw[hRb];exact h.mono fun e w' ⟨h1,h2⟩=>⟨h1,h2.symm⟩
 rw[←hR]at he;have HE:=hid he;clear hv he hbb hR hRb;generalize (c.toNat:Int)=C at*
 go_enter Tryz.func205,Tryz.ntmps205
 go_wp2_with fail
 refine HV.out.mono ?_;clear HV;rintro e w1 ⟨rfl,rfl⟩;have he':=HE.out
 go_wp2_with fail
 go_step3
 go_wp2_with fail
 clear HE he'
 go_loopw [9,10] (fun i f wr=>i=.int .i64 1∧f=.int .i64 0∧wr=w1) (fun _ _ _=>0)
 case atStart=>exact⟨rfl,rfl,rfl⟩
 case round=>
  obtain⟨rfl,rfl,rfl⟩:=hrel
  go_wp2_with fail
  go_step3
  go_wp2_with fail
  go_quiet (fail)
  go_wp2_with fail
  go_quiet ((go_at_call 115;first|with_reducible exact quiet_left (HIb.out _)|with_reducible exact quiet_add_left (HIb.out _)))
  go_wp2_with fail
  rw[Exit.noGoto_ret]
  go_wp2
  rw[Exit.noGoto_ret]
  go_wp2
  go_ret
  exact⟨rfl,_,rfl⟩
theorem containsRune_any (c:UInt8) (w:World):
 Calls Tryz.prog 202 #[.string ⟨#[110,105,118,119,102,116]⟩,.int .i32 c.toNat] w fun e w'=>e=.returned (.bool (opsR.contains c))∧Below w.heap.size w w':=by
 by_cases hc:c.toNat < 128
 ·refine(Tryz.strings_ContainsRune_ascii ⟨#[110,105,118,119,102,116]⟩ (c.toNat:Int) w (by omega) (by omega)).mono ?_
  rintro e w' ⟨rfl,rfl⟩;refine⟨?_,Below.refl _ _⟩;rw[Int.toNat_natCast,show c.toNat.toUInt8=c by simp,show(⟨#[110,105,118,119,102,116]⟩:ByteArray).data.toList=opsR from rfl]
  congr 2
  by_cases hm:c∈opsR
  ·rw[List.contains_iff_mem.2 hm];refine decide_eq_true ?_;refine Decidable.byContradiction fun h=> ?_;have h1:Lib.indexByte opsR c= -1:=by have:=Lib.indexByte_ge opsR c;omega
   obtain⟨k,hk,rfl⟩:=List.getElem_of_mem hm;exact Lib.indexByte_none h1 k (List.getElem?_eq_getElem hk)
  ·rw[show opsR.contains c=false from by rw[←Bool.not_eq_true,List.contains_iff_mem];exact hm]
   refine decide_eq_false fun h=> ?_;obtain⟨o,ho⟩:=Int.eq_ofNat_of_zero_le h;exact hm (List.mem_of_getElem? (Lib.indexByte_some ho).1)
 ·have hm:opsR.contains c=false:=by
   rw[←Bool.not_eq_true,List.contains_iff_mem];intro h;unfold opsR at h;simp at h;rcases h with h|h|h|h|h|h <;> rw[h]at hc <;> exact hc (by decide)
  rw[hm];have HI:=hid (indexRune_hi c (by omega) w)
  clear hm hc
  go_enter Tryz.func202,Tryz.ntmps202
  go_wp2_with fail
  refine HI.out.mono ?_;clear HI;rintro e w1 ⟨rfl,n,rfl⟩
  go_wp2_with fail
  go_ret
  exact⟨rfl,below_drewN (Below.refl _ _) n⟩
theorem rune_c (r:Nat) (h:128≤r):128≤(if Utf8.valid (r:Int)=true then(r:Int).toNat else Utf8.runeError):=by
 split
 ·omega
 ·decide
theorem enc_any (r:Nat) (h:128≤r):∃ R,Utf8.encode (r:Int)=R∧(R.size=2∨R.size=3∨R.size=4)∧∀(h1:1 < R.size),R.size=2→128≤R[1].toNat:=by
 have hc:=rune_c r h;unfold Utf8.encode;simp only;generalize (if Utf8.valid (r:Int)=true then(r:Int).toNat else Utf8.runeError)=c at*
 rw[if_neg (show ¬ c < 0x80 by omega)]
 by_cases h1:c < 0x800
 ·rw[if_pos h1];refine⟨_,rfl,.inl rfl,fun _ _=> ?_⟩;show 128≤(UInt8.ofNat (0x80+c % 64)).toNat;rw[UInt8.toNat_ofNat'];omega
 ·rw[if_neg h1]
  by_cases h2:c < 0x10000
  ·rw[if_pos h2];exact⟨_,rfl,.inr (.inl rfl),fun _ h3=>absurd (show 3=2 from h3) (by decide)⟩
  ·rw[if_neg h2];exact⟨_,rfl,.inr (.inr rfl),fun _ h3=>absurd (show 4=2 from h3) (by decide)⟩
theorem below_iter (w:World) (s:ByteArray) (p:Nat):Below w.heap.size w (w.iter s p):=(Below.refl _ _).alloc (Nat.le_refl _) _
theorem indexRune_two (X:ByteArray) (hX:X.size=2) (x0:(X[0]'(by omega)).toNat < 128) (x1:(X[1]'(by omega)).toNat < 128) (r:Nat) (hr:128≤r) (hr2:r≤2147483647) (w:World):
 Calls Tryz.prog 205 #[.string X,.int .i32 r] w fun e w'=>e=.returned (.int .i64 (-1))∧Below w.heap.size w w':=by
 have h0:(0:Int)≤(r:Int):=by omega
 have h1:¬((r:Int) < 128):=by omega
 by_cases hrr:r=65533
 ·subst hrr;have hi0:0 < X.size:=by omega
  have hi1:1 < X.size:=by omega
  have hi2:¬ 2 < X.size:=by omega
  have n0:=fun ty=>run_next_ascii (P:=Tryz.prog) w X 0 ty hi0 x0;have n1:=fun ty=>run_next_ascii (P:=Tryz.prog) w X 1 ty hi1 x1;have n2:=run_next_end (P:=Tryz.prog) w X 2;generalize X[0].toNat=a at *;generalize X[1].toNat=b at *;have e0:((a:Int) == 65533)=false:=by rw[beq_eq_false_iff_ne];omega
  have e1:((b:Int) == 65533)=false:=by rw[beq_eq_false_iff_ne];omega
  go_enter Tryz.func205,Tryz.ntmps205
  go_wp2_with fail
  go_loopg [5,6] 2 (fun g _ _ wx=>∃ i:Nat,i+g=2∧wx=w.iter X i)
  case atStart=>exact⟨0,by omega,rfl⟩
  case round=>
   obtain⟨i,hig,rfl⟩:=hrel
   match gk,hig with
   | 0,hig=>
     obtain rfl:i=2:=by omega
     go_wp2
     go_ret
     exact⟨rfl,below_iter w X 2⟩
   | 1,hig=>
     obtain rfl:i=1:=by omega
     go_wp2
     go_roundg 0
     case measure=>omega
     case rel=>exact⟨2,by omega,rfl⟩
   | 2,hig=>
     obtain rfl:i=0:=by omega
     go_wp2
     go_roundg 1
     case measure=>omega
     case rel=>exact⟨1,by omega,rfl⟩
   | g+3,hig=>omega
 ·have h2:((r:Int) == 65533)=false:=by rw[beq_eq_false_iff_ne];omega
  have HV:=hid (Tryz.utf8_ValidRune (r:Int) w);cases hv:Lib.validRune (r:Int)with
  | false=>
    rw[hv]at HV;generalize (r:Int)=C at *;clear x0 x1
    go_enter Tryz.func205,Tryz.ntmps205
    go_wp2_with fail
    refine HV.out.mono ?_;clear HV;rintro e w1 ⟨rfl,rfl⟩
    go_wp2_with fail
    go_ret
    exact⟨rfl,Below.refl _ _⟩
  | true=>
    rw[hv]at HV;obtain⟨R,he,hsz,hhi⟩:=enc_any r hr;have HE:=hid he;have hbn3:∀(h1:1 < R.size),R.size=2→(((X[1]'(by omega)).toNat:Int) == (R[1].toNat:Int))=false:=fun h1 h2=>by
     have:=hhi h1 h2;rw[beq_eq_false_iff_ne];omega
    have HB3:=hid hbn3;have hX1:1 < X.size:=by omega
    have hXi:(1:Int) < (X.size:Int):=by omega
    have hX2:2≤X.size:=by omega
    have hXi2:(2:Int)≤(X.size:Int):=by omega
    have hex:X.extract 2 2=⟨#[]⟩:=by
     apply ByteArray.ext;simp
    have HIb:Hid (∀ W (c:Int),Calls Tryz.prog 115 #[.string ByteArray.empty,.int .u8 c] W fun e w'=>e=.returned (.int .i64 (-1))∧W=w'):=hid fun W c=>by
     have h:=Tryz.strings_IndexByte ByteArray.empty c W;exact h.mono fun e w' ⟨h1,h2⟩=>⟨h1,h2.symm⟩
    generalize (r:Int)=C at *;clear hv hhi hbn3 he
    go_enter Tryz.func205,Tryz.ntmps205
    go_wp2_with fail
    refine HV.out.mono ?_;clear HV;rintro e w1 ⟨rfl,rfl⟩;have he':=HE.out;rcases hsz with hsz|hsz|hsz
    ·have hr1:1 < R.size:=by omega
     have hri:(1:Int) < (R.size:Int):=by omega
     have hbn:=HB3.out hr1 hsz;have hbnn:((X[1].toNat:Int) != (R[1].toNat:Int))=true:=by unfold bne;rw[hbn];rfl
     go_wp2_with fail
     go_step3
     go_wp2_with fail
     clear HE he'
     go_loopw [9,10] (fun i f wr=>i=.int .i64 1∧f=.int .i64 0∧wr=w1) (fun _ _ _=>0)
     case atStart=>exact⟨rfl,rfl,rfl⟩
     case round=>
      obtain⟨rfl,rfl,rfl⟩:=hrel
      go_wp2_with fail
      go_step3
      go_wp2_with fail
      go_quiet (fail)
      go_wp2_with fail
      go_quiet ((go_at_call 115;first|with_reducible exact quiet_left (HIb.out _ _)|with_reducible exact quiet_add_left (HIb.out _ _)))
      go_wp2_with fail
      rw[Exit.noGoto_ret]
      go_wp2
      rw[Exit.noGoto_ret]
      go_wp2
      go_ret
      exact⟨rfl,below_drewN (Below.refl _ _) _⟩
    ·go_wp2_with fail
     go_step3
     go_wp2_with fail
     clear HE he'
     go_loopw [9,10] (fun i f wr=>i=.int .i64 2∧f=.int .i64 0∧wr=w1) (fun _ _ _=>0)
     case atStart=>exact⟨rfl,rfl,rfl⟩
     case round=>
      obtain⟨rfl,rfl,rfl⟩:=hrel
      go_wp2_with fail
      rw[Exit.noGoto_ret]
      go_wp2
      go_ret
      exact⟨rfl,Below.refl _ _⟩
    ·go_wp2_with fail
     go_step3
     go_wp2_with fail
     clear HE he'
     go_loopw [9,10] (fun i f wr=>i=.int .i64 3∧f=.int .i64 0∧wr=w1) (fun _ _ _=>0)
     case atStart=>exact⟨rfl,rfl,rfl⟩
     case round=>
      obtain⟨rfl,rfl,rfl⟩:=hrel
      go_wp2_with fail
      rw[Exit.noGoto_ret]
      go_wp2
      go_ret
      exact⟨rfl,Below.refl _ _⟩
theorem high_of {s:ByteArray} {q:Nat} (h:(s.get! q).toNat / 64=2) (hq:q < s.size):128≤(s[q]'hq).toNat:=by
 have h2:s.get! q=s[q]'hq:=by have:=get_at s q hq;rwa[Nat.add_zero]at this
 rw[h2]at h;omega
theorem decode_next (s:ByteArray) (pos:Nat) (h:pos < s.size) (ha:128≤(s[pos]'h).toNat):pos+(Utf8.decode s pos).2≤s.size∧∀ j,pos≤j→j < pos+(Utf8.decode s pos).2→∀ hj:j < s.size,128≤(s[j]'hj).toNat:=by
 have one:pos+1≤s.size∧∀ j,pos≤j→j < pos+1→∀ hj:j < s.size,128≤(s[j]'hj).toNat:=⟨h,fun j h1 h2 hj=>by
  obtain rfl:j=pos:=by omega
  exact ha⟩
 have hn:¬(s[pos]'h).toNat < 128:=by omega
 simp only[Utf8.decode,get_at s pos h,hn,if_false];split
 ·rename_i h1
  simp only[Bool.and_eq_true,decide_eq_true_eq,beq_iff_eq]at h1;split
  ·refine⟨by show pos+2≤_;omega,fun j p1 p2 hj=> ?_⟩
   have p2:j < pos+2:=p2;rcases(show j=pos∨j=pos+1 by omega)with rfl|rfl
   ·exact ha
   ·exact high_of h1.2.2 hj
  ·exact one
 split
 ·rename_i h1
  simp only[Bool.and_eq_true,decide_eq_true_eq,beq_iff_eq]at h1;split
  ·refine⟨by show pos+3≤_;omega,fun j p1 p2 hj=> ?_⟩
   have p2:j < pos+3:=p2;rcases(show j=pos∨j=pos+1∨j=pos+2 by omega)with rfl|rfl|rfl
   ·exact ha
   ·exact high_of h1.1.2.2 hj
   ·exact high_of h1.2.2 hj
  ·exact one
 split
 ·rename_i h1
  simp only[Bool.and_eq_true,decide_eq_true_eq,beq_iff_eq]at h1;split
  ·refine⟨by show pos+4≤_;omega,fun j p1 p2 hj=> ?_⟩
   have p2:j < pos+4:=p2;rcases(show j=pos∨j=pos+1∨j=pos+2∨j=pos+3 by omega)with rfl|rfl|rfl|rfl
   ·exact ha
   ·exact high_of h1.1.1.2.2 hj
   ·exact high_of h1.1.2.2 hj
   ·exact high_of h1.2.2 hj
  ·exact one
 ·exact one
theorem contains_lo {l:List UInt8} (hl:∀ x∈l,x.toNat < 128) {b:UInt8} (hb:128≤b.toNat):l.contains b=false:=by
 rw[←Bool.not_eq_true,List.contains_iff_mem];intro h;have:=hl b h;omega
theorem noAny_run {s:ByteArray} {l:List UInt8} (hl:∀ x∈l,x.toNat < 128) {i n:Nat} (h:Lib.NoAny s.data.toList l i) (hi:∀ j,i≤j→j < n→∀ hj:j < s.size,128≤(s[j]'hj).toNat):Lib.NoAny s.data.toList l n:=fun j b hj hb=>by
 by_cases hji:j < i
 ·exact h j b hji hb
 ·have hjs:j < s.size:=by
   rw[Lib.size_eq];exact(List.getElem?_eq_some_iff.1 hb).1
  rw[Lib.data_getElem? s j hjs]at hb;injection hb with hb;subst hb;exact contains_lo hl (hi j (by omega) hj hjs)
theorem indexAny_two (s X:ByteArray) (hX:X.size=2) (hlo:∀ x∈X.data.toList,x.toNat < 128) (hs:s.size < 4294967281) (w:World):
 Calls Tryz.prog 169 #[.string s,.string X] w fun e w'=>e=.returned (.int .i64 (Lib.indexAny s.data.toList X.data.toList))∧Below w.heap.size w w':=by
 by_cases h8:8 < s.size
 ·refine(Tryz.strings_IndexAny_long (zero_of_info (n:=256) (by kernel_rfl)).1 s X w (by omega) h8 hs (by omega) fun j b hb=>hlo b (List.mem_of_getElem? hb)).mono ?_
  rintro e w' ⟨rfl,rfl⟩;exact⟨rfl,((Below.refl _ _).alloc (Nat.le_refl _) _).alloc (by simp) _⟩
 ·have hne:(X.toList.isEmpty)=false:=by
   rw[Lib.toList_data];cases h:X.data.toList with
   | nil=>have:=Lib.size_eq X;rw[h,List.length_nil]at this;omega
   | cons _ _=>rfl
  have hn1:((X.size:Int) == 1)=false:=beq_eq_false_iff_ne.2 (by omega)
  have HA:=hid (Tryz.strings_shouldUseASCIISet (s.size:Int) w);rw[decide_eq_false (show ¬((8:Int) < (s.size:Int)) by omega)]at HA
  have hx0:(X[0]'(by omega)).toNat < 128:=hlo _ (List.mem_of_getElem? (Lib.data_getElem? X 0 (by omega)))
  have hx1:(X[1]'(by omega)).toNat < 128:=hlo _ (List.mem_of_getElem? (Lib.data_getElem? X 1 (by omega)))
  have HRh:Hid (∀(r:Nat) W,128≤r→r≤2147483647→Calls Tryz.prog 205 #[.string X,.int .i32 r] W fun e w'=>e=.returned (.int .i64 (-1))∧Below W.heap.size W w'):=hid fun r W h1 h2=>indexRune_two X hX hx0 hx1 r h1 h2 W;have HRl:Hid (∀(x:UInt8) W,x.toNat < 128→Calls Tryz.prog 205 #[.string X,.int .i32 x.toNat] W fun e w'=>e=.returned (.int .i64 (Lib.indexByte X.data.toList x))∧w'=W):=hid fun x W h1=>by
   have h:=Tryz.strings_IndexRune_ascii X (x.toNat:Int) W (by omega) (by omega)
   rw[show((x.toNat:Int)).toNat.toUInt8=x by simp]at h
   exact h
  have HLo:=hid hlo;clear hx0 hx1 hlo;generalize X.data.toList=chars at*
  go_enter Tryz.func169,Tryz.ntmps169
  go_wp2_with fail
  refine HA.out.mono ?_;clear HA;rintro e w1 ⟨rfl,rfl⟩;have hk0:(w1.iter s 0).heap[w1.heap.size]? =some (.stringIter s 0):=World.iter_heap w1 s 0;have HK0:=hid hk0;have HB0:=hid (below_iter w1 s 0);clear hk0
  go_wp2_with fail
  go_loopg [9,10] s.size (fun g _ _ wx=>∃ i:Nat,i+g=s.size∧wx.heap[w1.heap.size]? =some (.stringIter s i)∧Below w1.heap.size w1 wx∧Hid (Lib.NoAny s.data.toList chars i))
  case atStart=>exact⟨0,by omega,HK0.out,HB0.out,hid (Lib.NoAny.zero _ _)⟩
  case round=>
   clear HK0 HB0;obtain⟨i,hig,hk,hb,HN⟩:=hrel;obtain⟨wx,rfl⟩:∃ wx:World,wx=wr:=⟨_,rfl⟩;have HB:=hid hb;have HK:=hid hk
   by_cases hi:i < s.size
   ·have hnx:=fun ty=>Lib.run_next_any_at (P:=Tryz.prog) wx w1.heap.size s i ty hk hi;have hlt:w1.heap.size < wx.heap.size:=(Array.getElem?_eq_some_iff.1 hk).1;obtain⟨x,hx⟩:∃ x:UInt8,s[i]'hi=x:=⟨_,rfl⟩;have Hx:Hid (s.data.toList[i]? =some x):=hid (by rw[←hx];exact Lib.data_getElem? s i hi)
    have HD:Hid (x.toNat < 128∧Utf8.decode s i=(x.toNat,1)∨128≤x.toNat∧128≤(Utf8.decode s i).1∧1≤(Utf8.decode s i).2∧i+(Utf8.decode s i).2≤s.size∧Lib.NoAny s.data.toList chars (i+(Utf8.decode s i).2)):=hid (by
     subst hx
     by_cases h128:(s[i]'hi).toNat < 128
     ·exact .inl ⟨h128,decode_ascii s i hi h128⟩
     ·obtain⟨d1,d2⟩:=decode_high s i hi (by omega)
      obtain⟨d3,d4⟩:=decode_next s i hi (by omega)
      exact .inr ⟨by omega,d1,d2,d3,noAny_run HLo.out HN.out d4⟩)
    have hdl:=decode_le s i;have HW:Hid (∀ p,(wx.iterAt w1.heap.size s p).heap[w1.heap.size]? =some (.stringIter s p)∧Below w1.heap.size w1 (wx.iterAt w1.heap.size s p)∧w1.heap.size < (wx.iterAt w1.heap.size s p).heap.size):=hid fun p=>⟨Lib.iterAt_heap _ _ _ _ _ hk,Lib.below_iterAt hb (Nat.le_refl _) _ _,by rw[Lib.iterAt_size];exact hlt⟩
    clear hx hk hb;generalize Utf8.decode s i=D at *;obtain⟨r,n⟩:=D;dsimp only at hnx HD hdl;rcases HD.out with⟨hx128,hD⟩|⟨hx128,d1,d2,d3,d4⟩
    ·injection hD with e1 e2;subst e1;subst e2;have HQ:=hid (HRl.out x (wx.iterAt w1.heap.size s (i+1)) hx128);have hcon:=Lib.contains_iff_indexByte chars x;cases hin:chars.contains x with
     | false=>
       have HN2:=hid (HN.out.succ Hx.out hin);rw[hin]at hcon;have hlt0:¬((0:Int)≤Lib.indexByte chars x):=of_decide_eq_false hcon.symm;generalize Lib.indexByte chars x=o at *;clear hcon HD HRl HRh HN Hx hin HLo
       go_wp2_with fail
       refine HQ.out.mono ?_;clear HQ;rintro e w2 ⟨rfl,rfl⟩;obtain⟨q1,q2,_⟩:=HW.out (i+1);have Q1:=hid q1;have Q2:=hid q2;clear q1 q2 HW
       go_wp2_with fail
       go_roundg (s.size - (i+1))
       case measure=>omega
       case rel=>exact⟨i+1,by omega,Q1.out,Q2.out,HN2⟩
     | true=>
       have HH:=hid (Lib.indexAny_hit HN.out Hx.out hin);rw[hin]at hcon;have hge:(0:Int)≤Lib.indexByte chars x:=of_decide_eq_true hcon.symm;generalize Lib.indexByte chars x=o at *;clear hcon HD HRl HRh HN Hx hin HLo
       go_wp2_with fail
       refine HQ.out.mono ?_;clear HQ;rintro e w2 ⟨rfl,rfl⟩;obtain⟨_,q2,_⟩:=HW.out (i+1);have Q2:=hid q2;clear q2 HW
       go_wp2_with fail
       go_ret
       exact⟨by rw[HH.out];rfl,Q2.out⟩
    ·have HQ:=hid (HRh.out r (wx.iterAt w1.heap.size s (i+n)) d1 hdl);have HN2:=hid d4;clear HD HRl HRh HN Hx HLo d4
     go_wp2_with fail
     refine HQ.out.mono ?_;clear HQ;rintro e w2 ⟨rfl,hb2⟩;obtain⟨q1,q2,q3⟩:=HW.out (i+n);have Q1:=hid ((hb2.block _ q3).trans q1);have Q2:=hid (q2.trans (hb2.mono (Nat.le_of_lt q3)));clear q1 q2 q3 HW hb2
     go_wp2_with fail
     go_roundg (s.size - (i+n))
     case measure=>omega
     case rel=>exact⟨i+n,by omega,Q1.out,Q2.out,HN2⟩
   ·obtain rfl:i=s.size:=by omega
    have hnx:=fun ty=>Lib.run_next_end_at (P:=Tryz.prog) wx w1.heap.size s s.size ty hk (by omega)
    have HH:Hid (Lib.indexAny s.data.toList chars= -1):=hid (Lib.indexAny_none (by rw[←Lib.size_eq];exact HN.out))
    clear HRl HRh HN HLo hk hb HK
    go_wp2_with fail
    go_ret
    exact⟨by rw[HH.out];rfl,HB.out⟩
end Go.Proofs.YtpfmmbbggcghiaaGreatDoor
namespace Go.Proofs
open Go.Shelf
def Tryz.lays169_ren:Go.Shelf.Ren:=⟨fun|169=>51|n=>n,fun|70=>109|9=>9|0=>0|72=>112|37=>110|127=>185|3=>3|5=>5|n=>n,fun|n=>n⟩
theorem Tryz.lays169:Go.Proofs.Lays.n169 Tryz.prog Tryz.lays169_ren:= {
 mixed:=by kernel_rfl
 f169:=Tryz.func51.trans (congrArg some (by kernel_rfl))
 t0:=Tryz.underlying0
 a0:=Tryz.isAgg0
 z0:=Tryz.sizeOf0
 v0:=Tryz.zeroValue0
 t3:=Tryz.underlying3
 a3:=Tryz.isAgg3
 z3:=Tryz.sizeOf3
 v3:=Tryz.zeroValue3
 t9:=Tryz.underlying9
 a9:=Tryz.isAgg9
 z9:=Tryz.sizeOf9
 v9:=Tryz.zeroValue9
 t37:=Tryz.underlying110
 a37:=Tryz.isAgg110
 z37:=Tryz.sizeOf110
 v37:=Tryz.zeroValue110
 t70:=Tryz.underlying109
 a70:=Tryz.isAgg109
 z70:=Tryz.sizeOf109
 v70:=Tryz.zeroValue109
 t72:=Tryz.underlying112
 a72:=Tryz.isAgg112
 z72:=Tryz.sizeOf112
 v72:=Tryz.zeroValue112
 t127:=Tryz.underlying185
 a127:=Tryz.isAgg185
 z127:=Tryz.sizeOf185
 v127:=Tryz.zeroValue185 }
theorem Tryz.Builder_Extra_169:Builder.Extra Tryz.prog Tryz.lays169_ren:= {
 sizeBuilder:=by kernel_rfl
 liesBuilder:=by kernel_rfl
 t5:=Tryz.underlying5
 a5:=Tryz.isAgg5
 z5:=Tryz.sizeOf5
 v5:=Tryz.zeroValue5
 infoByte:=by kernel_rfl
 cellsByte:=by kernel_rfl
 sizeByte:=by kernel_rfl
 neB5:=by decide }
open Go.RowKit in
theorem Tryz.Builder_String_any (B b:Nat) (l:List UInt8) (w:World) (h:Lib.IsBuilder 112 5 B b (Lib.byteCells l) w) (hBw:B≤w.heap.size):
 Calls Tryz.prog 51 #[.pointer (some ⟨b,0,none⟩)] w fun e w'=>e=.returned (.string ⟨l.toArray⟩)∧Below B w w':=Any.Builder_String_any Tryz.lays169 Tryz.Builder_Extra_169 B b l w h hBw
end Go.Proofs
namespace Go.Proofs.YtpfmmbbggcghiaaGreatDoor
open Go.RowKit
open Lib (hid)
def Bld (B k:Nat) (l:List UInt8) (w:World):Prop:=Lib.IsBuilder 112 5 B k (Lib.byteCells l) w
theorem sz_bld:(Tryz.prog.info? 112).map (·.size)=some 2:=by kernel_rfl
theorem lies_bld:liesAt Tryz.prog Tryz.prog.depth 112 (2 / Tryz.prog.cellsOf 112) 0 112 1=true:=by kernel_rfl
theorem bld_new (w:World):Bld w.heap.size w.heap.size [] (w.alloc (.cells #[.pointer none,.slice none 0 0] 112)):=Lib.fresh_isBuilder _ _ w
theorem info_byte':(Tryz.prog.info? 5).map (fun i=>(i.zero,i.size,i.bytes))=some (some (.int .u8 0),1,1):=by kernel_rfl
theorem bytes_snoc (l:List UInt8) (c:UInt8):Lib.byteCells l++[.int .u8 c.toNat]=Lib.byteCells (l++[c]):=by unfold Lib.byteCells;rw[List.map_append];rfl
theorem byte_new (x:Value) (t:TypeId) (W:World) (q:Nat) (u:Value) (hq:([x]:List Value)[q]? =some u):(W.alloc (.cells #[x] t)).cell? ⟨W.heap.size,0+q,none⟩=some u:=by
 rw[Nat.zero_add,(Blk.new W t #[x]).cell q];simpa using hq
theorem str_cells (s:ByteArray):Lib.strCells s=Lib.byteCells (bts s):=rfl
theorem bytes_app (l r:List UInt8):Lib.byteCells l++Lib.byteCells r=Lib.byteCells (l++r):=by unfold Lib.byteCells;rw[List.map_append]
theorem bld_text {B k:Nat} {l:List UInt8} {w:World} (h:Bld B k l w) (hB:B≤w.heap.size):Calls Tryz.prog 51 #[.pointer (some ⟨k,0,none⟩)] w fun e w'=>e=.returned (.string (str l))∧Below B w w':=
 Tryz.Builder_String_any B k l w h hB
theorem looked_any (B k:Nat) (xs:List Value) (w:World) (h:Lib.IsBuilder 112 5 B k xs w):
 Calls Tryz.prog 99 #[.pointer (some ⟨k,0,none⟩)] w fun e w'=>e=.returned (.tuple #[])∧Lib.BuilderAt 112 5 B k (.pointer (some ⟨k,0,none⟩)) xs w'∧Below B w w'∧w'.heap.size=w.heap.size:=by
 obtain⟨j,hj,hjs⟩:=Option.map_eq_some_iff.1 sz_bld;rcases h with h|h
 ·have HA:=hid (h.used (.pointer (some ⟨k,0,none⟩)));have HB:=hid ((Below.refl B w).setCell (p:=⟨k,0,none⟩) h.1 (.pointer (some ⟨k,0,none⟩)));have c0:=h.cell0;have f0:=h.frozen0;have hsh:=h.shape;have hc1:=Lib.run_to_unsafe w (P:=Tryz.prog) (src:=109) (dst:=208) ⟨k,0,none⟩ Tryz.underlying109 Tryz.underlying208 hj (by rw[hjs];decide) hsh (Nat.zero_lt_succ 1)
  have hc2:=Lib.run_from_unsafe w (P:=Tryz.prog) (src:=208) (dst:=109) ⟨k,0,none⟩ Tryz.underlying208 Tryz.underlying109 hj hsh lies_bld;have hn:(callFunc 150 #[.pointer (some ⟨k,0,none⟩)]).run Tryz.prog w=.ok (.value (.pointer (some ⟨k,0,none⟩))) w:=by
   rw[run_callFunc_extern Tryz.func150 (by kernel_rfl) (by kernel_rfl) (by kernel_rfl) (e:=Extern.AbiNoEscape.same) (by kernel_rfl),Lib.run_noEscape];rfl
  clear h hsh hj hjs
  go_enter Tryz.func99,Tryz.ntmps99
  go_wp2
  go_end0
  exact⟨rfl,HA.out,HB.out,by simp⟩
 ·have c0:=h.cell0;have HH:=hid h;clear h;have hr:=Lib.run_neq_ptr_same w (P:=Tryz.prog) (tp:=109) ⟨k,0,none⟩ Tryz.underlying109 hj
  go_enter Tryz.func99,Tryz.ntmps99
  go_wp2
  go_end0
  exact⟨rfl,HH.out,Below.refl _ _,rfl⟩
theorem wbyte_any (B k:Nat) (l:List UInt8) (c:UInt8) (w:World) (h:Bld B k l w) (hl:l.length+1≤140737488355328) (hB:B≤w.heap.size):
 Calls Tryz.prog 118 #[.pointer (some ⟨k,0,none⟩),.int .u8 c.toNat] w fun e w'=>e=.returned .nilIface∧Bld B k (l++[c]) w'∧Below B w w':=by
 have HL:=hid (looked_any B k _ w h);clear h
 go_enter Tryz.func118,Tryz.ntmps118
 go_wp2_with fail
 refine HL.out.mono ?_;clear HL;rintro e w1 ⟨rfl,⟨hBk,v,hbk,hown,hne⟩,hb1,hs1⟩;have c0:w1.cell? ⟨k,0,none⟩=some (.pointer (some ⟨k,0,none⟩)):=by rw[Lib.cell_of_heap hbk];rfl
 have c1:w1.cell? ⟨k,1,none⟩=some v:=by rw[Lib.cell_of_heap hbk];rfl
 have hkl:k < w1.heap.size:=Blk.lt hbk;have HbK:=hid hbk;have HNe:=hid hne;have HB1:=hid hb1;have hbl:(Lib.byteCells l).length=l.length:=Lib.byteCells_length l;rw[hbl]at hown;obtain⟨A,cp,rfl,_⟩:=own_slice hown;have HO:=hid (own_keep (w':=w1.alloc (.cells #[.int .u8 c.toNat] 5)) hown fun g _ hg=>Below.heap_alloc _ _ _ hg);have HnX:=hid (byte_new (.int .u8 c.toNat) 5 w1);have hB1:B≤w1.heap.size:=by omega
 have hB2:=hid hs1;clear hbk hown hne hb1 hs1
 go_wp2_with (at_builtin;refine wpList_append_any rfl _ _ 110 rfl B 5 Tryz.underlying110 info_byte' rfl (by decide) (Lib.byteCells l) rfl HO.out [.int .u8 c.toNat] rfl rfl (.inr ⟨_,_,rfl,HnX.out⟩) (by simp[Value.oneCell']) (by unfold maxLen;omega) (by omega) (by simp;omega) ?_)
 intro v2 w2 hown2 hgrow2 _;have hb2:w2.heap[k]? =some (.cells #[.pointer (some ⟨k,0,none⟩),.slice A l.length cp] 112 (0,0)):=by
  rw[hgrow2.block k (by simp;omega) (fun e=>HNe.out e.symm),Below.heap_alloc _ _ _ hkl]
  exact HbK.out
 have d0:w2.cell? ⟨k,0,none⟩=some (.pointer (some ⟨k,0,none⟩)):=by rw[Lib.cell_of_heap hb2];rfl
 have d1:w2.cell? ⟨k,1,none⟩=some (.slice A l.length cp):=by rw[Lib.cell_of_heap hb2];rfl
 have f1:w2.frozen? ⟨k,1,none⟩=false:=Lib.frozen_of_heap hb2 1;obtain⟨A2,c2,rfl,_⟩:=own_slice hown2;have HP:=hid (Lib.BuilderAt.put (T:=112) (e:=5) hBk hb2 (bs':=Lib.byteCells (l++[c])) (by rw[←bytes_snoc,List.length_append,hbl];exact hown2) (by decide))
 have HBe:=hid (((HB1.out.alloc hB1 _).grown hgrow2 (by simp;omega) (fun k hk=>(own_lt HO.out hk).1)).setCell (p:=⟨k,1,none⟩) hBk (.slice A2 (l.length+1) c2))
 clear hown2 hgrow2 hb2
 go_wp2_with fail
 go_ret
 exact⟨rfl,.inr HP.out,HBe.out⟩
theorem wstr_any (B k:Nat) (l:List UInt8) (s:ByteArray) (w:World) (h:Bld B k l w) (hl:l.length+s.size≤140737488355328) (hB:B≤w.heap.size):
 Calls Tryz.prog 58 #[.pointer (some ⟨k,0,none⟩),.string s] w fun e w'=>e=.returned (.tuple #[.int .i64 s.size,.nilIface])∧Bld B k (l++bts s) w'∧Below B w w':=by
 have HL:=hid (looked_any B k _ w h);obtain⟨i0,hi,hz0,hz1,hz2⟩:=info_parts info_byte';clear h
 go_enter Tryz.func58,Tryz.ntmps58
 go_wp2_with fail
 refine HL.out.mono ?_;clear HL;rintro e w1 ⟨rfl,⟨hBk,v,hbk,hown,hne⟩,hb1,hs1⟩;have c0:w1.cell? ⟨k,0,none⟩=some (.pointer (some ⟨k,0,none⟩)):=by rw[Lib.cell_of_heap hbk];rfl
 have c1:w1.cell? ⟨k,1,none⟩=some v:=by rw[Lib.cell_of_heap hbk];rfl
 have hkl:k < w1.heap.size:=Blk.lt hbk;have HbK:=hid hbk;have HNe:=hid hne;have HB1:=hid hb1;have hbl:(Lib.byteCells l).length=l.length:=Lib.byteCells_length l;rw[hbl]at hown;obtain⟨A,cp,rfl,_⟩:=own_slice hown;have HO:=hid hown;have hB1:B≤w1.heap.size:=by omega
 clear hbk hown hne hb1 hs1
 go_wp2_with (at_builtin;refine Lib.wpList_append_own_string _ rfl _ _ 110 9 rfl B 5 i0 Tryz.underlying110 Tryz.underlying9 hi hz0 hz1 hz2 _ _ _ rfl HO.out s rfl (by unfold maxLen;omega) (by omega) (by omega) ?_)
 intro v2 w2 hown2 hgrow2 _;have hb2:w2.heap[k]? =some (.cells #[.pointer (some ⟨k,0,none⟩),.slice A l.length cp] 112 (0,0)):=by
  rw[hgrow2.block k hkl (fun e=>HNe.out e.symm)];exact HbK.out
 have d0:w2.cell? ⟨k,0,none⟩=some (.pointer (some ⟨k,0,none⟩)):=by rw[Lib.cell_of_heap hb2];rfl
 have d1:w2.cell? ⟨k,1,none⟩=some (.slice A l.length cp):=by rw[Lib.cell_of_heap hb2];rfl
 have f1:w2.frozen? ⟨k,1,none⟩=false:=Lib.frozen_of_heap hb2 1;obtain⟨A2,c2,rfl,_⟩:=own_slice hown2;have HP:=hid (Lib.BuilderAt.put (T:=112) (e:=5) hBk hb2 (bs':=Lib.byteCells (l++bts s)) (by rw[←bytes_app,←str_cells,List.length_append,hbl,Lib.strCells_length];exact hown2) (by decide))
 have HBe:=hid ((HB1.out.grown hgrow2 hB1 (fun k hk=>(own_lt HO.out hk).1)).setCell (p:=⟨k,1,none⟩) hBk (.slice A2 (l.length+s.size) c2));clear hown2 hgrow2 hb2
 go_wp2_with fail
 go_ret2
 exact⟨rfl,.inr HP.out,HBe.out⟩
theorem bts_rest (s:ByteArray) (j:Nat):bts (s.extract j s.size)=(bts s).drop j:=by
 rw[bts_extract,←bts_len,List.take_length]
theorem two_head (r:List UInt8):Lib.hasPrefix (39::r) [39,39]=decide (r.head? =some 39):=by
 cases r with
 | nil=>rfl
 | cons d r=>
   show((39:UInt8) == 39 && ((39:UInt8) == d && true))=decide (some d=some 39);rw[Bool.and_true,show((39:UInt8) == 39)=true from rfl,Bool.true_and]
   by_cases h:d=39
   ·subst h;rfl
   ·rw[decide_eq_false (fun e=>h (Option.some.inj e))];exact beq_eq_false_iff_ne.2 (fun e=>h e.symm)
theorem two_no {c:UInt8} (h:c≠39) (r:List UInt8):Lib.hasPrefix (c::r) [39,39]=false:=by
 show((39:UInt8) == c && _)=false;rw[beq_eq_false_iff_ne.2 (fun e=>h e.symm)];rfl
theorem hasPre_any (s:ByteArray) (j:Nat) (w:World):Calls Tryz.prog 117 #[.string (s.extract j s.size),.string ⟨#[39,39]⟩] w fun e w'=>e=.returned (.bool (Lib.hasPrefix ((bts s).drop j) [39,39]))∧w'=w:=by
 have h:=Tryz.strings_HasPrefix (s.extract j s.size) ⟨#[39,39]⟩ w;rw[show(s.extract j s.size).data.toList=(bts s).drop j from bts_rest s j]at h;exact h
theorem u8_39 (c:UInt8):((c.toNat:Int) == 39)=decide (c=39):=by
 by_cases h:c=39
 ·subst h;rfl
 ·rw[decide_eq_false h,beq_eq_false_iff_ne];intro e;exact h (UInt8.toNat_inj.1 (by have:(39:UInt8).toNat=39:=rfl;omega))
def quoT (o:LexR) (n:Nat):Value:=match o with|none=>.tuple #[.string ⟨#[]⟩,.int .i64 0,.bool false]|some p=>.tuple #[.string (str p.1),.int .i64 ((n - p.2.length:Nat):Int),.bool true]
theorem quoted_any (s:ByteArray) (i:Nat) (w:World) (hi:i≤s.size) (hs:s.size≤1000000000):
 Calls Tryz.prog 119 #[.string s,.int .i64 (i:Int)] w fun e w'=>e=.returned (quoT (quotedL ((bts s).drop i)) s.size)∧Below w.heap.size w w':=by
 have HN:=hid (bld_new w);have HB0:=hid ((Below.refl w.heap.size w).alloc (Nat.le_refl _) (.cells #[.pointer none,.slice none 0 0] 112));obtain⟨Q,hQ⟩:∃ Q,Q=quotedL ((bts s).drop i):=⟨_,rfl⟩;rw[←hQ];have HQ:=hid hQ;clear hQ
 go_enter Tryz.func119,Tryz.ntmps119
 go_wp2_with fail
 go_loopw [1] (fun k wr=>∃(j:Nat) (l:List UInt8),j≤s.size∧k=.int .i64 (j:Int)∧l.length≤j∧Hid (Q=(quotedL ((bts s).drop j)).map (appL l))∧Bld w.heap.size w.heap.size l wr∧Below w.heap.size w wr) (fun k _=>s.size - (intOf k).toNat)
 case atStart=>exact⟨i,[],hi,rfl,Nat.zero_le _,hid (by rw[appL_nil,HQ.out]),HN.out,HB0.out⟩
 case round=>
  clear HN HB0 HQ;obtain⟨j,l,hj,rfl,hl,HI,hB,hbr⟩:=hrel;have HB:=hid hB;have HBr:=hid hbr;have hbs:=hbr.size;clear hB hbr
  by_cases hlt:j < s.size
  ·have i1:(0:Int)≤(j:Int):=Int.natCast_nonneg j;have i2:(j:Int) < (s.size:Int):=by omega
   have i3:(j:Int)≤(s.size:Int):=by omega
   have hda:=drop_at s j hlt;have h39:=u8_39 s[j];have HWr:Hid (∀(x:UInt8),Calls Tryz.prog 118 #[.pointer (some ⟨w.heap.size,0,none⟩),.int .u8 x.toNat] wr fun e w'=>e=.returned .nilIface∧Bld w.heap.size w.heap.size (l++[x]) w'∧Below w.heap.size wr w'):=hid fun x=>wbyte_any _ _ l x wr HB.out (by omega) hbs
   by_cases hc:s[j]=39
   ·rw[decide_eq_true hc]at h39;rw[hc]at hda;have HP:=hid (hasPre_any s j wr);rw[hda,two_head]at HP
    by_cases hh:((bts s).drop (j+1)).head? =some 39
    ·rw[decide_eq_true hh]at HP;have hlt2:j+1 < s.size:=by
      refine Decidable.byContradiction fun h=> ?_;rw[List.drop_of_length_le (by rw[bts_len];omega)]at hh
      cases hh
     have hda2:=drop_at s (j+1) hlt2;have hc2:s[j+1]=39:=by rw[hda2]at hh;exact Option.some.inj hh
     have HI2:Hid (Q=(quotedL ((bts s).drop (j+1+1))).map (appL (l++[s[j+1]]))):=hid (by rw[HI.out,hda,hda2,hc2,quotedL_two,appL_two])
     have HC:=hid (HWr.out s[j+1]);have g0:(j:Int)+1 < (s.size:Int):=by omega
     have g00:(0:Int)≤(j:Int)+1:=by omega
     clear HWr HI hda hda2 hc hc2 hh
     go_wp2_with fail
     refine HP.out.mono ?_;clear HP;rintro e w1 ⟨rfl,rfl⟩
     go_wp2_with fail
     refine HC.out.mono ?_;clear HC;rintro e w2 ⟨rfl,hB2,hb2⟩;have HB2:=hid hB2;have HBe:=hid (HBr.out.trans hb2);clear hB2 hb2
     go_wp2_with fail
     exact⟨⟨j+1+1,_,by omega,by go_num,by simp;omega,HI2,HB2.out,HBe.out⟩,by simp[intOf];omega⟩
    ·rw[decide_eq_false hh]at HP;have HE:Hid (Q=some (l,(bts s).drop (j+1))):=hid (by rw[HI.out,hda,quotedL_end hh];show some _=some _;simp[appL])
     have HT:=hid (bld_text HB.out hbs);clear HWr HI hda hc hh
     go_wp2_with fail
     refine HP.out.mono ?_;clear HP;rintro e w1 ⟨rfl,rfl⟩
     go_wp2_with fail
     refine HT.out.mono ?_;clear HT;rintro e w2 ⟨rfl,hb2⟩;have HBe:=hid (HBr.out.trans hb2);clear hb2
     go_wp2_with fail
     refine bodyPost_ret (v:=.tuple #[.string (str l),.int .i64 ((j+1:Nat):Int),.bool true]) ?_ rfl ?_
     ·simp[results,Tryz.results119,go_sem]
     ·refine⟨?_,HBe.out⟩;rw[HE.out];show _=Ending.returned (.tuple #[.string (str l),.int .i64 ((s.size - ((bts s).drop (j+1)).length:Nat):Int),.bool true]);rw[List.length_drop,bts_len,show s.size - (s.size - (j+1))=j+1 from by omega]
   ·rw[decide_eq_false hc]at h39;have HI2:Hid (Q=(quotedL ((bts s).drop (j+1))).map (appL (l++[s[j]]))):=hid (by rw[HI.out,hda,quotedL_plain hc,appL_two])
    have HC:=hid (HWr.out s[j]);clear HWr HI hda hc
    go_wp2_with fail
    refine HC.out.mono ?_;clear HC;rintro e w2 ⟨rfl,hB2,hb2⟩;have HB2:=hid hB2;have HBe:=hid (HBr.out.trans hb2);clear hB2 hb2
    go_wp2_with fail
    exact⟨⟨j+1,_,by omega,by go_num,by simp;omega,HI2,HB2.out,HBe.out⟩,by simp[intOf];omega⟩
  ·obtain rfl:j=s.size:=by omega
   have HE:Hid (Q=none):=hid (by rw[HI.out,List.drop_of_length_le (by rw[bts_len];exact Nat.le_refl _)];rfl)
   clear HI
   go_wp2_with fail
   refine bodyPost_ret (v:=.tuple #[.string ⟨#[]⟩,.int .i64 0,.bool false]) ?_ rfl ?_
   ·simp[results,Tryz.results119,go_sem]
   ·exact⟨by rw[HE.out];rfl,HBr.out⟩
theorem signs_any (mark:Bool) (w:World):Calls Tryz.prog 116 #[.bool mark] w fun e w'=>e=.returned (.string (sgB mark))∧w'=w:=by
 cases mark <;>
  (go_enter Tryz.func116,Tryz.ntmps116
   go_wp2_with fail
   go_ret
   exact⟨rfl,rfl⟩)
theorem Bld.below {B k:Nat} {l:List UInt8} {w w':World} (h:Bld B k l w) (hb:Below w.heap.size w w'):Bld B k l w':=by
 rcases h with⟨hB,v,hk,ho,hn⟩|⟨hB,v,hk,ho,hn⟩
 ·exact Or.inl ⟨hB,v,(hb.block k (Array.getElem?_eq_some_iff.1 hk).1).trans hk,own_below ho hb (Nat.le_refl _),hn⟩
 ·exact Or.inr ⟨hB,v,(hb.block k (Array.getElem?_eq_some_iff.1 hk).1).trans hk,own_below ho hb (Nat.le_refl _),hn⟩
structure BaSt (w:World) (s:ByteArray) (mark:Bool) (l:List UInt8) (W:World):Prop where
 below:Below w.heap.size w W
 txt:Blk W w.heap.size 9 #[.string s]
 mrk:Blk W (w.heap.size+1) 4 #[.bool mark]
 bld:Bld (w.heap.size+2) (w.heap.size+2) l W
 size:w.heap.size+2≤W.heap.size
theorem BaSt.made (w:World) (s:ByteArray) (mark:Bool):BaSt w s mark [] (((w.alloc (.cells #[.string s] 9)).alloc (.cells #[.bool mark] 4)).alloc (.cells #[.pointer none,.slice none 0 0] 112)):=by
 have h1:=Blk.new (w.alloc (.cells #[.string s] 9)) 4 #[.bool mark];have h2:=bld_new ((w.alloc (.cells #[.string s] 9)).alloc (.cells #[.bool mark] 4));rw[World.size_alloc]at h1;rw[World.size_alloc,World.size_alloc]at h2;exact⟨(((Below.refl _ _).alloc (Nat.le_refl _) _).alloc (by simp) _).alloc (by simp;omega) _,((Blk.new w 9 #[.string s]).alloc _).alloc _,h1.alloc _,h2,by simp⟩
theorem BaSt.on {w W W':World} {s:ByteArray} {mark:Bool} {l l':List UInt8} (h:BaSt w s mark l W) (hb:Below (w.heap.size+2) W W') (hB:Bld (w.heap.size+2) (w.heap.size+2) l' W'):BaSt w s mark l' W':=
 ⟨h.below.trans (hb.mono (by omega)),h.txt.below hb (by omega),h.mrk.below hb (by omega),hB,Nat.le_trans h.size hb.size⟩
theorem BaSt.drewN {w W:World} {s:ByteArray} {mark:Bool} {l:List UInt8} (h:BaSt w s mark l W) (n:Nat):BaSt w s mark l (W.drewN n):=
 ⟨below_drewN h.below n,h.txt.drewN n,h.mrk.drewN n,by
   rcases h.bld with h1|h1
   ·exact Or.inl h1
   ·exact Or.inr h1,h.size⟩
def sgnAt (mark:Bool) (s:ByteArray) (j:Nat):Bool:=sigH mark ((bts s).drop j)
theorem sign_any (w W:World) (s:ByteArray) (mark:Bool) (j:Nat) (hs:s.size≤1000000000) (ht:Blk W w.heap.size 9 #[.string s]) (hm:Blk W (w.heap.size+1) 4 #[.bool mark]):
 Calls Tryz.prog 114 #[.int .i64 (j:Int),.pointer (some ⟨w.heap.size,0,none⟩),.pointer (some ⟨w.heap.size+1,0,none⟩)] W fun e w'=>e=.returned (.bool (sgnAt mark s j))∧∃ n,w'=W.drewN n:=by
 have t0:=(ht.cell 0).trans (show _=some (.string s)from rfl);have m0:=(hm.cell 0).trans (show _=some (.bool mark)from rfl);have i1:(0:Int)≤(j:Int):=Int.natCast_nonneg j
 by_cases hlt:j < s.size
 ·have i2:(j:Int) < (s.size:Int):=by omega
  have hd:decide ((j:Int) < (s.size:Int))=true:=decide_eq_true i2;have HSg:Hid (∀ W,Calls Tryz.prog 116 #[.bool mark] W fun e w'=>e=.returned (.string (sgB mark))∧W=w'):=hid fun W=>(signs_any mark W).mono fun e w' h=>⟨h.1,h.2.symm⟩;have HIx:Hid (∀ W,Calls Tryz.prog 115 #[.string (sgB mark),.int .u8 s[j].toNat] W fun e w'=>e=.returned (.int .i64 (Lib.indexByte (bts (sgB mark)) s[j]))∧W=w'):=hid fun W=>by
   have h:=Tryz.strings_IndexByte (sgB mark) (s[j].toNat:Int) W;rw[head_byte]at h;exact h.mono fun e w' h=>⟨h.1,h.2.symm⟩
  have HE:Hid (sgnAt mark s j=decide (0≤Lib.indexByte (bts (sgB mark)) s[j])):=hid (by
   unfold sgnAt sigH;rw[drop_at s j hlt,idxByte];rfl)
  generalize sgnAt mark s j=R at *;generalize Lib.indexByte (bts (sgB mark)) s[j]=X at *;generalize sgB mark=G at *;clear ht hm
  go_enter Tryz.func114,Tryz.ntmps114
  go_wp2_with fail
  go_quiet (first|(go_at_call 116;first|with_reducible exact Calls.quiet_of_same (HSg.out _)|with_reducible exact quiet_left (HSg.out _)|with_reducible exact quiet_add_left (HSg.out _))|(go_at_call 115;first|with_reducible exact quiet_left (HIx.out _)|with_reducible exact quiet_add_left (HIx.out _)))
  go_wp2_with fail
  go_ret
  exact⟨by rw[HE.out];rfl,_,rfl⟩
 ·have hd:decide ((j:Int) < (s.size:Int))=false:=decide_eq_false (by omega)
  have HE:Hid (sgnAt mark s j=false):=hid (by
   unfold sgnAt sigH;rw[List.drop_of_length_le (by rw[bts_len];omega)];rfl)
  generalize sgnAt mark s j=R at *;clear ht hm
  go_enter Tryz.func114,Tryz.ntmps114
  go_wp2_with fail
  go_quiet (fail)
  go_wp2_with fail
  go_ret
  exact⟨by rw[HE.out];rfl,_,rfl⟩
end Go.Proofs.YtpfmmbbggcghiaaGreatDoor
