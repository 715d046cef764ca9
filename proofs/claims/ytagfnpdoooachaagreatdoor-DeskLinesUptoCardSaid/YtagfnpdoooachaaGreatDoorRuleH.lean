/- strings.ContainsRune at the operands' letters, for every byte. -/
import Derived.Test.YtagfnpdoooachaaGreatDoorIdx
set_option linter.unusedSimpArgs false
set_option linter.unusedVariables false
set_option maxHeartbeats 6400000
set_option maxRecDepth 100000
namespace Go.Proofs.YtagfnpdoooachaaGreatDoor
open Go.RowKit
open Lib (hid)
theorem enc_hi (c:UInt8) (h:128≤c.toNat):∃ a b:UInt8,Utf8.encode (c.toNat:Int)=⟨#[a,b]⟩∧128≤b.toNat:=by
 have hc:=c.toNat_lt;have hv:Utf8.valid (c.toNat:Int)=true:=by unfold Utf8.valid;simp;omega
 unfold Utf8.encode;simp only[hv,if_true,Int.toNat_natCast];rw[if_neg (by omega),if_pos (by omega)]
 refine⟨_,_,rfl,?_⟩;rw[UInt8.toNat_ofNat'];omega
theorem byte_hi (b:UInt8) (h:128≤b.toNat):Lib.indexByte [118,119,102,116] b= -1:=by
 have e:∀ d:UInt8,d.toNat < 128→(d == b)=false:=fun d hd=>by
  rw[beq_eq_false_iff_ne];rintro rfl;omega
 unfold Lib.indexByte;simp[Lib.indexByte,e 118 (by decide),e 119 (by decide),e 102 (by decide),e 116 (by decide)]
theorem indexRune_hi (c:UInt8) (hc:128≤c.toNat) (w:World):
 Calls Tryz.prog 224 #[.string ⟨#[110,105,118,119,102,116]⟩,.int .i32 c.toNat] w fun e w'=>e=.returned (.int .i64 (-1))∧∃ n,w'=w.drewN n:=by
 obtain⟨a,b,he,hb⟩:=enc_hi c hc;have h0:(0:Int)≤(c.toNat:Int):=by omega
 have h1:¬((c.toNat:Int) < 128):=by omega
 have hlt:=c.toNat_lt;have h2:((c.toNat:Int) == 65533)=false:=by rw[beq_eq_false_iff_ne];omega
 have hv:Lib.validRune (c.toNat:Int)=true:=by unfold Lib.validRune;simp;omega
 have HV:=hid (Tryz.utf8_ValidRune (c.toNat:Int) w);rw[hv]at HV;obtain⟨R,hR⟩:∃ R,R=Utf8.encode (c.toNat:Int):=⟨_,rfl⟩;rw[he]at hR;have hsz:R.size=2:=by rw[hR];rfl
 have hr1:1 < R.size:=by omega
 have hri:(1:Int) < (R.size:Int):=by omega
 have hRb:R[1]=b:=by subst hR;rfl
 have hbn:((105:Int) == (R[1].toNat:Int))=false:=by rw[beq_eq_false_iff_ne,hRb];omega
 have hs1:1 < (⟨#[110,105,118,119,102,116]⟩:ByteArray).size:=by decide +kernel
 have hs105:((⟨#[110,105,118,119,102,116]⟩:ByteArray)[1]'hs1).toNat=105:=rfl;have hbn2:¬((⟨#[110,105,118,119,102,116]⟩:ByteArray)[1]'hs1=R[1]):=by rw[hRb];intro h;have:=congrArg UInt8.toNat h;rw[hs105]at this;omega
 have hbn3:((((⟨#[110,105,118,119,102,116]⟩:ByteArray)[1]'hs1).toNat:Int) == (R[1].toNat:Int))=false:=by rw[hs105];exact hbn
 have hbb:b.toNat.toUInt8=b:=by simp
 have HIb:Hid (∀ W,Calls Tryz.prog 177 #[.string ((⟨#[110,105,118,119,102,116]⟩:ByteArray).extract 2 6),.int .u8 R[1].toNat] W fun e w'=>e=.returned (.int .i64 (-1))∧W=w'):=hid fun W=>by
  have h:=Tryz.strings_IndexByte ⟨#[118,119,102,116]⟩ (b.toNat:Int) W;rw[Int.toNat_natCast,hbb,show(⟨#[118,119,102,116]⟩:ByteArray).data.toList=[118,119,102,116]from rfl,byte_hi b hb]at h;rw[hRb];exact h.mono fun e w' ⟨h1,h2⟩=>⟨h1,h2.symm⟩
 rw[←hR]at he;have HE:=hid he;clear hv he hbb hR hRb;generalize (c.toNat:Int)=C at*
 go_enter Tryz.func224,Tryz.ntmps224
 go_wp2_with fail
 refine HV.out.mono ?_;clear HV;rintro e w1 ⟨rfl,rfl⟩;have he':=HE.out
 go_wp2_with fail
 go_step3
 go_wp2_with fail
 clear HE he'
 go_loopw [9,10] (fun i f wr=>i=.int .i64 1∧f=.int .i64 0∧wr=w1) (fun _ _ _=>0)
 case atStart=>exact⟨rfl,rfl,rfl⟩
 case round=>
  obtain⟨rfl,rfl,rfl⟩:=hrel
  go_wp2_with fail
  go_step3
  go_wp2_with fail
  go_quiet (fail)
  go_wp2_with fail
  go_quiet ((go_at_call 177;first|with_reducible exact quiet_left (HIb.out _)|with_reducible exact quiet_add_left (HIb.out _)))
  go_wp2_with fail
  rw[Exit.noGoto_ret]
  go_wp2
  rw[Exit.noGoto_ret]
  go_wp2
  go_ret
  exact⟨rfl,_,rfl⟩
theorem containsRune_any (c:UInt8) (w:World):
 Calls Tryz.prog 200 #[.string ⟨#[110,105,118,119,102,116]⟩,.int .i32 c.toNat] w fun e w'=>e=.returned (.bool (opsR.contains c))∧Below w.heap.size w w':=by
 by_cases hc:c.toNat < 128
 ·refine(Tryz.strings_ContainsRune_ascii ⟨#[110,105,118,119,102,116]⟩ (c.toNat:Int) w (by omega) (by omega)).mono ?_
  rintro e w' ⟨rfl,rfl⟩;refine⟨?_,Below.refl _ _⟩;rw[Int.toNat_natCast,show c.toNat.toUInt8=c by simp,show(⟨#[110,105,118,119,102,116]⟩:ByteArray).data.toList=opsR from rfl]
  congr 2
  by_cases hm:c∈opsR
  ·rw[List.contains_iff_mem.2 hm];refine decide_eq_true ?_;refine Decidable.byContradiction fun h=> ?_;have h1:Lib.indexByte opsR c= -1:=by have:=Lib.indexByte_ge opsR c;omega
   obtain⟨k,hk,rfl⟩:=List.getElem_of_mem hm;exact Lib.indexByte_none h1 k (List.getElem?_eq_getElem hk)
  ·rw[show opsR.contains c=false from by rw[←Bool.not_eq_true,List.contains_iff_mem];exact hm]
   refine decide_eq_false fun h=> ?_;obtain⟨o,ho⟩:=Int.eq_ofNat_of_zero_le h;exact hm (List.mem_of_getElem? (Lib.indexByte_some ho).1)
 ·have hm:opsR.contains c=false:=by
   rw[←Bool.not_eq_true,List.contains_iff_mem];intro h;unfold opsR at h;simp at h;rcases h with h|h|h|h|h|h <;> rw[h]at hc <;> exact hc (by decide)
  rw[hm];have HI:=hid (indexRune_hi c (by omega) w)
  clear hm hc
  go_enter Tryz.func200,Tryz.ntmps200
  go_wp2_with fail
  refine HI.out.mono ?_;clear HI;rintro e w1 ⟨rfl,n,rfl⟩
  go_wp2_with fail
  go_ret
  exact⟨rfl,below_drewN (Below.refl _ _) n⟩
theorem fine_gen (r:Rl) (V:Value) (lo:Nat) (w:World) (hV:ListOk Enc.pair w lo w.heap.size V r.rng) (hn:r.rng.length≤10000000)
 (HAny:Hid (∀ W,Below w.heap.size w W→Calls Tryz.prog 157 #[V,.func (.func 201) #[] #[]] W fun e w'=>e=.returned (.bool (r.rng.any fun p=> !rngOk p))∧Below W.heap.size W w')):
 Calls Tryz.prog 154 #[.agg #[.int .u8 r.op.toNat,.int .i64 r.mod,.bool r.neg,V]] w fun e w'=>e=.returned (.bool (fineR r))∧Below w.heap.size w w':=by
 obtain⟨VA,Vc,rfl,_⟩:=hV.form;obtain⟨W1,eW1⟩:∃ W1,W1=w.alloc (.cells #[.int .u8 r.op.toNat,.int .i64 r.mod,.bool r.neg,.slice VA r.rng.length Vc] 162):=⟨_,rfl⟩;have hb1:Below w.heap.size w W1:=by rw[eW1];exact(Below.refl _ _).alloc (Nat.le_refl _) _
 have m1:Blk W1 w.heap.size 162 #[.int .u8 r.op.toNat,.int .i64 r.mod,.bool r.neg,.slice VA r.rng.length Vc]:=by rw[eW1];exact Blk.new _ _ _
 have HB1:=hid hb1;have M1:=hid m1;have HW1:=hid eW1;have HC:=hid (containsRune_any r.op W1);have k0:W1.cell? ⟨w.heap.size,0,none⟩=some (.int .u8 r.op.toNat):=(m1.cell 0).trans rfl;have h32:wrap32 (r.op.toNat:Int)=r.op.toNat:=by have:=r.op.toNat_lt;unfold wrap32;omega
 clear hV eW1 hb1 m1
 go_enter Tryz.func154,Tryz.ntmps154
 go_upto_region 1 with fail
 rw[←HW1.out];clear HW1
 go_wp2_with fail
 refine HC.out.mono ?_;clear HC;rintro e w2 ⟨rfl,hb2⟩;have HB2:=hid (HB1.out.trans (hb2.mono HB1.out.size));have M2:=hid (M1.out.below hb2 M1.out.lt);clear hb2 k0 HB1 M1 h32;have k1:=(M2.out.cell 1).trans (show _=some (.int .i64 r.mod)from rfl);have k3:=(M2.out.cell 3).trans (show _=some (.slice VA r.rng.length Vc)from rfl);have C:=hid (HAny.out _ HB2.out);have hall:(r.rng.any fun p=> !rngOk p)= !(r.rng.all rngOk):=by rw[Bool.eq_iff_iff];simp
 rw[hall]at C;have HF:Hid (fineR r=(opsR.contains r.op && decide (0≤r.mod) && decide (r.mod≤1000000) && !r.rng.isEmpty && r.rng.all rngOk)):=hid rfl;have hem:r.rng.isEmpty=decide (r.rng.length=0):=by cases r.rng <;> simp
 rw[hem]at HF;clear HAny M2 hall hem;generalize r.rng.all rngOk=al at *;generalize r.rng.length=n at *;generalize r.mod=m at *;cases hc:opsR.contains r.op with
 | false=>
   rw[hc]at HF
   go_wp2_with fail
   go_ret
   exact⟨by rw[HF.out];rfl,HB2.out⟩
 | true=>
   rw[hc]at HF
   by_cases h1:m < 0
   ·have HF':fineR r=false:=by rw[HF.out];simp;omega
    have HFF:=hid HF';clear HF HF' C
    go_wp2_with fail
    go_ret
    exact⟨by rw[HFF.out];rfl,HB2.out⟩
   ·by_cases h2:1000000 < m
    ·have HF':fineR r=false:=by rw[HF.out];simp;omega
     have HFF:=hid HF';clear HF HF' C
     go_wp2_with fail
     go_ret
     exact⟨by rw[HFF.out];rfl,HB2.out⟩
    ·by_cases h3:n=0
     ·have HF':fineR r=false:=by rw[HF.out];simp[h3]
      have HFF:=hid HF';subst h3;clear HF HF' C
      go_wp2_with fail
      go_ret
      exact⟨by rw[HFF.out];rfl,HB2.out⟩
     ·have hq:((n:Int) == 0)=false:=by rw[beq_eq_false_iff_ne];omega
      have HF':fineR r=al:=by rw[HF.out];simp[h3];omega
      have HFF:=hid HF';clear HF HF' h3
      go_wp2_with fail
      refine C.out.mono ?_;clear C;rintro e w3 ⟨rfl,hb3⟩;have HB3:=hid (HB2.out.trans (hb3.mono HB2.out.size));clear hb3
      go_wp2_with fail
      go_ret
      exact⟨by rw[HFF.out];simp[ret_bool],HB3.out⟩
theorem fine_any (r:Rl) (V:Value) (lo:Nat) (w:World) (hV:ListOk Enc.pair w lo w.heap.size V r.rng) (hn:r.rng.length≤10000000):
 Calls Tryz.prog 154 #[.agg #[.int .u8 r.op.toNat,.int .i64 r.mod,.bool r.neg,V]] w fun e w'=>e=.returned (.bool (fineR r))∧Below w.heap.size w w':=
 fine_gen r V lo w hV hn (hid fun W hW=>containsF_any r.rng V (fun p=> !rngOk p) lo W ((hV.below Enc.pair_laws hW).mono Enc.pair_laws (Nat.le_refl _) hW.size) (by omega) (hid fun x _ W' _=>fine1_any x W'))
theorem checkR_bad {R:List (List Rl)} {i:Nat} (h:i < R.length) (hb:partOk R[i]=false):checkR R=3:=by
 have h1:R.all partOk=false:=by
  rw[List.all_eq_false];exact⟨R[i],List.getElem_mem h,by simp[hb]⟩
 unfold checkR;rw[h1];simp
theorem partOk_bad {p:List Rl} {k:Nat} (h:k < p.length) (hb:fineR p[k]=false):partOk p=false:=by
 unfold partOk;have h1:p.all fineR=false:=by
  rw[List.all_eq_false];exact⟨p[k],List.getElem_mem h,by simp[hb]⟩
 rw[h1];simp
theorem partOk_good {p:List Rl} (h0:0 < p.length) (h:∀ k (hk:k < p.length),fineR p[k]=true):partOk p=true:=by
 unfold partOk;have h1:p.all fineR=true:=by
  rw[List.all_eq_true];intro x hx;obtain⟨k,hk,rfl⟩:=List.getElem_of_mem hx;exact h k hk
 rw[h1];have h2:p.isEmpty=false:=by rw[List.isEmpty_eq_false_iff];exact List.length_pos_iff.1 h0
 rw[h2];rfl
theorem checkR_good {R:List (List Rl)} (h0:0 < R.length) (h:∀ i (hi:i < R.length),partOk R[i]=true):checkR R=if 20 < countR R then 4 else 0:=by
 have h1:R.all partOk=true:=by
  rw[List.all_eq_true];intro x hx;obtain⟨k,hk,rfl⟩:=List.getElem_of_mem hx;exact h k hk
 have h2:R.isEmpty=false:=by rw[List.isEmpty_eq_false_iff];exact List.length_pos_iff.1 h0
 unfold checkR;rw[h1,h2];simp
theorem countR_take {R:List (List Rl)} {i:Nat} (h:i < R.length):countR (R.take (i+1))=countR (R.take i)+R[i].length:=by
 unfold countR;rw[List.take_succ_eq_append_getElem h,List.map_append,List.sum_append];simp
theorem countR_le {M:Nat}:∀(R:List (List Rl)),(∀ p∈R,p.length≤M)→countR R≤R.length*M
 | [],_=>by simp[countR]
 | p::R,h=>by
   have h1:=countR_le R fun q hq=>h q (List.mem_cons_of_mem _ hq);have h2:=h p (List.mem_cons_self ..);unfold countR at h1 ⊢;rw[List.map_cons,List.sum_cons,List.length_cons,Nat.add_mul,Nat.one_mul];omega
theorem rcheck_any (R:List (List Rl)) (v:Value) (lo:Nat) (w:World) (hv:ListOk (Enc.list Enc.rl) w lo w.heap.size v R) (h1:R.length≤10000000) (h2:∀ p∈R,p.length≤10000000) (h3:∀ p∈R,∀ r∈p,r.rng.length≤10000000):
 Calls Tryz.prog 100 #[v] w fun e w'=>e=.returned (errR (checkR R))∧Below w.heap.size w w':=by
 obtain⟨A,c,rfl,hc⟩:=hv.form;have HV:Hid (∀ W,Below w.heap.size w W→ListOk (Enc.list Enc.rl) W lo w.heap.size (.slice A R.length c) R):=hid fun W hW=>hv.below (Enc.list_laws Enc.rl_laws) hW;have H2:=hid h2;have H3:=hid h3;clear hv h2 h3
 by_cases h0:R.length=0
 ·have HE:Hid (errR (checkR R)=errR 3):=hid (by rw[List.length_eq_zero_iff.1 h0];rfl)
  have hq:((R.length:Int) == 0)=true:=by rw[h0];rfl
  rw[HE.out];clear HV
  go_enter Tryz.func100,Tryz.ntmps100
  go_wp2_with fail
  go_ret
  exact⟨rfl,Below.refl _ _⟩
 have hq:((R.length:Int) == 0)=false:=by rw[beq_eq_false_iff_ne];omega
 have HCn:Hid (∀ i,i≤R.length→countR (R.take i)≤100000000000000):=hid fun i hi=>by
  have h:=countR_le (M:=10000000) (R.take i) fun p hp=>H2.out p (List.mem_of_mem_take hp);rw[List.length_take]at h;omega
 have H0:Hid (0 < R.length):=hid (by omega)
 go_enter Tryz.func100,Tryz.ntmps100
 go_wp2_with fail
 go_loopw [3,5,7,14] (fun n _ _ i wr=>∃ j:Nat,j≤R.length∧i=.int .i64 (j:Int)∧n=.int .i64 (countR (R.take j):Int)∧Hid (∀ q (h:q < R.length),q < j→partOk R[q]=true)∧Below w.heap.size w wr) (fun _ _ _ i _=>R.length - (intOf i).toNat)
 case atStart=>exact⟨0,Nat.zero_le _,rfl,rfl,hid fun q _ h=>absurd h (Nat.not_lt_zero _),Below.refl _ _⟩
 case round=>
  obtain⟨j,hj,rfl,rfl,HNo,hb⟩:=hrel;have HB:=hid hb;have hbs:=hb.size;have hcn:=HCn.out j hj;obtain⟨cn,hcn0⟩:∃ cn,cn=countR (R.take j):=⟨_,rfl⟩;have HC0:=hid hcn0;rw[←hcn0]at hcn ⊢;clear hcn0
  by_cases hlt:j < R.length
  ·have HP:Hid (∃ p,p=R[j]):=hid ⟨_,rfl⟩;have hmem:R[j]∈R:=List.getElem_mem hlt;have hp2:=H2.out _ hmem;have hp3:=H3.out _ hmem;obtain⟨b0,o0,V,rfl,hb1,hb2,x0,hV⟩:=(HV.out _ hb).listAt j hlt;have HBad:Hid (partOk R[j]=false→checkR R=3):=hid fun h=>checkR_bad hlt h;have HTk:Hid (countR (R.take (j+1))=cn+R[j].length):=hid (by rw[countR_take hlt,HC0.out])
   have HNx:Hid (partOk R[j]=true→∀ q (h:q < R.length),q < j+1→partOk R[q]=true):=hid fun h q hq hq1=>by
    rcases Nat.lt_or_eq_of_le (Nat.le_of_lt_succ hq1)with e|e
    ·exact HNo.out q hq e
    ·subst e;exact h
   generalize R[j]=p at *;obtain⟨VA,Vc,rfl,_⟩:=hV.form;have HVp:Hid (∀ W,Below wr.heap.size wr W→ListOk Enc.rl W lo wr.heap.size (.slice VA p.length Vc) p):=hid fun W hW=>(hV.mono Enc.rl_laws (Nat.le_refl _) hbs).below Enc.rl_laws hW;have HP3:=hid hp3;clear hV hmem hb HP hp3;have i1:(0:Int)≤(j:Int):=Int.natCast_nonneg j;have i2:(j:Int) < (R.length:Int):=by omega
   by_cases hp0:p.length=0
   ·have hz:((p.length:Int) == 0)=true:=by rw[hp0];rfl
    have HE:Hid (checkR R=3):=hid (HBad.out (by rw[List.length_eq_zero_iff.1 hp0];rfl))
    clear HVp HNx HTk HBad HP3 hp0 hp2 H2 H3
    go_wp2_with fail
    go_ret
    exact⟨by rw[HE.out];rfl,HB.out⟩
   ·have hz:((p.length:Int) == 0)=false:=by rw[beq_eq_false_iff_ne];omega
    have h00:0 < p.length:=by omega
    obtain⟨b1,o1,V1,rfl,c1,c2,y0,y1,y2,y3,hV1⟩:=(HVp.out _ (Below.refl _ _)).rlAt 0 h00;have hr3:=HP3.out p[0] (List.getElem_mem h00);obtain⟨Y,hY⟩:∃ Y,Y=fineR p[0]:=⟨_,rfl⟩;have HY:=hid hY;have HF:=hid (fine_any p[0] V1 lo wr hV1 hr3);rw[←hY]at HF;have HB0:Hid (Y=false→checkR R=3):=hid fun h=>HBad.out (partOk_bad h00 (by rw[←HY.out];exact h))
    obtain⟨V1A,V1c,rfl,_⟩:=hV1.form;clear hV1 hr3 hY;generalize p[0]=e at *;obtain⟨e0,e1,e2,e3⟩:=e;dsimp only at y0 y1 y2 y3 HF;simp only[Nat.zero_mul,Nat.add_zero]at y0 y1 y2 y3;have k1:(0:Int) < (p.length:Int):=by omega
    clear HY H2 H3
    go_wp2_with fail
    refine HF.out.mono ?_;clear HF;rintro e w1 ⟨rfl,hb1'⟩;have HB1:=hid hb1';clear hb1' y0 y1 y2 y3;cases Y with
    | false=>
      have HE:Hid (checkR R=3):=hid (HB0.out rfl);clear HVp HNx HTk HBad HP3 HB0
      go_wp2_with fail
      go_ret
      exact⟨by rw[HE.out];rfl,HB.out.trans (HB1.out.mono hbs)⟩
    | true=>
      clear HB0;obtain⟨wo,rfl⟩:∃ wo:World,wo=wr:=⟨_,rfl⟩
      go_wp2_with fail
      go_loopw [3,7,31] (fun n _ k w2=>∃ q:Nat,q≤p.length∧k=.int .i64 (q:Int)∧n=.int .i64 ((cn+q:Nat):Int)∧Hid (∀ m (h:m < p.length),m < q→fineR p[m]=true)∧Below wo.heap.size wo w2) (fun _ _ k _=>p.length - (intOf k).toNat)
      case atStart=>exact⟨0,Nat.zero_le _,rfl,by simp,hid fun _ _ h=>absurd h (Nat.not_lt_zero _),HB1.out⟩
      case round=>
       obtain⟨q,hq',rfl,rfl,HN2,hb2⟩:=hrel;have HB2:=hid hb2;have hbs2:=hb2.size;have hqn:cn+q≤100000010000000:=by omega
       by_cases hlt2:q < p.length
       ·obtain⟨b2,o2,V2,hA2,d1,d2,z0,z1,z2,z3,hV2⟩:=(HVp.out _ hb2).rlAt q hlt2;injection hA2 with hA2;injection hA2 with hA2b hA2o;subst hA2b;subst hA2o;have hr4:=HP3.out p[q] (List.getElem_mem hlt2);obtain⟨Y2,hY2⟩:∃ Y2,Y2=fineR p[q]:=⟨_,rfl⟩;have HB3:Hid (Y2=false→checkR R=3):=hid fun h=>HBad.out (partOk_bad hlt2 (by rw[←hY2];exact h))
        have HN3:Hid (Y2=true→∀ m (h:m < p.length),m < q+1→fineR p[m]=true):=hid fun h m hm hm1=>by
         rcases Nat.lt_or_eq_of_le (Nat.le_of_lt_succ hm1)with e|e
         ·exact HN2.out m hm e
         ·subst e;rw[←hY2];exact h
        obtain⟨V2A,V2c,rfl,_⟩:=hV2.form;have HF0:Hid (∀ W,Below wr.heap.size wr W→Calls Tryz.prog 154 #[.agg #[.int .u8 p[q].op.toNat,.int .i64 p[q].mod,.bool p[q].neg,.slice V2A p[q].rng.length V2c]] W fun e w'=>e=.returned (.bool Y2)∧Below W.heap.size W w'):=hid fun W hW=>by
         rw[hY2];exact fine_any p[q] _ lo W (((hV2.mono Enc.pair_laws (Nat.le_refl _) hbs2).below Enc.pair_laws hW).mono Enc.pair_laws (Nat.le_refl _) hW.size) hr4
        clear hV2 hr4 hY2 HN2;generalize p[q]=e at *;obtain⟨f0,f1,f2,f3⟩:=e;dsimp only at z0 z1 z2 z3 HF0;have HFw:=hid (HF0.out (wr.alloc (.cells #[.int .u8 f0.toNat,.int .i64 f1,.bool f2,.slice V2A f3.length V2c] 162)) ((Below.refl _ _).alloc (Nat.le_refl _) _));clear HF0;have i3:(0:Int)≤(q:Int):=Int.natCast_nonneg q;have i4:(q:Int) < (p.length:Int):=by omega
        go_wp2_with fail
        refine HFw.out.mono ?_;clear HFw;rintro e w3 ⟨rfl,hb3'⟩;have HB4:=hid (HB2.out.trans (((Below.refl _ wr).alloc (Nat.le_refl _) _ |>.trans (hb3'.mono (by simp))).mono hbs2))
        clear hb3';cases Y2 with
        | false=>
          have HE:Hid (checkR R=3):=hid (HB3.out rfl);clear HVp HNx HTk HBad HP3 HB3 HN3
          go_wp2_with fail
          go_ret
          exact⟨by rw[HE.out];rfl,HB.out.trans (HB4.out.mono hbs)⟩
        | true=>
          have HN4:=hid (HN3.out rfl);clear HB3 HN3
          go_wp2_with fail
          go_roundw
          case rel=>exact⟨q+1,by omega,by go_num,by go_num,HN4,HB4.out⟩
          case measure=>simp[intOf];omega
       ·obtain rfl:q=p.length:=by omega
        have HN5:=hid (HNx.out (partOk_good h00 fun m hm=>HN2.out m hm hm));clear HN2 HVp HBad HP3
        go_wp2_with fail
        go_roundw
        case rel=>exact⟨j+1,by omega,by go_num,by rw[HTk.out],HN5,HB.out.trans (HB2.out.mono hbs)⟩
        case measure=>simp[intOf];omega
  ·obtain rfl:j=R.length:=by omega
   rw[List.take_length]at HC0;have HE:Hid (checkR R=if 20 < cn then 4 else 0):=hid (by rw[checkR_good H0.out fun q hq=>HNo.out q hq hq,HC0.out])
   clear HNo HC0 hb HCn
   by_cases h20:20 < cn
   ·have hg:(20:Int) < (cn:Int):=by omega
    rw[if_pos h20]at HE
    go_wp2_with fail
    go_ret
    exact⟨by rw[HE.out];rfl,HB.out⟩
   ·have hg:¬((20:Int) < (cn:Int)):=by omega
    rw[if_neg h20]at HE
    go_wp2_with fail
    go_ret
    exact⟨by rw[HE.out];rfl,HB.out⟩
end Go.Proofs.YtagfnpdoooachaaGreatDoor
namespace Go.Proofs.YtagfnpdoooachaaGreatDoor
open Go.RowKit Go.Maps
open Lib (hid)
theorem wpList_insert_own {H:Type} {P:Program} (w:World) {ops:Array Oper} {rest:List Oper} {o:Oper} {a:Act} {Q:Exit→Act→World→Prop}
 (hg:o.guard=none) (m x v:Operand) (t:TypeId) (hop:o.op=Op.insert t m x v)
 (k e:TypeId) (K:Keyed P k) (ht:P.underlying t=some (.map k e)) (R:Value→Option (DataW H×List MemPlace)) (b n:Nat) (D:DataW H)
 (hm:a.eval m=.map (some b)) (hown:w.ownsMap P k R b n D) (hn:n < maxLen) (key val:Value) (kl:Lit) (hx:a.eval x=key) (hv:a.eval v=val) (hkey:keyOf P k key=some kl)
 (d:DataW H) (ps:List MemPlace) (hval:R val=some (d,ps))
 (hK:∀ w',w'.ownsMap P k R b (n+1) (D.put kl d)→w.grownBy w' (some b)→wpList P ops Q rest (a.put o.dst undef) w'):
 wpList P ops Q (o::rest) a w:=by
 refine wpList_plain hg fun K' hK'=> ?_;obtain⟨w',hrun,r1,r2⟩:=hown.update K ht hn hkey hval;unfold Oper.wp;simp[execOp,hop,hm,hx,hv,hrun,Result.andThen];exact hK' _ _ (hK w' r1 r2)
theorem blkGrown {w w':World} {g:Nat} {t:TypeId} {cs:Array Value} {row:Option Nat} (h:Blk w g t cs) (hg:w.grownBy w' row) (hne:some g≠row):Blk w' g t cs:=(hg.block g h.lt hne).trans h
theorem lawB:Keyed Tryz.prog 5:=int_keyed Tryz.underlying5
theorem keyB (n:UInt8):keyOf Tryz.prog 5 (.int .u8 n.toNat)=some (.int .u8 n.toNat):=by
 have:=n.toNat_lt;simp[keyOf,mapKey,Tryz.underlying5,Lit.wf,IntKind.min,IntKind.max,IntKind.signed,IntKind.bits];omega
structure OpV.Ok (o:OpV):Prop where
 i:(Lit.int .i64 o.i).wf=true
 v:(Lit.int .i64 o.v).wf=true
 w:(Lit.int .i64 o.w).wf=true
 f:(Lit.int .i64 o.f).wf=true
 t:(Lit.int .i64 o.t).wf=true
def mapO (o:OpV):DataW Unit:=(((((((DataW.map []:DataW Unit)).put (.int .u8 110) (.lit (.int .i64 o.i))).put (.int .u8 105) (.lit (.int .i64 o.i))).put (.int .u8 118) (.lit (.int .i64 o.v))).put (.int .u8 119) (.lit (.int .i64 o.w))).put (.int .u8 102) (.lit (.int .i64 o.f))).put (.int .u8 116) (.lit (.int .i64 o.t))
theorem mapO_at (o:OpV) {c:UInt8} (h:c∈opsR):(mapO o).atKey (.int .u8 c.toNat) (.lit (.int .i64 0))=.lit (.int .i64 (valR o c)):=by
 unfold opsR at h;simp at h;rcases h with h|h|h|h|h|h <;> rw[h] <;> rfl
theorem zero_intB (w:World):(zeroValue 3).run Tryz.prog w=.ok (.int .i64 0) w:=by kernel_rfl
theorem holds1_any (p:Int×Int) (x:Int) (q0:Nat) (w:World) (hq:w.cell? ⟨q0,0,none⟩=some (.int .i64 x)):
 Calls Tryz.prog 158 #[.agg #[.int .i64 p.1,.int .i64 p.2],.pointer (some ⟨q0,0,none⟩)] w fun e w'=>e=.returned (.bool (inR x p))∧Below w.heap.size w w':=by
 obtain⟨a,b⟩:=p;have hR:inR x (a,b)=(decide (a≤x) && decide (x≤b)):=rfl;obtain⟨W1,eW1⟩:∃ W1,W1=w.alloc (.cells #[.int .i64 a,.int .i64 b] 222):=⟨_,rfl⟩;have hb1:Below w.heap.size w W1:=by rw[eW1];exact(Below.refl _ _).alloc (Nat.le_refl _) _
 have m1:Blk W1 w.heap.size 222 #[.int .i64 a,.int .i64 b]:=by rw[eW1];exact Blk.new _ _ _
 have k0:W1.cell? ⟨w.heap.size,0,none⟩=some (.int .i64 a):=(m1.cell 0).trans rfl;have k1:W1.cell? ⟨w.heap.size,1,none⟩=some (.int .i64 b):=(m1.cell 1).trans rfl;have kq:W1.cell? ⟨q0,0,none⟩=some (.int .i64 x):=(hb1.cell (p:=⟨q0,0,none⟩) (cell_lt hq)).trans hq;have HB1:=hid hb1;have HW1:=hid eW1;rw[hR];clear hR hq eW1 m1 hb1;dsimp only
 go_enter Tryz.func158,Tryz.ntmps158
 go_upto_region 1 with fail
 rw[←HW1.out];clear HW1
 by_cases h1:a≤x
 ·have g1:decide (a≤x)=true:=decide_eq_true h1
  go_wp2_with fail
  go_ret
  exact⟨by rw[g1];rfl,HB1.out⟩
 ·have g1:decide (a≤x)=false:=decide_eq_false h1
  go_wp2_with fail
  go_ret
  exact⟨rfl,HB1.out⟩
theorem holds_any (r:Rl) (V:Value) (o:OpV) (lo:Nat) (w:World) (ho:o.Ok) (hop:r.op∈opsR) (hm0:0≤r.mod) (hV:ListOk Enc.pair w lo w.heap.size V r.rng) (hn:r.rng.length≤10000000):
 Calls Tryz.prog 105 #[.agg #[.int .u8 r.op.toNat,.int .i64 r.mod,.bool r.neg,V],.agg #[.int .i64 o.i,.int .i64 o.v,.int .i64 o.w,.int .i64 o.f,.int .i64 o.t]] w fun e w'=>e=.returned (.bool (hold1 o r))∧Below w.heap.size w w':=by
 obtain⟨VA,Vc,rfl,_⟩:=hV.form;obtain⟨r0,r1,r2,r3⟩:=r;dsimp only at hop hm0 hV hn ⊢;have HVl:=hid hV;have HOp:=hid hop;obtain⟨WL,eWL⟩:∃ WL,WL=(w.alloc (.cells #[.int .u8 r0.toNat,.int .i64 r1,.bool r2,.slice VA r3.length Vc] 162)).alloc (.cells #[.int .i64 o.i,.int .i64 o.v,.int .i64 o.w,.int .i64 o.f,.int .i64 o.t] 97):=⟨_,rfl⟩;have hs:WL.heap.size=w.heap.size+2:=by rw[eWL];simp
 have HBl:Hid (Below w.heap.size w WL):=hid (by rw[eWL];exact((Below.refl _ _).alloc (Nat.le_refl _) _).alloc (by simp) _)
 have MR:Hid (Blk WL w.heap.size 162 #[.int .u8 r0.toNat,.int .i64 r1,.bool r2,.slice VA r3.length Vc]):=hid (by rw[eWL];exact(Blk.new _ _ _).alloc _)
 have MO:Hid (Blk WL (w.heap.size+1) 97 #[.int .i64 o.i,.int .i64 o.v,.int .i64 o.w,.int .i64 o.f,.int .i64 o.t]):=hid (by
  rw[eWL];have:=Blk.new (w.alloc (.cells #[.int .u8 r0.toNat,.int .i64 r1,.bool r2,.slice VA r3.length Vc] 162)) 97 #[.int .i64 o.i,.int .i64 o.v,.int .i64 o.w,.int .i64 o.f,.int .i64 o.t];rwa[World.size_alloc]at this)
 have HO0:Hid ((WL.alloc (.map #[] 0)).ownsMap Tryz.prog 5 (plainElem (H:=Unit) Tryz.prog 3) (w.heap.size+2) 0 (.map [])):=hid (by
  have:=World.ownsMap_made (H:=Unit) WL Tryz.prog 5 (plainElem (H:=Unit) Tryz.prog 3);rwa[hs]at this)
 have HWL:=hid eWL;have k00:=(MO.out.alloc (.map #[] 0)).cell 0;have k0:(WL.alloc (.map #[] 0)).cell? ⟨w.heap.size+1,0,none⟩=some (.int .i64 o.i):=k00.trans rfl;have hlen:∀ n:Nat,n < 10→n < maxLen:=fun n hn=>by unfold maxLen;omega
 clear eWL hV hop k00;have hmm:=@run_makeMap Tryz.prog
 go_enter Tryz.func105,Tryz.ntmps105
 go_upto_region 1 with fail
 rw[←HWL.out];clear HWL;have E0:=hid (plainElem_int (H:=Unit) (P:=Tryz.prog) Tryz.underlying3 ho.i);have Ky0:=hid (keyB 110)
 go_wp2_with (refine wpList_insert_own _ rfl _ _ _ 229 rfl 5 3 lawB Tryz.underlying229 (plainElem (H:=Unit) Tryz.prog 3) (w.heap.size+2) 0 _ rfl HO0.out (hlen 0 (by omega)) _ _ _ rfl rfl Ky0.out _ [] E0.out ?_)
 intro w1 hown1 hgrow1;have HB1:Hid (Below w.heap.size w w1):=hid ((HBl.out.alloc (by omega) _).grown hgrow1 (by simp;omega) (fun k hk=>by cases hk;omega))
 have MR1:Hid (Blk w1 w.heap.size 162 #[.int .u8 r0.toNat,.int .i64 r1,.bool r2,.slice VA r3.length Vc]):=hid (blkGrown (MR.out.alloc _) hgrow1 (by simp))
 have MO1:Hid (Blk w1 (w.heap.size+1) 97 #[.int .i64 o.i,.int .i64 o.v,.int .i64 o.w,.int .i64 o.f,.int .i64 o.t]):=hid (blkGrown (MO.out.alloc _) hgrow1 (by simp))
 clear MR MO k0 HO0;have k1:w1.cell? ⟨w.heap.size+1,0,none⟩=some (.int .i64 o.i):=(MO1.out.cell 0).trans rfl;have HO1:=hid hown1;clear hown1 hgrow1;have E1:=hid (plainElem_int (H:=Unit) (P:=Tryz.prog) Tryz.underlying3 ho.i);have Ky1:=hid (keyB 105)
 go_wp2_with (refine wpList_insert_own _ rfl _ _ _ 229 rfl 5 3 lawB Tryz.underlying229 (plainElem (H:=Unit) Tryz.prog 3) (w.heap.size+2) 1 _ rfl HO1.out (hlen 1 (by omega)) _ _ _ rfl rfl Ky1.out _ [] E1.out ?_)
 intro w2 hown2 hgrow2;have HB2:Hid (Below w.heap.size w w2):=hid (HB1.out.grown hgrow2 HB1.out.size (fun k hk=>by cases hk;omega))
 have MR2:Hid (Blk w2 w.heap.size 162 #[.int .u8 r0.toNat,.int .i64 r1,.bool r2,.slice VA r3.length Vc]):=hid (blkGrown MR1.out hgrow2 (by simp))
 have MO2:Hid (Blk w2 (w.heap.size+1) 97 #[.int .i64 o.i,.int .i64 o.v,.int .i64 o.w,.int .i64 o.f,.int .i64 o.t]):=hid (blkGrown MO1.out hgrow2 (by simp))
 clear HB1 MR1 MO1 HO1 k1;have k2:w2.cell? ⟨w.heap.size+1,1,none⟩=some (.int .i64 o.v):=(MO2.out.cell 1).trans rfl;have HO2:=hid hown2;clear hown2 hgrow2;have E2:=hid (plainElem_int (H:=Unit) (P:=Tryz.prog) Tryz.underlying3 ho.v);have Ky2:=hid (keyB 118)
 go_wp2_with (refine wpList_insert_own _ rfl _ _ _ 229 rfl 5 3 lawB Tryz.underlying229 (plainElem (H:=Unit) Tryz.prog 3) (w.heap.size+2) 2 _ rfl HO2.out (hlen 2 (by omega)) _ _ _ rfl rfl Ky2.out _ [] E2.out ?_)
 intro w3 hown3 hgrow3;have HB3:Hid (Below w.heap.size w w3):=hid (HB2.out.grown hgrow3 HB2.out.size (fun k hk=>by cases hk;omega))
 have MR3:Hid (Blk w3 w.heap.size 162 #[.int .u8 r0.toNat,.int .i64 r1,.bool r2,.slice VA r3.length Vc]):=hid (blkGrown MR2.out hgrow3 (by simp))
 have MO3:Hid (Blk w3 (w.heap.size+1) 97 #[.int .i64 o.i,.int .i64 o.v,.int .i64 o.w,.int .i64 o.f,.int .i64 o.t]):=hid (blkGrown MO2.out hgrow3 (by simp))
 clear HB2 MR2 MO2 HO2 k2;have k3:w3.cell? ⟨w.heap.size+1,2,none⟩=some (.int .i64 o.w):=(MO3.out.cell 2).trans rfl;have HO3:=hid hown3;clear hown3 hgrow3;have E3:=hid (plainElem_int (H:=Unit) (P:=Tryz.prog) Tryz.underlying3 ho.w);have Ky3:=hid (keyB 119)
 go_wp2_with (refine wpList_insert_own _ rfl _ _ _ 229 rfl 5 3 lawB Tryz.underlying229 (plainElem (H:=Unit) Tryz.prog 3) (w.heap.size+2) 3 _ rfl HO3.out (hlen 3 (by omega)) _ _ _ rfl rfl Ky3.out _ [] E3.out ?_)
 intro w4 hown4 hgrow4;have HB4:Hid (Below w.heap.size w w4):=hid (HB3.out.grown hgrow4 HB3.out.size (fun k hk=>by cases hk;omega))
 have MR4:Hid (Blk w4 w.heap.size 162 #[.int .u8 r0.toNat,.int .i64 r1,.bool r2,.slice VA r3.length Vc]):=hid (blkGrown MR3.out hgrow4 (by simp))
 have MO4:Hid (Blk w4 (w.heap.size+1) 97 #[.int .i64 o.i,.int .i64 o.v,.int .i64 o.w,.int .i64 o.f,.int .i64 o.t]):=hid (blkGrown MO3.out hgrow4 (by simp))
 clear HB3 MR3 MO3 HO3 k3;have k4:w4.cell? ⟨w.heap.size+1,3,none⟩=some (.int .i64 o.f):=(MO4.out.cell 3).trans rfl;have HO4:=hid hown4;clear hown4 hgrow4;have E4:=hid (plainElem_int (H:=Unit) (P:=Tryz.prog) Tryz.underlying3 ho.f);have Ky4:=hid (keyB 102)
 go_wp2_with (refine wpList_insert_own _ rfl _ _ _ 229 rfl 5 3 lawB Tryz.underlying229 (plainElem (H:=Unit) Tryz.prog 3) (w.heap.size+2) 4 _ rfl HO4.out (hlen 4 (by omega)) _ _ _ rfl rfl Ky4.out _ [] E4.out ?_)
 intro w5 hown5 hgrow5;have HB5:Hid (Below w.heap.size w w5):=hid (HB4.out.grown hgrow5 HB4.out.size (fun k hk=>by cases hk;omega))
 have MR5:Hid (Blk w5 w.heap.size 162 #[.int .u8 r0.toNat,.int .i64 r1,.bool r2,.slice VA r3.length Vc]):=hid (blkGrown MR4.out hgrow5 (by simp))
 have MO5:Hid (Blk w5 (w.heap.size+1) 97 #[.int .i64 o.i,.int .i64 o.v,.int .i64 o.w,.int .i64 o.f,.int .i64 o.t]):=hid (blkGrown MO4.out hgrow5 (by simp))
 clear HB4 MR4 MO4 HO4 k4;have k5:w5.cell? ⟨w.heap.size+1,4,none⟩=some (.int .i64 o.t):=(MO5.out.cell 4).trans rfl;have HO5:=hid hown5;clear hown5 hgrow5;have E5:=hid (plainElem_int (H:=Unit) (P:=Tryz.prog) Tryz.underlying3 ho.t);have Ky5:=hid (keyB 116)
 go_wp2_with (refine wpList_insert_own _ rfl _ _ _ 229 rfl 5 3 lawB Tryz.underlying229 (plainElem (H:=Unit) Tryz.prog 3) (w.heap.size+2) 5 _ rfl HO5.out (hlen 5 (by omega)) _ _ _ rfl rfl Ky5.out _ [] E5.out ?_)
 intro w6 hown6 hgrow6;have HB6:Hid (Below w.heap.size w w6):=hid (HB5.out.grown hgrow6 HB5.out.size (fun k hk=>by cases hk;omega))
 have MR6:Hid (Blk w6 w.heap.size 162 #[.int .u8 r0.toNat,.int .i64 r1,.bool r2,.slice VA r3.length Vc]):=hid (blkGrown MR5.out hgrow6 (by simp))
 have MO6:Hid (Blk w6 (w.heap.size+1) 97 #[.int .i64 o.i,.int .i64 o.v,.int .i64 o.w,.int .i64 o.f,.int .i64 o.t]):=hid (blkGrown MO5.out hgrow6 (by simp))
 clear HB5 MR5 MO5 HO5 k5;have HO6:=hid hown6;clear hown6 hgrow6;have k6:w6.cell? ⟨w.heap.size,0,none⟩=some (.int .u8 r0.toNat):=(MR6.out.cell 0).trans rfl;have Kr:=hid (keyB r0);have HAt:=hid (mapO_at o HOp.out)
 go_wp2_with (at_lookup;refine wpList_lookup_own_int _ rfl _ _ 229 rfl 5 3 .i64 lawB Tryz.underlying229 Tryz.underlying3 (zero_intB _) (w.heap.size+2) 6 _ rfl HO6.out _ _ rfl Kr.out ?_)
 intro c hat hwc;obtain rfl:c=valR o r0:=by
  have h:=hat.symm.trans HAt.out;injection h with h;injection h
 clear hat hwc HAt Kr HO6 k6;have k1:(w6.alloc (.cells #[.int .i64 (valR o r0)] 3)).cell? ⟨w.heap.size,1,none⟩=some (.int .i64 r1):=((MR6.out.alloc _).cell 1).trans rfl;have MR7:=hid (MR6.out.alloc (.cells #[.int .i64 (valR o r0)] 3));have MO7:=hid (MO6.out.alloc (.cells #[.int .i64 (valR o r0)] 3));have MX7:=hid (Blk.new w6 3 #[.int .i64 (valR o r0)]);have HB7:=hid (HB6.out.alloc HB6.out.size (.cells #[.int .i64 (valR o r0)] 3));have hs6:=HB6.out.size;have hs6':=MO6.out.lt;clear MR6 MO6 HB6;obtain⟨W7,eW7⟩:∃ W7,W7=w6.alloc (.cells #[.int .i64 (valR o r0)] 3):=⟨_,rfl⟩;obtain⟨Q0,eQ0⟩:∃ Q0,Q0=w6.heap.size:=⟨_,rfl⟩;have hr0:=r0.toNat_lt
 go_upto_if 26 with fail
 rw[←eW7]at MR7 MO7 MX7 HB7 k1 ⊢;rw[←eQ0]at MX7 hs6 hs6' ⊢;clear eW7 eQ0;have kx:W7.cell? ⟨Q0,0,none⟩=some (.int .i64 (valR o r0)):=(MX7.out.cell 0).trans rfl;have fx:=MX7.out.frozen 0;obtain⟨Z,hZ⟩:∃ Z,Z=(r1 != 0):=⟨_,rfl⟩;rw[←hZ];have HX:Hid (xR o ⟨r0,r1,r2,r3⟩=if r1=0 then valR o r0 else Int.tmod (valR o r0) r1):=hid rfl
 go_cut []from 31 (fun wx=>Below w.heap.size w wx∧Blk wx w.heap.size 162 #[.int .u8 r0.toNat,.int .i64 r1,.bool r2,.slice VA r3.length Vc]∧Blk wx (w.heap.size+1) 97 #[.int .i64 o.i,.int .i64 o.v,.int .i64 o.w,.int .i64 o.f,.int .i64 o.t]∧Blk wx Q0 3 #[.int .i64 (xR o ⟨r0,r1,r2,r3⟩)])
 case first=>
  by_cases h0:r1=0
  ·obtain rfl:Z=false:=by rw[hZ];simp[h0]
   rw[if_pos h0]at HX;clear h0 hZ
   go_wp2_with fail
   go_meet
   case rel=>exact⟨HB7.out,MR7.out,MO7.out,by rw[HX.out];exact MX7.out⟩
  ·obtain rfl:Z=true:=by rw[hZ];simp[h0]
   rw[if_neg h0]at HX;have hz:(r1 == 0)=false:=by rw[beq_eq_false_iff_ne];exact h0
   clear hZ
   go_wp2_with fail
   go_meet
   case rel=>
    refine⟨HB7.out.setCell (by show w.heap.size≤Q0;omega) _,MR7.out.far (by show w.heap.size≠Q0;omega) _,MO7.out.far (by show w.heap.size+1≠Q0;omega) _,?_⟩
    rw[HX.out];exact MX7.out.set_ 0 _
 case rest=>
  obtain⟨hbc,mrc,moc,mxc⟩:=hcut;have HBc:=hid hbc;have MRc:=hid mrc;have MOc:=hid moc;have HE:Hid (hold1 o ⟨r0,r1,r2,r3⟩=((r3.any (inR (xR o ⟨r0,r1,r2,r3⟩)) && (r0 != 110 || o.t == 0)) != r2)):=hid rfl;generalize xR o ⟨r0,r1,r2,r3⟩=x at *;have HC:=hid (containsH_any r3 (.slice VA r3.length Vc) Q0 (inR x) lo wc ((HVl.out.below Enc.pair_laws hbc).mono Enc.pair_laws (Nat.le_refl _) hbc.size) (by omega) (hid fun p _ W hW=>holds1_any p x Q0 W ((hW.cell (p:=⟨Q0,0,none⟩) mxc.lt).trans ((mxc.cell 0).trans rfl))))
  have c3:wc.cell? ⟨w.heap.size,3,none⟩=some (.slice VA r3.length Vc):=(mrc.cell 3).trans rfl;generalize r3.any (inR x)=X at *;clear HX MX7 MO7 MR7 HB7 kx fx k1 hbc mrc moc mxc HVl
  go_wp2_with fail
  refine HC.out.mono ?_;clear HC;rintro e wd ⟨rfl,hbd⟩;have HBd:=hid (HBc.out.trans (hbd.mono HBc.out.size));have d0:wd.cell? ⟨w.heap.size,0,none⟩=some (.int .u8 r0.toNat):=((MRc.out.below hbd MRc.out.lt).cell 0).trans rfl;have d2:wd.cell? ⟨w.heap.size,2,none⟩=some (.bool r2):=((MRc.out.below hbd MRc.out.lt).cell 2).trans rfl;have d4:wd.cell? ⟨w.heap.size+1,4,none⟩=some (.int .i64 o.t):=((MOc.out.below hbd MOc.out.lt).cell 4).trans rfl;clear hbd c3 HBc MRc MOc;cases X with
  | false=>
    have HE2:Hid (hold1 o ⟨r0,r1,r2,r3⟩=r2):=hid (by rw[HE.out,Bool.false_and];cases r2 <;> rfl)
    clear HE
    go_wp2_with fail
    go_ret
    exact⟨by rw[HE2.out];rfl,HBd.out⟩
  | true=>
    by_cases hn:r0=110
    ·have hn':(((r0.toNat:Nat):Int) != 110)=false:=by rw[hn];rfl
     have HE2:Hid (hold1 o ⟨r0,r1,r2,r3⟩=((o.t == 0) != r2)):=hid (by rw[HE.out,hn];simp)
     clear HE hn
     go_wp2_with fail
     go_ret
     exact⟨by rw[HE2.out];rfl,HBd.out⟩
    ·have hn':(((r0.toNat:Nat):Int) != 110)=true:=by
      rw[bne_iff_ne];intro h;exact hn (UInt8.toNat_inj.1 (by show r0.toNat=110;omega))
     have hn2:(r0 != 110)=true:=by rw[bne_iff_ne];exact hn
     have HE2:Hid (hold1 o ⟨r0,r1,r2,r3⟩= !r2):=hid (by rw[HE.out,hn2];cases r2 <;> rfl)
     clear hn2;clear HE hn
     go_wp2_with fail
     go_ret
     exact⟨by rw[HE2.out];rfl,HBd.out⟩
theorem notHolds_any (r:Rl) (V:Value) (o:OpV) (q0 lo:Nat) (w:World) (ho:o.Ok) (hop:r.op∈opsR) (hm0:0≤r.mod) (hV:ListOk Enc.pair w lo w.heap.size V r.rng) (hn:r.rng.length≤10000000) (hq:Blk w q0 97 #[.int .i64 o.i,.int .i64 o.v,.int .i64 o.w,.int .i64 o.f,.int .i64 o.t]):
 Calls Tryz.prog 104 #[.agg #[.int .u8 r.op.toNat,.int .i64 r.mod,.bool r.neg,V],.pointer (some ⟨q0,0,none⟩)] w fun e w'=>e=.returned (.bool (!hold1 o r))∧Below w.heap.size w w':=by
 obtain⟨VA,Vc,rfl,_⟩:=hV.form;obtain⟨W1,eW1⟩:∃ W1,W1=w.alloc (.cells #[.int .u8 r.op.toNat,.int .i64 r.mod,.bool r.neg,.slice VA r.rng.length Vc] 162):=⟨_,rfl⟩;have hb1:Below w.heap.size w W1:=by rw[eW1];exact(Below.refl _ _).alloc (Nat.le_refl _) _
 have m1:Blk W1 w.heap.size 162 #[.int .u8 r.op.toNat,.int .i64 r.mod,.bool r.neg,.slice VA r.rng.length Vc]:=by rw[eW1];exact Blk.new _ _ _
 have HC:=hid (holds_any r _ o lo W1 ho hop hm0 ((hV.below Enc.pair_laws hb1).mono Enc.pair_laws (Nat.le_refl _) hb1.size) hn);have mq:Blk W1 q0 97 #[.int .i64 o.i,.int .i64 o.v,.int .i64 o.w,.int .i64 o.f,.int .i64 o.t]:=hq.below hb1 hq.lt;have a0:W1.cell? ⟨w.heap.size,0,none⟩=some (.int .u8 r.op.toNat):=(m1.cell 0).trans rfl;have a1:W1.cell? ⟨w.heap.size,1,none⟩=some (.int .i64 r.mod):=(m1.cell 1).trans rfl;have a2:W1.cell? ⟨w.heap.size,2,none⟩=some (.bool r.neg):=(m1.cell 2).trans rfl;have a3:W1.cell? ⟨w.heap.size,3,none⟩=some (.slice VA r.rng.length Vc):=(m1.cell 3).trans rfl;have b0:W1.cell? ⟨q0,0,none⟩=some (.int .i64 o.i):=(mq.cell 0).trans rfl;have b1:W1.cell? ⟨q0,1,none⟩=some (.int .i64 o.v):=(mq.cell 1).trans rfl;have b2:W1.cell? ⟨q0,2,none⟩=some (.int .i64 o.w):=(mq.cell 2).trans rfl;have b3:W1.cell? ⟨q0,3,none⟩=some (.int .i64 o.f):=(mq.cell 3).trans rfl;have b4:W1.cell? ⟨q0,4,none⟩=some (.int .i64 o.t):=(mq.cell 4).trans rfl;have HB1:=hid hb1;have HW1:=hid eW1;generalize hold1 o r=X at *;clear hV hq eW1 hb1 m1 mq
 go_enter Tryz.func104,Tryz.ntmps104
 go_upto_region 1 with fail
 rw[←HW1.out];clear HW1
 go_wp2_with fail
 refine HC.out.mono ?_;clear HC;rintro e w2 ⟨rfl,hb2⟩;have HB2:=hid (HB1.out.trans (hb2.mono HB1.out.size));clear hb2
 go_wp2_with fail
 go_ret
 exact⟨rfl,HB2.out⟩
structure RlAsk (r:Rl):Prop where
 op:r.op∈opsR
 mod:0≤r.mod
 len:r.rng.length≤10000000
theorem holdPart_any (p:List Rl) (V:Value) (o:OpV) (q0 lo:Nat) (w:World) (ho:o.Ok) (hp:∀ r∈p,RlAsk r) (hV:ListOk Enc.rl w lo w.heap.size V p) (hn:p.length≤10000000) (hq:Blk w q0 97 #[.int .i64 o.i,.int .i64 o.v,.int .i64 o.w,.int .i64 o.f,.int .i64 o.t]):
 Calls Tryz.prog 102 #[V,.pointer (some ⟨q0,0,none⟩)] w fun e w'=>e=.returned (.bool (holdP o p))∧Below w.heap.size w w':=by
 have HC:=hid (containsR_any p V q0 (fun r=> !hold1 o r) lo w hV (by omega) (hid fun x hx W hW V' hV'=>notHolds_any x V' o q0 lo W ho (hp x hx).op (hp x hx).mod hV' (hp x hx).len (hq.below hW hq.lt)))
 have HE:Hid (holdP o p= !(p.any fun r=> !hold1 o r)):=hid rfl;generalize (p.any fun r=> !hold1 o r)=X at *;clear hp hV hq
 go_enter Tryz.func102,Tryz.ntmps102
 go_wp2_with fail
 refine HC.out.mono ?_;clear HC;rintro e w2 ⟨rfl,hb2⟩;have HB2:=hid hb2;clear hb2
 go_wp2_with fail
 go_ret
 exact⟨by rw[HE.out];rfl,HB2.out⟩
end Go.Proofs.YtagfnpdoooachaaGreatDoor
