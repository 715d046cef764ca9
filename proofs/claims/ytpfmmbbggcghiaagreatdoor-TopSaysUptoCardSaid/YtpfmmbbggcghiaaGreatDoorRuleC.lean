/- The variables that a saying reads; eval.Numeral. -/
import Derived.Test.YtpfmmbbggcghiaaGreatDoorFmtB
set_option linter.unusedSimpArgs false
set_option linter.unusedVariables false
set_option maxHeartbeats 6400000
set_option maxRecDepth 100000
namespace Go.Proofs.YtpfmmbbggcghiaaGreatDoor
open Go.RowKit
open Lib (hid)
def patC:List Value:=[.string ⟨#[]⟩,.string ⟨#[]⟩,.int .i64 1,.int .i64 0,.int .i64 3,.int .i64 3,.int .i64 0]
def symC:List Value:=[.int .u8 46,.int .u8 44]
def kindC:List ByteArray:=[⟨#[122,101,114,111]⟩,⟨#[111,110,101]⟩,⟨#[116,119,111]⟩,⟨#[102,101,119]⟩,⟨#[109,97,110,121]⟩]
structure EvV (w:World):Prop where
 mv:MV w
 rv:RV w
 pat:∀ j (h:j < patC.length),w.cell? ⟨0,j,none⟩=some patC[j]
 sym:∀ j (h:j < symC.length),w.cell? ⟨1,j,none⟩=some symC[j]
 knd:∀ j (h:j < kindC.length),w.cell? ⟨3,j,none⟩=some (.string kindC[j])
theorem EvV.below {w w':World} (h:EvV w) (hb:Below w.heap.size w w'):EvV w':=
 ⟨h.mv.below hb,h.rv.below hb,fun j hj=>(hb.cell (p:=⟨_,j,none⟩) (cellLt (h.pat j hj))).trans (h.pat j hj),fun j hj=>(hb.cell (p:=⟨_,j,none⟩) (cellLt (h.sym j hj))).trans (h.sym j hj),fun j hj=>(hb.cell (p:=⟨_,j,none⟩) (cellLt (h.knd j hj))).trans (h.knd j hj)⟩
theorem numeral_any (d:DecV) (w:World) (hv:EvV w):Calls Tryz.prog 54 #[d.v] w fun e w'=>e=.returned (.tuple #[.string (str (numT d)),errD (numE d)])∧Below w.heap.size w w':=by
 have hb1:Below w.heap.size w (w.alloc (.cells #[.int .i64 d.coef,.int .i64 d.scale] 65)):=(Below.refl _ _).alloc (Nat.le_refl _) _;have HB1:=hid hb1;have hv1:=hv.below hb1;have HF:=hid (format_any d (w.alloc (.cells #[.int .i64 d.coef,.int .i64 d.scale] 65)) hv1.mv hv1.rv);have p0:=hv1.pat 0 (by decide)
 have p1:=hv1.pat 1 (by decide)
 have p2:=hv1.pat 2 (by decide)
 have p3:=hv1.pat 3 (by decide)
 have p4:=hv1.pat 4 (by decide)
 have p5:=hv1.pat 5 (by decide)
 have p6:=hv1.pat 6 (by decide)
 have q0:=hv1.sym 0 (by decide)
 have q1:=hv1.sym 1 (by decide)
 simp only[patC,symC,List.getElem_cons_zero,List.getElem_cons_succ]at p0 p1 p2 p3 p4 p5 p6 q0 q1;unfold patV symV DecV.v at *;clear hv hv1 hb1;generalize str (numT d)=T at *;have herr:∃ v,errD (numE d)=v:=⟨_,rfl⟩;obtain⟨er,her⟩:=herr;rw[her]at HF ⊢;clear her
 go_enter Tryz.func54,Tryz.ntmps54
 go_wp2_with fail
 refine HF.out.mono ?_;clear HF;rintro e w2 ⟨rfl,hb2⟩;have HB2:=hid (HB1.out.trans (hb2.mono HB1.out.size));clear hb2
 go_wp2_with fail
 go_ret2
 exact⟨rfl,HB2.out⟩
def idxOf {α:Type} (l:List α) (T:α→Bool):Int:=match l.findIdx? T with|some i=>i|none=> -1
theorem idx_hit {α:Type} {l:List α} {T:α→Bool} {j:Nat} (h:j < l.length) (hp:T l[j]=true) (hno:∀ q (h:q < l.length),q < j→T l[q]=false):idxOf l T=j:=by
 unfold idxOf;rw[findIdx_at l T j h hp hno]
theorem idx_no {α:Type} {l:List α} {T:α→Bool} (hno:∀ q (h:q < l.length),T l[q]=false):idxOf l T= -1:=by
 unfold idxOf;rw[findIdx_none l T hno]
theorem idx_any {α:Type} (l:List α) (T:α→Bool):decide (0≤idxOf l T)=l.any T:=by
 unfold idxOf;cases h:l.findIdx? T with
 | none=>
   rw[List.findIdx?_eq_none_iff]at h;have:l.any T=false:=by rw[List.any_eq_false];intro x hx;simp[h x hx]
   rw[this];decide
 | some i=>
   rw[List.findIdx?_eq_some_iff_getElem]at h;obtain⟨hi,hp,_⟩:=h;rw[any_of_at l T i hi hp];simp
theorem indexF_any (l:List (Int×Int)) (v:Value) (T:(Int×Int)→Bool) (lo:Nat) (w:World) (hv:ListOk Enc.pair w lo w.heap.size v l) (hn:l.length≤1000000000)
 (HT:Hid (∀ x∈l,∀ W,Below w.heap.size w W→Calls Tryz.prog 233 #[.agg #[.int .i64 x.1,.int .i64 x.2]] W fun e w'=>e=.returned (.bool (T x))∧Below W.heap.size W w')):
 Calls Tryz.prog 234 #[v,.func (.func 233) #[] #[]] w fun e w'=>e=.returned (.int .i64 (idxOf l T))∧Below w.heap.size w w':=by
 obtain⟨A,c,rfl,hc⟩:=hv.form;have HV:Hid (∀ W,Below w.heap.size w W→ListOk Enc.pair W lo w.heap.size (.slice A l.length c) l):=hid fun W hW=>hv.below Enc.pair_laws hW;clear hv
 go_enter Tryz.func234,Tryz.ntmps234
 go_wp2_with fail
 go_loopw [5,8] (fun _ i wr=>∃ j:Nat,j≤l.length∧i=.int .i64 (j:Int)∧Hid (∀ q (h:q < l.length),q < j→T l[q]=false)∧Below w.heap.size w wr) (fun _ i _=>l.length - (intOf i).toNat)
 case atStart=>exact⟨0,Nat.zero_le _,rfl,hid fun q _ h=>absurd h (Nat.not_lt_zero _),Below.refl _ _⟩
 case round=>
  obtain⟨j,hj,rfl,HNo,hb⟩:=hrel;have HB:=hid hb;have hbs:=hb.size
  by_cases hlt:j < l.length
  ·have hx:l[j]∈l:=List.getElem_mem hlt;have HTj:=hid (HT.out l[j] hx);obtain⟨X,hX⟩:∃ X,X=T l[j]:=⟨_,rfl⟩;have HX:Hid (X=T l[j]):=hid hX;rw[←hX]at HTj;have HI1:Hid (X=true→idxOf l T=(j:Int)):=hid fun h=>idx_hit hlt (HX.out.symm.trans h) HNo.out;have HI2:Hid (X=false→∀ q (h:q < l.length),q < j+1→T l[q]=false):=hid fun h=>step_no l T j HNo.out fun _=>HX.out.symm.trans h;clear HX HNo;obtain⟨b0,o0,rfl,hb1,hb2,x0,x1⟩:=(HV.out _ hb).pairAt j hlt;generalize l[j]=e at *;obtain⟨e0,e1⟩:=e;dsimp only at x0 x1 HTj;have HTw:=hid (HTj.out wr hb);clear hb hx hX;have i1:(0:Int)≤(j:Int):=Int.natCast_nonneg j;have i2:(j:Int) < (l.length:Int):=by omega
   clear HTj HT
   go_wp2_with fail
   refine HTw.out.mono ?_;clear HTw;rintro e w1 ⟨rfl,hb1'⟩;have HB1:=hid (HB.out.trans (hb1'.mono hbs));clear hb1';cases X with
   | true=>
     have HI:Hid (idxOf l T=(j:Int)):=hid (HI1.out rfl);clear HI1 HI2
     go_wp2_with fail
     go_ret
     exact⟨by rw[HI.out];rfl,HB1.out⟩
   | false=>
     have HN2:Hid (∀ q (h:q < l.length),q < j+1→T l[q]=false):=hid (HI2.out rfl);clear HI1 HI2
     go_wp2_with fail
     go_roundw
     case rel=>exact⟨j+1,by omega,by go_num,HN2,HB1.out⟩
     case measure=>simp[intOf];omega
  ·obtain rfl:j=l.length:=by omega
   have HI:Hid (idxOf l T= -1):=hid (idx_no fun q h=>HNo.out q h h);clear hb HNo
   go_wp2_with fail
   go_ret
   exact⟨by rw[HI.out];rfl,HB.out⟩
theorem containsF_any (l:List (Int×Int)) (v:Value) (T:(Int×Int)→Bool) (lo:Nat) (w:World) (hv:ListOk Enc.pair w lo w.heap.size v l) (hn:l.length≤1000000000)
 (HT:Hid (∀ x∈l,∀ W,Below w.heap.size w W→Calls Tryz.prog 233 #[.agg #[.int .i64 x.1,.int .i64 x.2]] W fun e w'=>e=.returned (.bool (T x))∧Below W.heap.size W w')):
 Calls Tryz.prog 219 #[v,.func (.func 233) #[] #[]] w fun e w'=>e=.returned (.bool (l.any T))∧Below w.heap.size w w':=by
 have HI:=hid (indexF_any l v T lo w hv hn HT);have HE:=hid (idx_any l T);clear HT hv;generalize idxOf l T=I at *;generalize l.any T=X at*
 go_enter Tryz.func219,Tryz.ntmps219
 go_wp2_with fail
 refine HI.out.mono ?_;clear HI;rintro e w1 ⟨rfl,hb⟩;have HB:=hid hb;clear hb
 go_wp2_with fail
 go_ret
 exact⟨by rw[←HE.out];rfl,HB.out⟩
theorem indexH_any (l:List (Int×Int)) (v:Value) (q0:Nat) (T:(Int×Int)→Bool) (lo:Nat) (w:World) (hv:ListOk Enc.pair w lo w.heap.size v l) (hn:l.length≤1000000000)
 (HT:Hid (∀ x∈l,∀ W,Below w.heap.size w W→Calls Tryz.prog 220 #[.agg #[.int .i64 x.1,.int .i64 x.2],.pointer (some ⟨q0,0,none⟩)] W fun e w'=>e=.returned (.bool (T x))∧Below W.heap.size W w')):
 Calls Tryz.prog 234 #[v,.func (.func 220) #[] #[.pointer (some ⟨q0,0,none⟩)]] w fun e w'=>e=.returned (.int .i64 (idxOf l T))∧Below w.heap.size w w':=by
 obtain⟨A,c,rfl,hc⟩:=hv.form;have HV:Hid (∀ W,Below w.heap.size w W→ListOk Enc.pair W lo w.heap.size (.slice A l.length c) l):=hid fun W hW=>hv.below Enc.pair_laws hW;clear hv
 go_enter Tryz.func234,Tryz.ntmps234
 go_wp2_with fail
 go_loopw [5,8] (fun _ i wr=>∃ j:Nat,j≤l.length∧i=.int .i64 (j:Int)∧Hid (∀ q (h:q < l.length),q < j→T l[q]=false)∧Below w.heap.size w wr) (fun _ i _=>l.length - (intOf i).toNat)
 case atStart=>exact⟨0,Nat.zero_le _,rfl,hid fun q _ h=>absurd h (Nat.not_lt_zero _),Below.refl _ _⟩
 case round=>
  obtain⟨j,hj,rfl,HNo,hb⟩:=hrel;have HB:=hid hb;have hbs:=hb.size
  by_cases hlt:j < l.length
  ·have hx:l[j]∈l:=List.getElem_mem hlt;have HTj:=hid (HT.out l[j] hx);obtain⟨X,hX⟩:∃ X,X=T l[j]:=⟨_,rfl⟩;have HX:Hid (X=T l[j]):=hid hX;rw[←hX]at HTj;have HI1:Hid (X=true→idxOf l T=(j:Int)):=hid fun h=>idx_hit hlt (HX.out.symm.trans h) HNo.out;have HI2:Hid (X=false→∀ q (h:q < l.length),q < j+1→T l[q]=false):=hid fun h=>step_no l T j HNo.out fun _=>HX.out.symm.trans h;clear HX HNo;obtain⟨b0,o0,rfl,hb1,hb2,x0,x1⟩:=(HV.out _ hb).pairAt j hlt;generalize l[j]=e at *;obtain⟨e0,e1⟩:=e;dsimp only at x0 x1 HTj;have HTw:=hid (HTj.out wr hb);clear hb hx hX;have i1:(0:Int)≤(j:Int):=Int.natCast_nonneg j;have i2:(j:Int) < (l.length:Int):=by omega
   clear HTj HT
   go_wp2_with fail
   refine HTw.out.mono ?_;clear HTw;rintro e w1 ⟨rfl,hb1'⟩;have HB1:=hid (HB.out.trans (hb1'.mono hbs));clear hb1';cases X with
   | true=>
     have HI:Hid (idxOf l T=(j:Int)):=hid (HI1.out rfl);clear HI1 HI2
     go_wp2_with fail
     go_ret
     exact⟨by rw[HI.out];rfl,HB1.out⟩
   | false=>
     have HN2:Hid (∀ q (h:q < l.length),q < j+1→T l[q]=false):=hid (HI2.out rfl);clear HI1 HI2
     go_wp2_with fail
     go_roundw
     case rel=>exact⟨j+1,by omega,by go_num,HN2,HB1.out⟩
     case measure=>simp[intOf];omega
  ·obtain rfl:j=l.length:=by omega
   have HI:Hid (idxOf l T= -1):=hid (idx_no fun q h=>HNo.out q h h);clear hb HNo
   go_wp2_with fail
   go_ret
   exact⟨by rw[HI.out];rfl,HB.out⟩
theorem containsH_any (l:List (Int×Int)) (v:Value) (q0:Nat) (T:(Int×Int)→Bool) (lo:Nat) (w:World) (hv:ListOk Enc.pair w lo w.heap.size v l) (hn:l.length≤1000000000)
 (HT:Hid (∀ x∈l,∀ W,Below w.heap.size w W→Calls Tryz.prog 220 #[.agg #[.int .i64 x.1,.int .i64 x.2],.pointer (some ⟨q0,0,none⟩)] W fun e w'=>e=.returned (.bool (T x))∧Below W.heap.size W w')):
 Calls Tryz.prog 219 #[v,.func (.func 220) #[] #[.pointer (some ⟨q0,0,none⟩)]] w fun e w'=>e=.returned (.bool (l.any T))∧Below w.heap.size w w':=by
 have HI:=hid (indexH_any l v q0 T lo w hv hn HT);have HE:=hid (idx_any l T);clear HT hv;generalize idxOf l T=I at *;generalize l.any T=X at*
 go_enter Tryz.func219,Tryz.ntmps219
 go_wp2_with fail
 refine HI.out.mono ?_;clear HI;rintro e w1 ⟨rfl,hb⟩;have HB:=hid hb;clear hb
 go_wp2_with fail
 go_ret
 exact⟨by rw[←HE.out];rfl,HB.out⟩
theorem indexR_any (l:List Rl) (v:Value) (q0:Nat) (T:Rl→Bool) (lo:Nat) (w:World) (hv:ListOk Enc.rl w lo w.heap.size v l) (hn:l.length≤1000000000)
 (HT:Hid (∀ x∈l,∀ W,Below w.heap.size w W→∀ V,ListOk Enc.pair W lo W.heap.size V x.rng→Calls Tryz.prog 192 #[.agg #[.int .u8 x.op.toNat,.int .i64 x.mod,.bool x.neg,V],.pointer (some ⟨q0,0,none⟩)] W fun e w'=>e=.returned (.bool (T x))∧Below W.heap.size W w')):
 Calls Tryz.prog 218 #[v,.func (.func 192) #[] #[.pointer (some ⟨q0,0,none⟩)]] w fun e w'=>e=.returned (.int .i64 (idxOf l T))∧Below w.heap.size w w':=by
 obtain⟨A,c,rfl,hc⟩:=hv.form;have HV:Hid (∀ W,Below w.heap.size w W→ListOk Enc.rl W lo w.heap.size (.slice A l.length c) l):=hid fun W hW=>hv.below Enc.rl_laws hW;clear hv
 go_enter Tryz.func218,Tryz.ntmps218
 go_wp2_with fail
 go_loopw [5,8] (fun _ i wr=>∃ j:Nat,j≤l.length∧i=.int .i64 (j:Int)∧Hid (∀ q (h:q < l.length),q < j→T l[q]=false)∧Below w.heap.size w wr) (fun _ i _=>l.length - (intOf i).toNat)
 case atStart=>exact⟨0,Nat.zero_le _,rfl,hid fun q _ h=>absurd h (Nat.not_lt_zero _),Below.refl _ _⟩
 case round=>
  obtain⟨j,hj,rfl,HNo,hb⟩:=hrel;have HB:=hid hb;have hbs:=hb.size
  by_cases hlt:j < l.length
  ·have hx:l[j]∈l:=List.getElem_mem hlt;have HTj:=hid (HT.out l[j] hx);obtain⟨X,hX⟩:∃ X,X=T l[j]:=⟨_,rfl⟩;have HX:Hid (X=T l[j]):=hid hX;rw[←hX]at HTj;have HI1:Hid (X=true→idxOf l T=(j:Int)):=hid fun h=>idx_hit hlt (HX.out.symm.trans h) HNo.out;have HI2:Hid (X=false→∀ q (h:q < l.length),q < j+1→T l[q]=false):=hid fun h=>step_no l T j HNo.out fun _=>HX.out.symm.trans h;clear HX HNo;obtain⟨b0,o0,V,rfl,hb1,hb2,x0,x1,x2,x3,hV⟩:=(HV.out _ hb).rlAt j hlt;generalize l[j]=e at *;obtain⟨e0,e1,e2,e3⟩:=e;dsimp only at x0 x1 x2 x3 hV HTj;obtain⟨VA,Vc,rfl,_⟩:=hV.form;have HTw:=hid (HTj.out wr hb _ (hV.mono Enc.pair_laws (Nat.le_refl _) hbs));clear hV;clear hb hx hX;have i1:(0:Int)≤(j:Int):=Int.natCast_nonneg j;have i2:(j:Int) < (l.length:Int):=by omega
   clear HTj HT
   go_wp2_with fail
   refine HTw.out.mono ?_;clear HTw;rintro e w1 ⟨rfl,hb1'⟩;have HB1:=hid (HB.out.trans (hb1'.mono hbs));clear hb1';cases X with
   | true=>
     have HI:Hid (idxOf l T=(j:Int)):=hid (HI1.out rfl);clear HI1 HI2
     go_wp2_with fail
     go_ret
     exact⟨by rw[HI.out];rfl,HB1.out⟩
   | false=>
     have HN2:Hid (∀ q (h:q < l.length),q < j+1→T l[q]=false):=hid (HI2.out rfl);clear HI1 HI2
     go_wp2_with fail
     go_roundw
     case rel=>exact⟨j+1,by omega,by go_num,HN2,HB1.out⟩
     case measure=>simp[intOf];omega
  ·obtain rfl:j=l.length:=by omega
   have HI:Hid (idxOf l T= -1):=hid (idx_no fun q h=>HNo.out q h h);clear hb HNo
   go_wp2_with fail
   go_ret
   exact⟨by rw[HI.out];rfl,HB.out⟩
theorem containsR_any (l:List Rl) (v:Value) (q0:Nat) (T:Rl→Bool) (lo:Nat) (w:World) (hv:ListOk Enc.rl w lo w.heap.size v l) (hn:l.length≤1000000000)
 (HT:Hid (∀ x∈l,∀ W,Below w.heap.size w W→∀ V,ListOk Enc.pair W lo W.heap.size V x.rng→Calls Tryz.prog 192 #[.agg #[.int .u8 x.op.toNat,.int .i64 x.mod,.bool x.neg,V],.pointer (some ⟨q0,0,none⟩)] W fun e w'=>e=.returned (.bool (T x))∧Below W.heap.size W w')):
 Calls Tryz.prog 191 #[v,.func (.func 192) #[] #[.pointer (some ⟨q0,0,none⟩)]] w fun e w'=>e=.returned (.bool (l.any T))∧Below w.heap.size w w':=by
 have HI:=hid (indexR_any l v q0 T lo w hv hn HT);have HE:=hid (idx_any l T);clear HT hv;generalize idxOf l T=I at *;generalize l.any T=X at*
 go_enter Tryz.func191,Tryz.ntmps191
 go_wp2_with fail
 refine HI.out.mono ?_;clear HI;rintro e w1 ⟨rfl,hb⟩;have HB:=hid hb;clear hb
 go_wp2_with fail
 go_ret
 exact⟨by rw[←HE.out];rfl,HB.out⟩
theorem indexL_any (l:List (List Rl)) (v:Value) (q0:Nat) (T:(List Rl)→Bool) (lo:Nat) (w:World) (hv:ListOk (Enc.list Enc.rl) w lo w.heap.size v l) (hn:l.length≤1000000000)
 (HT:Hid (∀ x∈l,∀ W,Below w.heap.size w W→∀ V,ListOk Enc.rl W lo W.heap.size V x→Calls Tryz.prog 190 #[V,.pointer (some ⟨q0,0,none⟩)] W fun e w'=>e=.returned (.bool (T x))∧Below W.heap.size W w')):
 Calls Tryz.prog 217 #[v,.func (.func 190) #[] #[.pointer (some ⟨q0,0,none⟩)]] w fun e w'=>e=.returned (.int .i64 (idxOf l T))∧Below w.heap.size w w':=by
 obtain⟨A,c,rfl,hc⟩:=hv.form;have HV:Hid (∀ W,Below w.heap.size w W→ListOk (Enc.list Enc.rl) W lo w.heap.size (.slice A l.length c) l):=hid fun W hW=>hv.below (Enc.list_laws Enc.rl_laws) hW;clear hv
 go_enter Tryz.func217,Tryz.ntmps217
 go_wp2_with fail
 go_loopw [5,8] (fun _ i wr=>∃ j:Nat,j≤l.length∧i=.int .i64 (j:Int)∧Hid (∀ q (h:q < l.length),q < j→T l[q]=false)∧Below w.heap.size w wr) (fun _ i _=>l.length - (intOf i).toNat)
 case atStart=>exact⟨0,Nat.zero_le _,rfl,hid fun q _ h=>absurd h (Nat.not_lt_zero _),Below.refl _ _⟩
 case round=>
  obtain⟨j,hj,rfl,HNo,hb⟩:=hrel;have HB:=hid hb;have hbs:=hb.size
  by_cases hlt:j < l.length
  ·have hx:l[j]∈l:=List.getElem_mem hlt;have HTj:=hid (HT.out l[j] hx);obtain⟨X,hX⟩:∃ X,X=T l[j]:=⟨_,rfl⟩;have HX:Hid (X=T l[j]):=hid hX;rw[←hX]at HTj;have HI1:Hid (X=true→idxOf l T=(j:Int)):=hid fun h=>idx_hit hlt (HX.out.symm.trans h) HNo.out;have HI2:Hid (X=false→∀ q (h:q < l.length),q < j+1→T l[q]=false):=hid fun h=>step_no l T j HNo.out fun _=>HX.out.symm.trans h;clear HX HNo;obtain⟨b0,o0,V,rfl,hb1,hb2,x0,hV⟩:=(HV.out _ hb).listAt j hlt;generalize l[j]=e at *;obtain⟨VA,Vc,rfl,_⟩:=hV.form;have HTw:=hid (HTj.out wr hb _ (hV.mono Enc.rl_laws (Nat.le_refl _) hbs));clear hV;clear hb hx hX;have i1:(0:Int)≤(j:Int):=Int.natCast_nonneg j;have i2:(j:Int) < (l.length:Int):=by omega
   clear HTj HT
   go_wp2_with fail
   refine HTw.out.mono ?_;clear HTw;rintro e w1 ⟨rfl,hb1'⟩;have HB1:=hid (HB.out.trans (hb1'.mono hbs));clear hb1';cases X with
   | true=>
     have HI:Hid (idxOf l T=(j:Int)):=hid (HI1.out rfl);clear HI1 HI2
     go_wp2_with fail
     go_ret
     exact⟨by rw[HI.out];rfl,HB1.out⟩
   | false=>
     have HN2:Hid (∀ q (h:q < l.length),q < j+1→T l[q]=false):=hid (HI2.out rfl);clear HI1 HI2
     go_wp2_with fail
     go_roundw
     case rel=>exact⟨j+1,by omega,by go_num,HN2,HB1.out⟩
     case measure=>simp[intOf];omega
  ·obtain rfl:j=l.length:=by omega
   have HI:Hid (idxOf l T= -1):=hid (idx_no fun q h=>HNo.out q h h);clear hb HNo
   go_wp2_with fail
   go_ret
   exact⟨by rw[HI.out];rfl,HB.out⟩
theorem containsL_any (l:List (List Rl)) (v:Value) (q0:Nat) (T:(List Rl)→Bool) (lo:Nat) (w:World) (hv:ListOk (Enc.list Enc.rl) w lo w.heap.size v l) (hn:l.length≤1000000000)
 (HT:Hid (∀ x∈l,∀ W,Below w.heap.size w W→∀ V,ListOk Enc.rl W lo W.heap.size V x→Calls Tryz.prog 190 #[V,.pointer (some ⟨q0,0,none⟩)] W fun e w'=>e=.returned (.bool (T x))∧Below W.heap.size W w')):
 Calls Tryz.prog 189 #[v,.func (.func 190) #[] #[.pointer (some ⟨q0,0,none⟩)]] w fun e w'=>e=.returned (.bool (l.any T))∧Below w.heap.size w w':=by
 have HI:=hid (indexL_any l v q0 T lo w hv hn HT);have HE:=hid (idx_any l T);clear HT hv;generalize idxOf l T=I at *;generalize l.any T=X at*
 go_enter Tryz.func189,Tryz.ntmps189
 go_wp2_with fail
 refine HI.out.mono ?_;clear HI;rintro e w1 ⟨rfl,hb⟩;have HB:=hid hb;clear hb
 go_wp2_with fail
 go_ret
 exact⟨by rw[←HE.out];rfl,HB.out⟩
theorem fine_gen (r:Rl) (V:Value) (lo:Nat) (w:World) (hV:ListOk Enc.pair w lo w.heap.size V r.rng) (hn:r.rng.length≤10000000)
 (HAny:Hid (∀ W,Below w.heap.size w W→Calls Tryz.prog 219 #[V,.func (.func 233) #[] #[]] W fun e w'=>e=.returned (.bool (r.rng.any fun p=> !rngOk p))∧Below W.heap.size W w')):
 Calls Tryz.prog 216 #[.agg #[.int .u8 r.op.toNat,.int .i64 r.mod,.bool r.neg,V]] w fun e w'=>e=.returned (.bool (fineR r))∧Below w.heap.size w w':=by
 obtain⟨VA,Vc,rfl,_⟩:=hV.form;obtain⟨W1,eW1⟩:∃ W1,W1=w.alloc (.cells #[.int .u8 r.op.toNat,.int .i64 r.mod,.bool r.neg,.slice VA r.rng.length Vc] 307):=⟨_,rfl⟩;have hb1:Below w.heap.size w W1:=by rw[eW1];exact(Below.refl _ _).alloc (Nat.le_refl _) _
 have m1:Blk W1 w.heap.size 307 #[.int .u8 r.op.toNat,.int .i64 r.mod,.bool r.neg,.slice VA r.rng.length Vc]:=by rw[eW1];exact Blk.new _ _ _
 have HB1:=hid hb1;have M1:=hid m1;have HW1:=hid eW1;have HC:=hid (containsRune_any r.op W1);have k0:W1.cell? ⟨w.heap.size,0,none⟩=some (.int .u8 r.op.toNat):=(m1.cell 0).trans rfl;have h32:wrap32 (r.op.toNat:Int)=r.op.toNat:=by have:=r.op.toNat_lt;unfold wrap32;omega
 clear hV eW1 hb1 m1
 go_enter Tryz.func216,Tryz.ntmps216
 go_upto_region 1 with fail
 rw[←HW1.out];clear HW1
 go_wp2_with fail
 refine HC.out.mono ?_;clear HC;rintro e w2 ⟨rfl,hb2⟩;have HB2:=hid (HB1.out.trans (hb2.mono HB1.out.size));have M2:=hid (M1.out.below hb2 M1.out.lt);clear hb2 k0 HB1 M1 h32;have k1:=(M2.out.cell 1).trans (show _=some (.int .i64 r.mod)from rfl);have k3:=(M2.out.cell 3).trans (show _=some (.slice VA r.rng.length Vc)from rfl);have C:=hid (HAny.out _ HB2.out);have hall:(r.rng.any fun p=> !rngOk p)= !(r.rng.all rngOk):=by rw[Bool.eq_iff_iff];simp
 rw[hall]at C;have HF:Hid (fineR r=(opsR.contains r.op && decide (0≤r.mod) && decide (r.mod≤1000000) && !r.rng.isEmpty && r.rng.all rngOk)):=hid rfl;have hem:r.rng.isEmpty=decide (r.rng.length=0):=by cases r.rng <;> simp
 rw[hem]at HF;clear HAny M2 hall hem;generalize r.rng.all rngOk=al at *;generalize r.rng.length=n at *;generalize r.mod=m at *;cases hc:opsR.contains r.op with
 | false=>
   rw[hc]at HF
   go_wp2_with fail
   go_ret
   exact⟨by rw[HF.out];rfl,HB2.out⟩
 | true=>
   rw[hc]at HF
   by_cases h1:m < 0
   ·have HF':fineR r=false:=by rw[HF.out];simp;omega
    have HFF:=hid HF';clear HF HF' C
    go_wp2_with fail
    go_ret
    exact⟨by rw[HFF.out];rfl,HB2.out⟩
   ·by_cases h2:1000000 < m
    ·have HF':fineR r=false:=by rw[HF.out];simp;omega
     have HFF:=hid HF';clear HF HF' C
     go_wp2_with fail
     go_ret
     exact⟨by rw[HFF.out];rfl,HB2.out⟩
    ·by_cases h3:n=0
     ·have HF':fineR r=false:=by rw[HF.out];simp[h3]
      have HFF:=hid HF';subst h3;clear HF HF' C
      go_wp2_with fail
      go_ret
      exact⟨by rw[HFF.out];rfl,HB2.out⟩
     ·have hq:((n:Int) == 0)=false:=by rw[beq_eq_false_iff_ne];omega
      have HF':fineR r=al:=by rw[HF.out];simp[h3];omega
      have HFF:=hid HF';clear HF HF' h3
      go_wp2_with fail
      refine C.out.mono ?_;clear C;rintro e w3 ⟨rfl,hb3⟩;have HB3:=hid (HB2.out.trans (hb3.mono HB2.out.size));clear hb3
      go_wp2_with fail
      go_ret
      exact⟨by rw[HFF.out];simp[ret_bool],HB3.out⟩
theorem fine_any (r:Rl) (V:Value) (lo:Nat) (w:World) (hV:ListOk Enc.pair w lo w.heap.size V r.rng) (hn:r.rng.length≤10000000):
 Calls Tryz.prog 216 #[.agg #[.int .u8 r.op.toNat,.int .i64 r.mod,.bool r.neg,V]] w fun e w'=>e=.returned (.bool (fineR r))∧Below w.heap.size w w':=
 fine_gen r V lo w hV hn (hid fun W hW=>containsF_any r.rng V (fun p=> !rngOk p) lo W ((hV.below Enc.pair_laws hW).mono Enc.pair_laws (Nat.le_refl _) hW.size) (by omega) (hid fun x _ W' _=>fine1_any x W'))
theorem checkR_bad {R:List (List Rl)} {i:Nat} (h:i < R.length) (hb:partOk R[i]=false):checkR R=3:=by
 have h1:R.all partOk=false:=by
  rw[List.all_eq_false];exact⟨R[i],List.getElem_mem h,by simp[hb]⟩
 unfold checkR;rw[h1];simp
theorem partOk_bad {p:List Rl} {k:Nat} (h:k < p.length) (hb:fineR p[k]=false):partOk p=false:=by
 unfold partOk;have h1:p.all fineR=false:=by
  rw[List.all_eq_false];exact⟨p[k],List.getElem_mem h,by simp[hb]⟩
 rw[h1];simp
theorem partOk_good {p:List Rl} (h0:0 < p.length) (h:∀ k (hk:k < p.length),fineR p[k]=true):partOk p=true:=by
 unfold partOk;have h1:p.all fineR=true:=by
  rw[List.all_eq_true];intro x hx;obtain⟨k,hk,rfl⟩:=List.getElem_of_mem hx;exact h k hk
 rw[h1];have h2:p.isEmpty=false:=by rw[List.isEmpty_eq_false_iff];exact List.length_pos_iff.1 h0
 rw[h2];rfl
theorem checkR_good {R:List (List Rl)} (h0:0 < R.length) (h:∀ i (hi:i < R.length),partOk R[i]=true):checkR R=if 20 < countR R then 4 else 0:=by
 have h1:R.all partOk=true:=by
  rw[List.all_eq_true];intro x hx;obtain⟨k,hk,rfl⟩:=List.getElem_of_mem hx;exact h k hk
 have h2:R.isEmpty=false:=by rw[List.isEmpty_eq_false_iff];exact List.length_pos_iff.1 h0
 unfold checkR;rw[h1,h2];simp
theorem countR_take {R:List (List Rl)} {i:Nat} (h:i < R.length):countR (R.take (i+1))=countR (R.take i)+R[i].length:=by
 unfold countR;rw[List.take_succ_eq_append_getElem h,List.map_append,List.sum_append];simp
theorem countR_le {M:Nat}:∀(R:List (List Rl)),(∀ p∈R,p.length≤M)→countR R≤R.length*M
 | [],_=>by simp[countR]
 | p::R,h=>by
   have h1:=countR_le R fun q hq=>h q (List.mem_cons_of_mem _ hq);have h2:=h p (List.mem_cons_self ..);unfold countR at h1 ⊢;rw[List.map_cons,List.sum_cons,List.length_cons,Nat.add_mul,Nat.one_mul];omega
theorem rcheck_any (R:List (List Rl)) (v:Value) (lo:Nat) (w:World) (hv:ListOk (Enc.list Enc.rl) w lo w.heap.size v R) (h1:R.length≤10000000) (h2:∀ p∈R,p.length≤10000000) (h3:∀ p∈R,∀ r∈p,r.rng.length≤10000000):
 Calls Tryz.prog 188 #[v] w fun e w'=>e=.returned (errR (checkR R))∧Below w.heap.size w w':=by
 obtain⟨A,c,rfl,hc⟩:=hv.form;have HV:Hid (∀ W,Below w.heap.size w W→ListOk (Enc.list Enc.rl) W lo w.heap.size (.slice A R.length c) R):=hid fun W hW=>hv.below (Enc.list_laws Enc.rl_laws) hW;have H2:=hid h2;have H3:=hid h3;clear hv h2 h3
 by_cases h0:R.length=0
 ·have HE:Hid (errR (checkR R)=errR 3):=hid (by rw[List.length_eq_zero_iff.1 h0];rfl)
  have hq:((R.length:Int) == 0)=true:=by rw[h0];rfl
  rw[HE.out];clear HV
  go_enter Tryz.func188,Tryz.ntmps188
  go_wp2_with fail
  go_ret
  exact⟨rfl,Below.refl _ _⟩
 have hq:((R.length:Int) == 0)=false:=by rw[beq_eq_false_iff_ne];omega
 have HCn:Hid (∀ i,i≤R.length→countR (R.take i)≤100000000000000):=hid fun i hi=>by
  have h:=countR_le (M:=10000000) (R.take i) fun p hp=>H2.out p (List.mem_of_mem_take hp);rw[List.length_take]at h;omega
 have H0:Hid (0 < R.length):=hid (by omega)
 go_enter Tryz.func188,Tryz.ntmps188
 go_wp2_with fail
 go_loopw [3,5,7,14] (fun n _ _ i wr=>∃ j:Nat,j≤R.length∧i=.int .i64 (j:Int)∧n=.int .i64 (countR (R.take j):Int)∧Hid (∀ q (h:q < R.length),q < j→partOk R[q]=true)∧Below w.heap.size w wr) (fun _ _ _ i _=>R.length - (intOf i).toNat)
 case atStart=>exact⟨0,Nat.zero_le _,rfl,rfl,hid fun q _ h=>absurd h (Nat.not_lt_zero _),Below.refl _ _⟩
 case round=>
  obtain⟨j,hj,rfl,rfl,HNo,hb⟩:=hrel;have HB:=hid hb;have hbs:=hb.size;have hcn:=HCn.out j hj;obtain⟨cn,hcn0⟩:∃ cn,cn=countR (R.take j):=⟨_,rfl⟩;have HC0:=hid hcn0;rw[←hcn0]at hcn ⊢;clear hcn0
  by_cases hlt:j < R.length
  ·have HP:Hid (∃ p,p=R[j]):=hid ⟨_,rfl⟩;have hmem:R[j]∈R:=List.getElem_mem hlt;have hp2:=H2.out _ hmem;have hp3:=H3.out _ hmem;obtain⟨b0,o0,V,rfl,hb1,hb2,x0,hV⟩:=(HV.out _ hb).listAt j hlt;have HBad:Hid (partOk R[j]=false→checkR R=3):=hid fun h=>checkR_bad hlt h;have HTk:Hid (countR (R.take (j+1))=cn+R[j].length):=hid (by rw[countR_take hlt,HC0.out])
   have HNx:Hid (partOk R[j]=true→∀ q (h:q < R.length),q < j+1→partOk R[q]=true):=hid fun h q hq hq1=>by
    rcases Nat.lt_or_eq_of_le (Nat.le_of_lt_succ hq1)with e|e
    ·exact HNo.out q hq e
    ·subst e;exact h
   generalize R[j]=p at *;obtain⟨VA,Vc,rfl,_⟩:=hV.form;have HVp:Hid (∀ W,Below wr.heap.size wr W→ListOk Enc.rl W lo wr.heap.size (.slice VA p.length Vc) p):=hid fun W hW=>(hV.mono Enc.rl_laws (Nat.le_refl _) hbs).below Enc.rl_laws hW;have HP3:=hid hp3;clear hV hmem hb HP hp3;have i1:(0:Int)≤(j:Int):=Int.natCast_nonneg j;have i2:(j:Int) < (R.length:Int):=by omega
   by_cases hp0:p.length=0
   ·have hz:((p.length:Int) == 0)=true:=by rw[hp0];rfl
    have HE:Hid (checkR R=3):=hid (HBad.out (by rw[List.length_eq_zero_iff.1 hp0];rfl))
    clear HVp HNx HTk HBad HP3 hp0 hp2 H2 H3
    go_wp2_with fail
    go_ret
    exact⟨by rw[HE.out];rfl,HB.out⟩
   ·have hz:((p.length:Int) == 0)=false:=by rw[beq_eq_false_iff_ne];omega
    have h00:0 < p.length:=by omega
    obtain⟨b1,o1,V1,rfl,c1,c2,y0,y1,y2,y3,hV1⟩:=(HVp.out _ (Below.refl _ _)).rlAt 0 h00;have hr3:=HP3.out p[0] (List.getElem_mem h00);obtain⟨Y,hY⟩:∃ Y,Y=fineR p[0]:=⟨_,rfl⟩;have HY:=hid hY;have HF:=hid (fine_any p[0] V1 lo wr hV1 hr3);rw[←hY]at HF;have HB0:Hid (Y=false→checkR R=3):=hid fun h=>HBad.out (partOk_bad h00 (by rw[←HY.out];exact h))
    obtain⟨V1A,V1c,rfl,_⟩:=hV1.form;clear hV1 hr3 hY;generalize p[0]=e at *;obtain⟨e0,e1,e2,e3⟩:=e;dsimp only at y0 y1 y2 y3 HF;simp only[Nat.zero_mul,Nat.add_zero]at y0 y1 y2 y3;have k1:(0:Int) < (p.length:Int):=by omega
    clear HY H2 H3
    go_wp2_with fail
    refine HF.out.mono ?_;clear HF;rintro e w1 ⟨rfl,hb1'⟩;have HB1:=hid hb1';clear hb1' y0 y1 y2 y3;cases Y with
    | false=>
      have HE:Hid (checkR R=3):=hid (HB0.out rfl);clear HVp HNx HTk HBad HP3 HB0
      go_wp2_with fail
      go_ret
      exact⟨by rw[HE.out];rfl,HB.out.trans (HB1.out.mono hbs)⟩
    | true=>
      clear HB0;obtain⟨wo,rfl⟩:∃ wo:World,wo=wr:=⟨_,rfl⟩
      go_wp2_with fail
      go_loopw [3,7,31] (fun n _ k w2=>∃ q:Nat,q≤p.length∧k=.int .i64 (q:Int)∧n=.int .i64 ((cn+q:Nat):Int)∧Hid (∀ m (h:m < p.length),m < q→fineR p[m]=true)∧Below wo.heap.size wo w2) (fun _ _ k _=>p.length - (intOf k).toNat)
      case atStart=>exact⟨0,Nat.zero_le _,rfl,by simp,hid fun _ _ h=>absurd h (Nat.not_lt_zero _),HB1.out⟩
      case round=>
       obtain⟨q,hq',rfl,rfl,HN2,hb2⟩:=hrel;have HB2:=hid hb2;have hbs2:=hb2.size;have hqn:cn+q≤100000010000000:=by omega
       by_cases hlt2:q < p.length
       ·obtain⟨b2,o2,V2,hA2,d1,d2,z0,z1,z2,z3,hV2⟩:=(HVp.out _ hb2).rlAt q hlt2;injection hA2 with hA2;injection hA2 with hA2b hA2o;subst hA2b;subst hA2o;have hr4:=HP3.out p[q] (List.getElem_mem hlt2);obtain⟨Y2,hY2⟩:∃ Y2,Y2=fineR p[q]:=⟨_,rfl⟩;have HB3:Hid (Y2=false→checkR R=3):=hid fun h=>HBad.out (partOk_bad hlt2 (by rw[←hY2];exact h))
        have HN3:Hid (Y2=true→∀ m (h:m < p.length),m < q+1→fineR p[m]=true):=hid fun h m hm hm1=>by
         rcases Nat.lt_or_eq_of_le (Nat.le_of_lt_succ hm1)with e|e
         ·exact HN2.out m hm e
         ·subst e;rw[←hY2];exact h
        obtain⟨V2A,V2c,rfl,_⟩:=hV2.form;have HF0:Hid (∀ W,Below wr.heap.size wr W→Calls Tryz.prog 216 #[.agg #[.int .u8 p[q].op.toNat,.int .i64 p[q].mod,.bool p[q].neg,.slice V2A p[q].rng.length V2c]] W fun e w'=>e=.returned (.bool Y2)∧Below W.heap.size W w'):=hid fun W hW=>by
         rw[hY2];exact fine_any p[q] _ lo W (((hV2.mono Enc.pair_laws (Nat.le_refl _) hbs2).below Enc.pair_laws hW).mono Enc.pair_laws (Nat.le_refl _) hW.size) hr4
        clear hV2 hr4 hY2 HN2;generalize p[q]=e at *;obtain⟨f0,f1,f2,f3⟩:=e;dsimp only at z0 z1 z2 z3 HF0;have HFw:=hid (HF0.out (wr.alloc (.cells #[.int .u8 f0.toNat,.int .i64 f1,.bool f2,.slice V2A f3.length V2c] 307)) ((Below.refl _ _).alloc (Nat.le_refl _) _));clear HF0;have i3:(0:Int)≤(q:Int):=Int.natCast_nonneg q;have i4:(q:Int) < (p.length:Int):=by omega
        go_wp2_with fail
        refine HFw.out.mono ?_;clear HFw;rintro e w3 ⟨rfl,hb3'⟩;have HB4:=hid (HB2.out.trans (((Below.refl _ wr).alloc (Nat.le_refl _) _ |>.trans (hb3'.mono (by simp))).mono hbs2))
        clear hb3';cases Y2 with
        | false=>
          have HE:Hid (checkR R=3):=hid (HB3.out rfl);clear HVp HNx HTk HBad HP3 HB3 HN3
          go_wp2_with fail
          go_ret
          exact⟨by rw[HE.out];rfl,HB.out.trans (HB4.out.mono hbs)⟩
        | true=>
          have HN4:=hid (HN3.out rfl);clear HB3 HN3
          go_wp2_with fail
          go_roundw
          case rel=>exact⟨q+1,by omega,by go_num,by go_num,HN4,HB4.out⟩
          case measure=>simp[intOf];omega
       ·obtain rfl:q=p.length:=by omega
        have HN5:=hid (HNx.out (partOk_good h00 fun m hm=>HN2.out m hm hm));clear HN2 HVp HBad HP3
        go_wp2_with fail
        go_roundw
        case rel=>exact⟨j+1,by omega,by go_num,by rw[HTk.out],HN5,HB.out.trans (HB2.out.mono hbs)⟩
        case measure=>simp[intOf];omega
  ·obtain rfl:j=R.length:=by omega
   rw[List.take_length]at HC0;have HE:Hid (checkR R=if 20 < cn then 4 else 0):=hid (by rw[checkR_good H0.out fun q hq=>HNo.out q hq hq,HC0.out])
   clear HNo HC0 hb HCn
   by_cases h20:20 < cn
   ·have hg:(20:Int) < (cn:Int):=by omega
    rw[if_pos h20]at HE
    go_wp2_with fail
    go_ret
    exact⟨by rw[HE.out];rfl,HB.out⟩
   ·have hg:¬((20:Int) < (cn:Int)):=by omega
    rw[if_neg h20]at HE
    go_wp2_with fail
    go_ret
    exact⟨by rw[HE.out];rfl,HB.out⟩
end Go.Proofs.YtpfmmbbggcghiaaGreatDoor
