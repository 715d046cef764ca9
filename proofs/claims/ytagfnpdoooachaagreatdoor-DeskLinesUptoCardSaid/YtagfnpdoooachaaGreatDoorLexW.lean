/- Contracts of the library's functions, laid at this seat's dump by the shelf's own programs. -/
import Derived.Deep.RegionHeld3
import Derived.Test.YtagfnpdoooachaaGreatDoorIdxA
set_option linter.unusedSimpArgs false
set_option linter.unusedVariables false
set_option maxHeartbeats 3200000
set_option maxRecDepth 100000
namespace Go.Proofs
open Go.Shelf
def Tryz.lays169_ren:Go.Shelf.Ren:=⟨fun|169=>82|n=>n,fun|70=>133|9=>9|0=>0|72=>136|37=>134|127=>186|3=>3|5=>5|n=>n,fun|n=>n⟩
theorem Tryz.lays169:Go.Proofs.Lays.n169 Tryz.prog Tryz.lays169_ren:= {
 mixed:=by kernel_rfl
 f169:=Tryz.func82.trans (congrArg some (by kernel_rfl))
 t0:=Tryz.underlying0
 a0:=Tryz.isAgg0
 z0:=Tryz.sizeOf0
 v0:=Tryz.zeroValue0
 t3:=Tryz.underlying3
 a3:=Tryz.isAgg3
 z3:=Tryz.sizeOf3
 v3:=Tryz.zeroValue3
 t9:=Tryz.underlying9
 a9:=Tryz.isAgg9
 z9:=Tryz.sizeOf9
 v9:=Tryz.zeroValue9
 t37:=Tryz.underlying134
 a37:=Tryz.isAgg134
 z37:=Tryz.sizeOf134
 v37:=Tryz.zeroValue134
 t70:=Tryz.underlying133
 a70:=Tryz.isAgg133
 z70:=Tryz.sizeOf133
 v70:=Tryz.zeroValue133
 t72:=Tryz.underlying136
 a72:=Tryz.isAgg136
 z72:=Tryz.sizeOf136
 v72:=Tryz.zeroValue136
 t127:=Tryz.underlying186
 a127:=Tryz.isAgg186
 z127:=Tryz.sizeOf186
 v127:=Tryz.zeroValue186 }
theorem Tryz.Builder_Extra_169:Builder.Extra Tryz.prog Tryz.lays169_ren:= {
 sizeBuilder:=by kernel_rfl
 liesBuilder:=by kernel_rfl
 t5:=Tryz.underlying5
 a5:=Tryz.isAgg5
 z5:=Tryz.sizeOf5
 v5:=Tryz.zeroValue5
 infoByte:=by kernel_rfl
 cellsByte:=by kernel_rfl
 sizeByte:=by kernel_rfl
 neB5:=by decide }
open Go.RowKit in
theorem Tryz.Builder_String_any (B b:Nat) (l:List UInt8) (w:World) (h:Lib.IsBuilder 136 5 B b (Lib.byteCells l) w) (hBw:B≤w.heap.size):
 Calls Tryz.prog 82 #[.pointer (some ⟨b,0,none⟩)] w fun e w'=>e=.returned (.string ⟨l.toArray⟩)∧Below B w w':=Any.Builder_String_any Tryz.lays169 Tryz.Builder_Extra_169 B b l w h hBw
end Go.Proofs
namespace Go.Proofs.YtagfnpdoooachaaGreatDoor
open Go.RowKit
open Lib (hid)
def Bld (B k:Nat) (l:List UInt8) (w:World):Prop:=Lib.IsBuilder 136 5 B k (Lib.byteCells l) w
theorem sz_bld:(Tryz.prog.info? 136).map (·.size)=some 2:=by kernel_rfl
theorem lies_bld:liesAt Tryz.prog Tryz.prog.depth 136 (2 / Tryz.prog.cellsOf 136) 0 136 1=true:=by kernel_rfl
theorem bld_new (w:World):Bld w.heap.size w.heap.size [] (w.alloc (.cells #[.pointer none,.slice none 0 0] 136)):=Lib.fresh_isBuilder _ _ w
theorem info_byte':(Tryz.prog.info? 5).map (fun i=>(i.zero,i.size,i.bytes))=some (some (.int .u8 0),1,1):=by kernel_rfl
theorem bytes_snoc (l:List UInt8) (c:UInt8):Lib.byteCells l++[.int .u8 c.toNat]=Lib.byteCells (l++[c]):=by unfold Lib.byteCells;rw[List.map_append];rfl
theorem byte_new (x:Value) (t:TypeId) (W:World) (q:Nat) (u:Value) (hq:([x]:List Value)[q]? =some u):(W.alloc (.cells #[x] t)).cell? ⟨W.heap.size,0+q,none⟩=some u:=by
 rw[Nat.zero_add,(Blk.new W t #[x]).cell q];simpa using hq
theorem str_cells (s:ByteArray):Lib.strCells s=Lib.byteCells (bts s):=rfl
theorem bytes_app (l r:List UInt8):Lib.byteCells l++Lib.byteCells r=Lib.byteCells (l++r):=by unfold Lib.byteCells;rw[List.map_append]
theorem bld_text {B k:Nat} {l:List UInt8} {w:World} (h:Bld B k l w) (hB:B≤w.heap.size):Calls Tryz.prog 82 #[.pointer (some ⟨k,0,none⟩)] w fun e w'=>e=.returned (.string (str l))∧Below B w w':=
 Tryz.Builder_String_any B k l w h hB
theorem looked_any (B k:Nat) (xs:List Value) (w:World) (h:Lib.IsBuilder 136 5 B k xs w):
 Calls Tryz.prog 126 #[.pointer (some ⟨k,0,none⟩)] w fun e w'=>e=.returned (.tuple #[])∧Lib.BuilderAt 136 5 B k (.pointer (some ⟨k,0,none⟩)) xs w'∧Below B w w'∧w'.heap.size=w.heap.size:=by
 obtain⟨j,hj,hjs⟩:=Option.map_eq_some_iff.1 sz_bld;rcases h with h|h
 ·have HA:=hid (h.used (.pointer (some ⟨k,0,none⟩)));have HB:=hid ((Below.refl B w).setCell (p:=⟨k,0,none⟩) h.1 (.pointer (some ⟨k,0,none⟩)));have c0:=h.cell0;have f0:=h.frozen0;have hsh:=h.shape;have hc1:=Lib.run_to_unsafe w (P:=Tryz.prog) (src:=133) (dst:=244) ⟨k,0,none⟩ Tryz.underlying133 Tryz.underlying244 hj (by rw[hjs];decide) hsh (Nat.zero_lt_succ 1)
  have hc2:=Lib.run_from_unsafe w (P:=Tryz.prog) (src:=244) (dst:=133) ⟨k,0,none⟩ Tryz.underlying244 Tryz.underlying133 hj hsh lies_bld;have hn:(callFunc 171 #[.pointer (some ⟨k,0,none⟩)]).run Tryz.prog w=.ok (.value (.pointer (some ⟨k,0,none⟩))) w:=by
   rw[run_callFunc_extern Tryz.func171 (by kernel_rfl) (by kernel_rfl) (by kernel_rfl) (e:=Extern.AbiNoEscape.same) (by kernel_rfl),Lib.run_noEscape];rfl
  clear h hsh hj hjs
  go_enter Tryz.func126,Tryz.ntmps126
  go_wp2
  go_end0
  exact⟨rfl,HA.out,HB.out,by simp⟩
 ·have c0:=h.cell0;have HH:=hid h;clear h;have hr:=Lib.run_neq_ptr_same w (P:=Tryz.prog) (tp:=133) ⟨k,0,none⟩ Tryz.underlying133 hj
  go_enter Tryz.func126,Tryz.ntmps126
  go_wp2
  go_end0
  exact⟨rfl,HH.out,Below.refl _ _,rfl⟩
theorem wbyte_any (B k:Nat) (l:List UInt8) (c:UInt8) (w:World) (h:Bld B k l w) (hl:l.length+1≤140737488355328) (hB:B≤w.heap.size):
 Calls Tryz.prog 183 #[.pointer (some ⟨k,0,none⟩),.int .u8 c.toNat] w fun e w'=>e=.returned .nilIface∧Bld B k (l++[c]) w'∧Below B w w':=by
 have HL:=hid (looked_any B k _ w h);clear h
 go_enter Tryz.func183,Tryz.ntmps183
 go_wp2_with fail
 refine HL.out.mono ?_;clear HL;rintro e w1 ⟨rfl,⟨hBk,v,hbk,hown,hne⟩,hb1,hs1⟩;have c0:w1.cell? ⟨k,0,none⟩=some (.pointer (some ⟨k,0,none⟩)):=by rw[Lib.cell_of_heap hbk];rfl
 have c1:w1.cell? ⟨k,1,none⟩=some v:=by rw[Lib.cell_of_heap hbk];rfl
 have hkl:k < w1.heap.size:=Blk.lt hbk;have HbK:=hid hbk;have HNe:=hid hne;have HB1:=hid hb1;have hbl:(Lib.byteCells l).length=l.length:=Lib.byteCells_length l;rw[hbl]at hown;obtain⟨A,cp,rfl,_⟩:=own_slice hown;have HO:=hid (own_keep (w':=w1.alloc (.cells #[.int .u8 c.toNat] 5)) hown fun g _ hg=>Below.heap_alloc _ _ _ hg);have HnX:=hid (byte_new (.int .u8 c.toNat) 5 w1);have hB1:B≤w1.heap.size:=by omega
 have hB2:=hid hs1;clear hbk hown hne hb1 hs1
 go_wp2_with (at_builtin;refine wpList_append_any rfl _ _ 134 rfl B 5 Tryz.underlying134 info_byte' rfl (by decide) (Lib.byteCells l) rfl HO.out [.int .u8 c.toNat] rfl rfl (.inr ⟨_,_,rfl,HnX.out⟩) (by simp[Value.oneCell']) (by unfold maxLen;omega) (by omega) (by simp;omega) ?_)
 intro v2 w2 hown2 hgrow2 _;have hb2:w2.heap[k]? =some (.cells #[.pointer (some ⟨k,0,none⟩),.slice A l.length cp] 136 (0,0)):=by
  rw[hgrow2.block k (by simp;omega) (fun e=>HNe.out e.symm),Below.heap_alloc _ _ _ hkl]
  exact HbK.out
 have d0:w2.cell? ⟨k,0,none⟩=some (.pointer (some ⟨k,0,none⟩)):=by rw[Lib.cell_of_heap hb2];rfl
 have d1:w2.cell? ⟨k,1,none⟩=some (.slice A l.length cp):=by rw[Lib.cell_of_heap hb2];rfl
 have f1:w2.frozen? ⟨k,1,none⟩=false:=Lib.frozen_of_heap hb2 1;obtain⟨A2,c2,rfl,_⟩:=own_slice hown2;have HP:=hid (Lib.BuilderAt.put (T:=136) (e:=5) hBk hb2 (bs':=Lib.byteCells (l++[c])) (by rw[←bytes_snoc,List.length_append,hbl];exact hown2) (by decide))
 have HBe:=hid (((HB1.out.alloc hB1 _).grown hgrow2 (by simp;omega) (fun k hk=>(own_lt HO.out hk).1)).setCell (p:=⟨k,1,none⟩) hBk (.slice A2 (l.length+1) c2))
 clear hown2 hgrow2 hb2
 go_wp2_with fail
 go_ret
 exact⟨rfl,.inr HP.out,HBe.out⟩
theorem wstr_any (B k:Nat) (l:List UInt8) (s:ByteArray) (w:World) (h:Bld B k l w) (hl:l.length+s.size≤140737488355328) (hB:B≤w.heap.size):
 Calls Tryz.prog 81 #[.pointer (some ⟨k,0,none⟩),.string s] w fun e w'=>e=.returned (.tuple #[.int .i64 s.size,.nilIface])∧Bld B k (l++bts s) w'∧Below B w w':=by
 have HL:=hid (looked_any B k _ w h);obtain⟨i0,hi,hz0,hz1,hz2⟩:=info_parts info_byte';clear h
 go_enter Tryz.func81,Tryz.ntmps81
 go_wp2_with fail
 refine HL.out.mono ?_;clear HL;rintro e w1 ⟨rfl,⟨hBk,v,hbk,hown,hne⟩,hb1,hs1⟩;have c0:w1.cell? ⟨k,0,none⟩=some (.pointer (some ⟨k,0,none⟩)):=by rw[Lib.cell_of_heap hbk];rfl
 have c1:w1.cell? ⟨k,1,none⟩=some v:=by rw[Lib.cell_of_heap hbk];rfl
 have hkl:k < w1.heap.size:=Blk.lt hbk;have HbK:=hid hbk;have HNe:=hid hne;have HB1:=hid hb1;have hbl:(Lib.byteCells l).length=l.length:=Lib.byteCells_length l;rw[hbl]at hown;obtain⟨A,cp,rfl,_⟩:=own_slice hown;have HO:=hid hown;have hB1:B≤w1.heap.size:=by omega
 clear hbk hown hne hb1 hs1
 go_wp2_with (at_builtin;refine Lib.wpList_append_own_string _ rfl _ _ 134 9 rfl B 5 i0 Tryz.underlying134 Tryz.underlying9 hi hz0 hz1 hz2 _ _ _ rfl HO.out s rfl (by unfold maxLen;omega) (by omega) (by omega) ?_)
 intro v2 w2 hown2 hgrow2 _;have hb2:w2.heap[k]? =some (.cells #[.pointer (some ⟨k,0,none⟩),.slice A l.length cp] 136 (0,0)):=by
  rw[hgrow2.block k hkl (fun e=>HNe.out e.symm)];exact HbK.out
 have d0:w2.cell? ⟨k,0,none⟩=some (.pointer (some ⟨k,0,none⟩)):=by rw[Lib.cell_of_heap hb2];rfl
 have d1:w2.cell? ⟨k,1,none⟩=some (.slice A l.length cp):=by rw[Lib.cell_of_heap hb2];rfl
 have f1:w2.frozen? ⟨k,1,none⟩=false:=Lib.frozen_of_heap hb2 1;obtain⟨A2,c2,rfl,_⟩:=own_slice hown2;have HP:=hid (Lib.BuilderAt.put (T:=136) (e:=5) hBk hb2 (bs':=Lib.byteCells (l++bts s)) (by rw[←bytes_app,←str_cells,List.length_append,hbl,Lib.strCells_length];exact hown2) (by decide))
 have HBe:=hid ((HB1.out.grown hgrow2 hB1 (fun k hk=>(own_lt HO.out hk).1)).setCell (p:=⟨k,1,none⟩) hBk (.slice A2 (l.length+s.size) c2));clear hown2 hgrow2 hb2
 go_wp2_with fail
 go_ret2
 exact⟨rfl,.inr HP.out,HBe.out⟩
theorem bts_rest (s:ByteArray) (j:Nat):bts (s.extract j s.size)=(bts s).drop j:=by
 rw[bts_extract,←bts_len,List.take_length]
theorem two_head (r:List UInt8):Lib.hasPrefix (39::r) [39,39]=decide (r.head? =some 39):=by
 cases r with
 | nil=>rfl
 | cons d r=>
   show((39:UInt8) == 39 && ((39:UInt8) == d && true))=decide (some d=some 39);rw[Bool.and_true,show((39:UInt8) == 39)=true from rfl,Bool.true_and]
   by_cases h:d=39
   ·subst h;rfl
   ·rw[decide_eq_false (fun e=>h (Option.some.inj e))];exact beq_eq_false_iff_ne.2 (fun e=>h e.symm)
theorem two_no {c:UInt8} (h:c≠39) (r:List UInt8):Lib.hasPrefix (c::r) [39,39]=false:=by
 show((39:UInt8) == c && _)=false;rw[beq_eq_false_iff_ne.2 (fun e=>h e.symm)];rfl
theorem hasPre_any (s:ByteArray) (j:Nat) (w:World):Calls Tryz.prog 146 #[.string (s.extract j s.size),.string ⟨#[39,39]⟩] w fun e w'=>e=.returned (.bool (Lib.hasPrefix ((bts s).drop j) [39,39]))∧w'=w:=by
 have h:=Tryz.strings_HasPrefix (s.extract j s.size) ⟨#[39,39]⟩ w;rw[show(s.extract j s.size).data.toList=(bts s).drop j from bts_rest s j]at h;exact h
theorem u8_39 (c:UInt8):((c.toNat:Int) == 39)=decide (c=39):=by
 by_cases h:c=39
 ·subst h;rfl
 ·rw[decide_eq_false h,beq_eq_false_iff_ne];intro e;exact h (UInt8.toNat_inj.1 (by have:(39:UInt8).toNat=39:=rfl;omega))
def quoT (o:LexR) (n:Nat):Value:=match o with|none=>.tuple #[.string ⟨#[]⟩,.int .i64 0,.bool false]|some p=>.tuple #[.string (str p.1),.int .i64 ((n - p.2.length:Nat):Int),.bool true]
theorem quoted_any (s:ByteArray) (i:Nat) (w:World) (hi:i≤s.size) (hs:s.size≤1000000000):
 Calls Tryz.prog 184 #[.string s,.int .i64 (i:Int)] w fun e w'=>e=.returned (quoT (quotedL ((bts s).drop i)) s.size)∧Below w.heap.size w w':=by
 have HN:=hid (bld_new w);have HB0:=hid ((Below.refl w.heap.size w).alloc (Nat.le_refl _) (.cells #[.pointer none,.slice none 0 0] 136));obtain⟨Q,hQ⟩:∃ Q,Q=quotedL ((bts s).drop i):=⟨_,rfl⟩;rw[←hQ];have HQ:=hid hQ;clear hQ
 go_enter Tryz.func184,Tryz.ntmps184
 go_wp2_with fail
 go_loopw [1] (fun k wr=>∃(j:Nat) (l:List UInt8),j≤s.size∧k=.int .i64 (j:Int)∧l.length≤j∧Hid (Q=(quotedL ((bts s).drop j)).map (appL l))∧Bld w.heap.size w.heap.size l wr∧Below w.heap.size w wr) (fun k _=>s.size - (intOf k).toNat)
 case atStart=>exact⟨i,[],hi,rfl,Nat.zero_le _,hid (by rw[appL_nil,HQ.out]),HN.out,HB0.out⟩
 case round=>
  clear HN HB0 HQ;obtain⟨j,l,hj,rfl,hl,HI,hB,hbr⟩:=hrel;have HB:=hid hB;have HBr:=hid hbr;have hbs:=hbr.size;clear hB hbr
  by_cases hlt:j < s.size
  ·have i1:(0:Int)≤(j:Int):=Int.natCast_nonneg j;have i2:(j:Int) < (s.size:Int):=by omega
   have i3:(j:Int)≤(s.size:Int):=by omega
   have hda:=drop_at s j hlt;have h39:=u8_39 s[j];have HWr:Hid (∀(x:UInt8),Calls Tryz.prog 183 #[.pointer (some ⟨w.heap.size,0,none⟩),.int .u8 x.toNat] wr fun e w'=>e=.returned .nilIface∧Bld w.heap.size w.heap.size (l++[x]) w'∧Below w.heap.size wr w'):=hid fun x=>wbyte_any _ _ l x wr HB.out (by omega) hbs
   by_cases hc:s[j]=39
   ·rw[decide_eq_true hc]at h39;rw[hc]at hda;have HP:=hid (hasPre_any s j wr);rw[hda,two_head]at HP
    by_cases hh:((bts s).drop (j+1)).head? =some 39
    ·rw[decide_eq_true hh]at HP;have hlt2:j+1 < s.size:=by
      refine Decidable.byContradiction fun h=> ?_;rw[List.drop_of_length_le (by rw[bts_len];omega)]at hh
      cases hh
     have hda2:=drop_at s (j+1) hlt2;have hc2:s[j+1]=39:=by rw[hda2]at hh;exact Option.some.inj hh
     have HI2:Hid (Q=(quotedL ((bts s).drop (j+1+1))).map (appL (l++[s[j+1]]))):=hid (by rw[HI.out,hda,hda2,hc2,quotedL_two,appL_two])
     have HC:=hid (HWr.out s[j+1]);have g0:(j:Int)+1 < (s.size:Int):=by omega
     have g00:(0:Int)≤(j:Int)+1:=by omega
     clear HWr HI hda hda2 hc hc2 hh
     go_wp2_with fail
     refine HP.out.mono ?_;clear HP;rintro e w1 ⟨rfl,rfl⟩
     go_wp2_with fail
     refine HC.out.mono ?_;clear HC;rintro e w2 ⟨rfl,hB2,hb2⟩;have HB2:=hid hB2;have HBe:=hid (HBr.out.trans hb2);clear hB2 hb2
     go_wp2_with fail
     exact⟨⟨j+1+1,_,by omega,by go_num,by simp;omega,HI2,HB2.out,HBe.out⟩,by simp[intOf];omega⟩
    ·rw[decide_eq_false hh]at HP;have HE:Hid (Q=some (l,(bts s).drop (j+1))):=hid (by rw[HI.out,hda,quotedL_end hh];show some _=some _;simp[appL])
     have HT:=hid (bld_text HB.out hbs);clear HWr HI hda hc hh
     go_wp2_with fail
     refine HP.out.mono ?_;clear HP;rintro e w1 ⟨rfl,rfl⟩
     go_wp2_with fail
     refine HT.out.mono ?_;clear HT;rintro e w2 ⟨rfl,hb2⟩;have HBe:=hid (HBr.out.trans hb2);clear hb2
     go_wp2_with fail
     refine bodyPost_ret (v:=.tuple #[.string (str l),.int .i64 ((j+1:Nat):Int),.bool true]) ?_ rfl ?_
     ·simp[results,Tryz.results184,go_sem]
     ·refine⟨?_,HBe.out⟩;rw[HE.out];show _=Ending.returned (.tuple #[.string (str l),.int .i64 ((s.size - ((bts s).drop (j+1)).length:Nat):Int),.bool true]);rw[List.length_drop,bts_len,show s.size - (s.size - (j+1))=j+1 from by omega]
   ·rw[decide_eq_false hc]at h39;have HI2:Hid (Q=(quotedL ((bts s).drop (j+1))).map (appL (l++[s[j]]))):=hid (by rw[HI.out,hda,quotedL_plain hc,appL_two])
    have HC:=hid (HWr.out s[j]);clear HWr HI hda hc
    go_wp2_with fail
    refine HC.out.mono ?_;clear HC;rintro e w2 ⟨rfl,hB2,hb2⟩;have HB2:=hid hB2;have HBe:=hid (HBr.out.trans hb2);clear hB2 hb2
    go_wp2_with fail
    exact⟨⟨j+1,_,by omega,by go_num,by simp;omega,HI2,HB2.out,HBe.out⟩,by simp[intOf];omega⟩
  ·obtain rfl:j=s.size:=by omega
   have HE:Hid (Q=none):=hid (by rw[HI.out,List.drop_of_length_le (by rw[bts_len];exact Nat.le_refl _)];rfl)
   clear HI
   go_wp2_with fail
   refine bodyPost_ret (v:=.tuple #[.string ⟨#[]⟩,.int .i64 0,.bool false]) ?_ rfl ?_
   ·simp[results,Tryz.results184,go_sem]
   ·exact⟨by rw[HE.out];rfl,HBr.out⟩
theorem signs_any (mark:Bool) (w:World):Calls Tryz.prog 182 #[.bool mark] w fun e w'=>e=.returned (.string (sgB mark))∧w'=w:=by
 cases mark <;>
  (go_enter Tryz.func182,Tryz.ntmps182
   go_wp2_with fail
   go_ret
   exact⟨rfl,rfl⟩)
theorem Bld.below {B k:Nat} {l:List UInt8} {w w':World} (h:Bld B k l w) (hb:Below w.heap.size w w'):Bld B k l w':=by
 rcases h with⟨hB,v,hk,ho,hn⟩|⟨hB,v,hk,ho,hn⟩
 ·exact Or.inl ⟨hB,v,(hb.block k (Array.getElem?_eq_some_iff.1 hk).1).trans hk,own_below ho hb (Nat.le_refl _),hn⟩
 ·exact Or.inr ⟨hB,v,(hb.block k (Array.getElem?_eq_some_iff.1 hk).1).trans hk,own_below ho hb (Nat.le_refl _),hn⟩
structure BaSt (w:World) (s:ByteArray) (mark:Bool) (l:List UInt8) (W:World):Prop where
 below:Below w.heap.size w W
 txt:Blk W w.heap.size 9 #[.string s]
 mrk:Blk W (w.heap.size+1) 4 #[.bool mark]
 bld:Bld (w.heap.size+2) (w.heap.size+2) l W
 size:w.heap.size+2≤W.heap.size
theorem BaSt.made (w:World) (s:ByteArray) (mark:Bool):BaSt w s mark [] (((w.alloc (.cells #[.string s] 9)).alloc (.cells #[.bool mark] 4)).alloc (.cells #[.pointer none,.slice none 0 0] 136)):=by
 have h1:=Blk.new (w.alloc (.cells #[.string s] 9)) 4 #[.bool mark];have h2:=bld_new ((w.alloc (.cells #[.string s] 9)).alloc (.cells #[.bool mark] 4));rw[World.size_alloc]at h1;rw[World.size_alloc,World.size_alloc]at h2;exact⟨(((Below.refl _ _).alloc (Nat.le_refl _) _).alloc (by simp) _).alloc (by simp;omega) _,((Blk.new w 9 #[.string s]).alloc _).alloc _,h1.alloc _,h2,by simp⟩
theorem BaSt.on {w W W':World} {s:ByteArray} {mark:Bool} {l l':List UInt8} (h:BaSt w s mark l W) (hb:Below (w.heap.size+2) W W') (hB:Bld (w.heap.size+2) (w.heap.size+2) l' W'):BaSt w s mark l' W':=
 ⟨h.below.trans (hb.mono (by omega)),h.txt.below hb (by omega),h.mrk.below hb (by omega),hB,Nat.le_trans h.size hb.size⟩
theorem BaSt.drewN {w W:World} {s:ByteArray} {mark:Bool} {l:List UInt8} (h:BaSt w s mark l W) (n:Nat):BaSt w s mark l (W.drewN n):=
 ⟨below_drewN h.below n,h.txt.drewN n,h.mrk.drewN n,by
   rcases h.bld with h1|h1
   ·exact Or.inl h1
   ·exact Or.inr h1,h.size⟩
def sgnAt (mark:Bool) (s:ByteArray) (j:Nat):Bool:=sigH mark ((bts s).drop j)
theorem sign_any (w W:World) (s:ByteArray) (mark:Bool) (j:Nat) (hs:s.size≤1000000000) (ht:Blk W w.heap.size 9 #[.string s]) (hm:Blk W (w.heap.size+1) 4 #[.bool mark]):
 Calls Tryz.prog 181 #[.int .i64 (j:Int),.pointer (some ⟨w.heap.size,0,none⟩),.pointer (some ⟨w.heap.size+1,0,none⟩)] W fun e w'=>e=.returned (.bool (sgnAt mark s j))∧∃ n,w'=W.drewN n:=by
 have t0:=(ht.cell 0).trans (show _=some (.string s)from rfl);have m0:=(hm.cell 0).trans (show _=some (.bool mark)from rfl);have i1:(0:Int)≤(j:Int):=Int.natCast_nonneg j
 by_cases hlt:j < s.size
 ·have i2:(j:Int) < (s.size:Int):=by omega
  have hd:decide ((j:Int) < (s.size:Int))=true:=decide_eq_true i2;have HSg:Hid (∀ W,Calls Tryz.prog 182 #[.bool mark] W fun e w'=>e=.returned (.string (sgB mark))∧W=w'):=hid fun W=>(signs_any mark W).mono fun e w' h=>⟨h.1,h.2.symm⟩;have HIx:Hid (∀ W,Calls Tryz.prog 177 #[.string (sgB mark),.int .u8 s[j].toNat] W fun e w'=>e=.returned (.int .i64 (Lib.indexByte (bts (sgB mark)) s[j]))∧W=w'):=hid fun W=>by
   have h:=Tryz.strings_IndexByte (sgB mark) (s[j].toNat:Int) W;rw[head_byte]at h;exact h.mono fun e w' h=>⟨h.1,h.2.symm⟩
  have HE:Hid (sgnAt mark s j=decide (0≤Lib.indexByte (bts (sgB mark)) s[j])):=hid (by
   unfold sgnAt sigH;rw[drop_at s j hlt,idxByte];rfl)
  generalize sgnAt mark s j=R at *;generalize Lib.indexByte (bts (sgB mark)) s[j]=X at *;generalize sgB mark=G at *;clear ht hm
  go_enter Tryz.func181,Tryz.ntmps181
  go_wp2_with fail
  go_quiet (first|(go_at_call 182;first|with_reducible exact Calls.quiet_of_same (HSg.out _)|with_reducible exact quiet_left (HSg.out _)|with_reducible exact quiet_add_left (HSg.out _))|(go_at_call 177;first|with_reducible exact quiet_left (HIx.out _)|with_reducible exact quiet_add_left (HIx.out _)))
  go_wp2_with fail
  go_ret
  exact⟨by rw[HE.out];rfl,_,rfl⟩
 ·have hd:decide ((j:Int) < (s.size:Int))=false:=decide_eq_false (by omega)
  have HE:Hid (sgnAt mark s j=false):=hid (by
   unfold sgnAt sigH;rw[List.drop_of_length_le (by rw[bts_len];omega)];rfl)
  generalize sgnAt mark s j=R at *;clear ht hm
  go_enter Tryz.func181,Tryz.ntmps181
  go_wp2_with fail
  go_quiet (fail)
  go_wp2_with fail
  go_ret
  exact⟨by rw[HE.out];rfl,_,rfl⟩
end Go.Proofs.YtagfnpdoooachaaGreatDoor
