/- The speaker: one block of eight cells (a set, the args, a builder at offset 6): what its builder's methods do. -/
import Derived.Test.YtpfmmbbggcghiaaGreatDoorEvlB
set_option linter.unusedSimpArgs false
set_option linter.unusedVariables false
set_option maxHeartbeats 2000000
set_option maxRecDepth 100000
namespace Go.Proofs.YtpfmmbbggcghiaaGreatDoor
open Go.RowKit
open Lib (hid)
structure BwK (B k:Nat) (w w':World):Prop where
 below:Below B w w'
 kept:∀ g,g < w.heap.size→g≠k→(∀ cs f,w.heap[g]? ≠some (.cells cs 5 f))→w'.heap[g]? =w.heap[g]?
section
variable {B k:Nat} {w w1 w':World}
theorem BwK.refl (B k:Nat) (w:World):BwK B k w w:=⟨Below.refl _ _,fun _ _ _ _=>rfl⟩
theorem BwK.trans (h:BwK B k w w1) (h2:BwK B k w1 w'):BwK B k w w':=
 ⟨h.below.trans h2.below,fun g hg hk hn=>by
   have h3:=h.kept g hg hk hn;exact(h2.kept g (Nat.lt_of_lt_of_le hg h.below.size) hk (fun cs f=>by rw[h3];exact hn cs f)).trans h3⟩
theorem BwK.of (h:Below w.heap.size w w') (hB:B≤w.heap.size):BwK B k w w':=⟨h.mono hB,fun g hg _ _=>h.block g hg⟩
theorem BwK.setCell (h:BwK B k w w1) (hB:B≤k) (j:Nat) (v:Value):BwK B k w (w1.setCell ⟨k,j,none⟩ v):=
 h.trans ⟨(Below.refl _ _).setCell (p:=⟨k,j,none⟩) hB v,fun g _ hk _=>Below.heap_setCell _ _ _ _ hk⟩
theorem BwK.blk (h:BwK B k w w') {g:Nat} {t:TypeId} {cs:Array Value} (hb:Blk w g t cs) (hk:g≠k) (ht:t≠5):Blk w' g t cs:=
 (h.kept g hb.lt hk (fun cs' f e=>by
   unfold Blk at hb;rw[hb]at e;injection e with e;injection e with _ e;exact ht e)).trans hb
theorem BwK.grown {v:Value} {n:Nat} {xs:List Value} (h:BwK B k w w1) (hown:w1.ownsRow B 5 1 v n xs) (hg:w1.grownBy w' v.ownBlock) (hB:B≤w1.heap.size):BwK B k w w':=
 h.trans ⟨(Below.refl B w1).grown hg hB (fun k hk=>(own_lt hown hk).1),fun g hgl _ hn=>hg.block g hgl (fun e=>by
  obtain⟨_,⟨h2,_⟩|⟨g',cap,cur,hv,_,hh,_⟩⟩:=hown
  ·rw[h2]at e;cases e
  ·rw[hv]at e;injection e with e;subst e;exact hn _ _ hh)⟩
end
def spkC (s:SetV) (am p v:Value):Array Value:=#[.string s.z,.string s.o,.string s.t,.string s.f,.string s.m,am,p,v]
def SpkAt (B k:Nat) (s:SetV) (am p:Value) (l:List UInt8) (w:World):Prop:=
 B≤k∧∃ v,w.heap[k]? =some (.cells (spkC s am p v) 114 (0,0))∧w.ownsRow B 5 1 v l.length (Lib.byteCells l)∧v.ownBlock≠some k
def Spk (B k:Nat) (s:SetV) (am:Value) (l:List UInt8) (w:World):Prop:=
 SpkAt B k s am (.pointer none) l w∨SpkAt B k s am (.pointer (some ⟨k,6,none⟩)) l w
theorem lies_spk:liesAt Tryz.prog Tryz.prog.depth 114 (8 / Tryz.prog.cellsOf 114) 6 112 1=true:=by kernel_rfl
theorem sz_bldS:(Tryz.prog.info? 112).map (·.size)=some 2:=by kernel_rfl
theorem SpkAt.lt {B k:Nat} {s:SetV} {am p:Value} {l:List UInt8} {w:World} (h:SpkAt B k s am p l w):k < w.heap.size:=by
 obtain⟨_,v,hb,_⟩:=h;exact Blk.lt hb
theorem Spk.some {B k:Nat} {s:SetV} {am:Value} {l:List UInt8} {w:World} (h:Spk B k s am l w):∃ p,SpkAt B k s am p l w:=by
 rcases h with h|h
 ·exact⟨_,h⟩
 ·exact⟨_,h⟩
theorem Spk.lt {B k:Nat} {s:SetV} {am:Value} {l:List UInt8} {w:World} (h:Spk B k s am l w):k < w.heap.size:=by
 obtain⟨p,h⟩:=h.some;exact h.lt
theorem SpkAt.keep {B k:Nat} {s:SetV} {am p:Value} {l:List UInt8} {w w':World} (h:SpkAt B k s am p l w) (hb:Below w.heap.size w w'):SpkAt B k s am p l w':=by
 have hlt:=h.lt;obtain⟨hB,v,hk,ho,hn⟩:=h;exact⟨hB,v,(hb.block k hlt).trans hk,own_keep ho fun g _ hg=>hb.block g hg,hn⟩
theorem Spk.keep {B k:Nat} {s:SetV} {am:Value} {l:List UInt8} {w w':World} (h:Spk B k s am l w) (hb:Below w.heap.size w w'):Spk B k s am l w':=h.imp (·.keep hb) (·.keep hb)
theorem Spk.cell {B k:Nat} {s:SetV} {am:Value} {l:List UInt8} {w:World} (h:Spk B k s am l w) (j:Nat) (hj:j < 6):w.cell? ⟨k,j,none⟩=(#[.string s.z,.string s.o,.string s.t,.string s.f,.string s.m,am]:Array Value)[j]? :=by
 obtain⟨p,_,v,hb,_⟩:=h.some;rw[Lib.cell_of_heap hb]
 match j,hj with
 | 0,_=>rfl
 | 1,_=>rfl
 | 2,_=>rfl
 | 3,_=>rfl
 | 4,_=>rfl
 | 5,_=>rfl
theorem SpkAt.used {B k:Nat} {s:SetV} {am p:Value} {l:List UInt8} {w:World} (h:SpkAt B k s am p l w) (q:Value):SpkAt B k s am q l (w.setCell ⟨k,6,none⟩ q):=by
 obtain⟨hB,v,hb,hown,hne⟩:=h;refine⟨hB,v,?_,?_,hne⟩
 ·simp[World.setCell,Array.getElem?_modify,hb,spkC]
 ·exact hown.kept (row:=some k) ⟨rfl,rfl,rfl,by simp[World.setCell],fun g _ hg=>Below.heap_setCell _ _ _ _ (fun e=>hg (by simp[e]))⟩ (Or.inr hne)
theorem SpkAt.put {B k:Nat} {s:SetV} {am p v v':Value} {l:List UInt8} {w:World} (hB:B≤k) (hb:w.heap[k]? =some (.cells (spkC s am p v) 114 (0,0))) (hown:w.ownsRow B 5 1 v' l.length (Lib.byteCells l)):SpkAt B k s am p l (w.setCell ⟨k,7,none⟩ v'):=by
 have hne:=Lib.ownBlock_ne hown hb (by decide)
 refine⟨hB,v',?_,?_,hne⟩
 ·simp[World.setCell,Array.getElem?_modify,hb,spkC]
 ·exact hown.kept (row:=some k) ⟨rfl,rfl,rfl,by simp[World.setCell],fun g _ hg=>Below.heap_setCell _ _ _ _ (fun e=>hg (by simp[e]))⟩ (Or.inr hne)
theorem lookedS_any (B k:Nat) (s:SetV) (am:Value) (l:List UInt8) (w:World) (h:Spk B k s am l w):
 Calls Tryz.prog 99 #[.pointer (some ⟨k,6,none⟩)] w fun e w'=>e=.returned (.tuple #[])∧SpkAt B k s am (.pointer (some ⟨k,6,none⟩)) l w'∧BwK B k w w'∧w'.heap.size=w.heap.size:=by
 obtain⟨j,hj,hjs⟩:=Option.map_eq_some_iff.1 sz_bldS;rcases h with h|h
 ·have HA:=hid (h.used (.pointer (some ⟨k,6,none⟩)));have HB:=hid ((BwK.refl B k w).setCell h.1 6 (.pointer (some ⟨k,6,none⟩)));obtain⟨_,v,hb,_⟩:=h;have c0:w.cell? ⟨k,6,none⟩=some (.pointer none):=by rw[Lib.cell_of_heap hb];rfl
  have f0:w.frozen? ⟨k,6,none⟩=false:=Lib.frozen_of_heap hb 6;have hsh:w.shape? k=some (114,8):=by simp[World.shape?,hb,spkC]
  have hc1:=Lib.run_to_unsafe w (P:=Tryz.prog) (src:=109) (dst:=208) ⟨k,6,none⟩ Tryz.underlying109 Tryz.underlying208 hj (by rw[hjs];decide) hsh (by show 6 < 8;omega)
  have hc2:=Lib.run_from_unsafe w (P:=Tryz.prog) (src:=208) (dst:=109) ⟨k,6,none⟩ Tryz.underlying208 Tryz.underlying109 hj hsh lies_spk;have hn:(callFunc 150 #[.pointer (some ⟨k,6,none⟩)]).run Tryz.prog w=.ok (.value (.pointer (some ⟨k,6,none⟩))) w:=by
   rw[run_callFunc_extern Tryz.func150 (by kernel_rfl) (by kernel_rfl) (by kernel_rfl) (e:=Extern.AbiNoEscape.same) (by kernel_rfl),Lib.run_noEscape];rfl
  clear hb hsh hj hjs
  go_enter Tryz.func99,Tryz.ntmps99
  go_wp2
  go_end0
  exact⟨rfl,HA.out,HB.out,by simp⟩
 ·have HH:=hid h;obtain⟨_,v,hb,_⟩:=h;have c0:w.cell? ⟨k,6,none⟩=some (.pointer (some ⟨k,6,none⟩)):=by rw[Lib.cell_of_heap hb];rfl
  clear hb;have hr:=Lib.run_neq_ptr_same w (P:=Tryz.prog) (tp:=109) ⟨k,6,none⟩ Tryz.underlying109 hj
  go_enter Tryz.func99,Tryz.ntmps99
  go_wp2
  go_end0
  exact⟨rfl,HH.out,BwK.refl _ _ _,rfl⟩
theorem str_cellsS (s:ByteArray):Lib.strCells s=Lib.byteCells (bts s):=rfl
theorem bytes_appS (l r:List UInt8):Lib.byteCells l++Lib.byteCells r=Lib.byteCells (l++r):=by unfold Lib.byteCells;rw[List.map_append]
theorem info_byteS:(Tryz.prog.info? 5).map (fun i=>(i.zero,i.size,i.bytes))=some (some (.int .u8 0),1,1):=by kernel_rfl
theorem wstrS_any (B k:Nat) (st:SetV) (am:Value) (l:List UInt8) (s:ByteArray) (w:World) (h:Spk B k st am l w) (hl:l.length+s.size≤140737488355328) (hB:B≤w.heap.size):
 Calls Tryz.prog 58 #[.pointer (some ⟨k,6,none⟩),.string s] w fun e w'=>e=.returned (.tuple #[.int .i64 s.size,.nilIface])∧Spk B k st am (l++bts s) w'∧BwK B k w w':=by
 have HL:=hid (lookedS_any B k st am l w h);obtain⟨i0,hi,hz0,hz1,hz2⟩:=info_parts info_byteS;clear h
 go_enter Tryz.func58,Tryz.ntmps58
 go_wp2_with fail
 refine HL.out.mono ?_;clear HL;rintro e w1 ⟨rfl,⟨hBk,v,hbk,hown,hne⟩,hb1,hs1⟩;have c0:w1.cell? ⟨k,6,none⟩=some (.pointer (some ⟨k,6,none⟩)):=by rw[Lib.cell_of_heap hbk];rfl
 have c1:w1.cell? ⟨k,7,none⟩=some v:=by rw[Lib.cell_of_heap hbk];rfl
 have hkl:k < w1.heap.size:=Blk.lt hbk;have HbK:=hid hbk;have HNe:=hid hne;have HB1:=hid hb1;have hbl:(Lib.byteCells l).length=l.length:=Lib.byteCells_length l;obtain⟨A,cp,rfl,_⟩:=own_slice hown;have HO:=hid hown;have hB1:B≤w1.heap.size:=by omega
 clear hbk hown hne hb1 hs1
 go_wp2_with (at_builtin;refine Lib.wpList_append_own_string _ rfl _ _ 110 9 rfl B 5 i0 Tryz.underlying110 Tryz.underlying9 hi hz0 hz1 hz2 _ _ _ rfl HO.out s rfl (by unfold maxLen;omega) (by omega) (by omega) ?_)
 intro v2 w2 hown2 hgrow2 _;have hb2:w2.heap[k]? =some (.cells (spkC st am (.pointer (some ⟨k,6,none⟩)) (.slice A l.length cp)) 114 (0,0)):=by
  rw[hgrow2.block k hkl (fun e=>HNe.out e.symm)];exact HbK.out
 have d0:w2.cell? ⟨k,6,none⟩=some (.pointer (some ⟨k,6,none⟩)):=by rw[Lib.cell_of_heap hb2];rfl
 have d1:w2.cell? ⟨k,7,none⟩=some (.slice A l.length cp):=by rw[Lib.cell_of_heap hb2];rfl
 have f1:w2.frozen? ⟨k,7,none⟩=false:=Lib.frozen_of_heap hb2 7;obtain⟨A2,c2,rfl,_⟩:=own_slice hown2;have HP:=hid (SpkAt.put (l:=l++bts s) hBk hb2 (by rw[←bytes_appS,←str_cellsS,List.length_append];exact hown2))
 have HBe:=hid ((HB1.out.grown HO.out hgrow2 hB1).setCell hBk 7 (.slice A2 (l.length+s.size) c2));clear hown2 hgrow2 hb2
 go_wp2_with fail
 go_ret2
 exact⟨rfl,.inr HP.out,HBe.out⟩
theorem ubyteP:Tryz.prog.underlying 185=some (.pointer 5):=Tryz.underlying185
theorem textS1_any (B k:Nat) (l:List UInt8) (s:SetV) (am:Value) (w:World) (h:Spk B k s am l w) (h0:l≠[]):
 Calls Tryz.prog 51 #[.pointer (some ⟨k,6,none⟩)] w fun e w'=>e=.returned (.string (str l))∧Below B w w':=by
 obtain⟨p,hB,v,hbk,hown,hne⟩:=h.some;have hl0:l.length≠0:=by simpa using h0
 obtain⟨g,cap,cur,rfl,hbg,hg,hnc,hcm,hcs,htake⟩:∃ g cap cur,v=.slice (some ⟨g,0,none⟩) l.length cap∧B≤g∧w.heap[g]? =some (.cells cur 5 (0,0))∧l.length≤cap∧cap≤maxLen∧cur.size=cap*1∧cur.toList.take (l.length*1)=Lib.byteCells l:=by
  rcases hown.2 with⟨_,hz⟩|⟨g,cap,cur,hv,r⟩
  ·exact absurd hz hl0
  ·exact⟨g,cap,cur,hv,r⟩
 have c1:w.drew.cell? ⟨k,7,none⟩=some (.slice (some ⟨g,0,none⟩) l.length cap):=by
  have:w.drew.heap[k]? =some (.cells (spkC s am p (.slice (some ⟨g,0,none⟩) l.length cap)) 114 (0,0)):=hbk;rw[Lib.cell_of_heap this];rfl
 have hSD:(Builtin.unsafeSliceData_ #[110] 185 #[.slice (some ⟨g,0,none⟩) l.length cap]).run Tryz.prog w.drew=.ok (.pointer (some ⟨g,0,none⟩)) w.drew:=
  Lib.run_unsafeSliceData_row _ _ _ _ _ _ (by omega)
 have hUS:(Builtin.unsafeString_ #[185,3] 9 #[.pointer (some ⟨g,0,none⟩),.int .i64 l.length]).run Tryz.prog w.drew=.ok (.string (str l)) (w.drew.freeze ⟨g,0,none⟩ l.length):=by
  refine Lib.run_unsafeString_row w.drew 185 3 9 5 ubyteP (by kernel_rfl) g cur.size (by have hg':w.drew.heap[g]? =some (.cells cur 5 (0,0)):=hg;simp[World.shape?,hg']) l h0 (by omega) (by unfold maxLen at hcm;omega) ?_
  intro j x hx;have:=hown.cells (g:=g) rfl j (.int .u8 x.toNat) (by simp[Lib.byteCells,hx])
  exact this
 have HB:=hid (Lib.below_freeze (Below.drew (Below.refl B w)) (p:=⟨g,0,none⟩) hbg l.length);clear h hbk hown hne hg hcs htake hnc hcm hB hbg
 go_enter Tryz.func51,Tryz.ntmps51
 go_wp2
 go_region
 all_goals (go_wp2;go_ret;exact⟨rfl,HB.out⟩)
theorem uStrNone (W:World) (q:Option Addr):(Builtin.unsafeString_ #[185,3] 9 #[.pointer q,.int .i64 0]).run Tryz.prog W=.ok (.string .empty) W:=Lib.run_unsafeString_none W _ _ _ q
theorem textS2_any (B k:Nat) (s:SetV) (am p:Value) (w:World) (hbk:w.heap[k]? =some (.cells (spkC s am p (.slice none 0 0)) 114 (0,0))):
 Calls Tryz.prog 51 #[.pointer (some ⟨k,6,none⟩)] w fun e w'=>e=.returned (.string ⟨#[]⟩)∧Below B w w':=by
 have hUS:=uStrNone;have c1:w.drew.cell? ⟨k,7,none⟩=some (.slice none 0 0):=by
  have:w.drew.heap[k]? =some (.cells (spkC s am p (.slice none 0 0)) 114 (0,0)):=hbk;rw[Lib.cell_of_heap this];rfl
 have hSD:(Builtin.unsafeSliceData_ #[110] 185 #[.slice none 0 0]).run Tryz.prog w.drew=.ok (.pointer none) w.drew:=rfl;clear hbk
 go_enter Tryz.func51,Tryz.ntmps51
 go_wp2
 go_region
 all_goals (go_wp2;go_ret;exact⟨rfl,Below.drew (Below.refl B w)⟩)
theorem textS3_any (B k g:Nat) (s:SetV) (am p:Value) (cur:Array Value) (w:World) (hBw:B≤w.heap.size) (hbk:w.heap[k]? =some (.cells (spkC s am p (.slice (some ⟨g,0,none⟩) 0 0)) 114 (0,0))) (hg:w.heap[g]? =some (.cells cur 5 (0,0))):
 Calls Tryz.prog 51 #[.pointer (some ⟨k,6,none⟩)] w fun e w'=>e=.returned (.string ⟨#[]⟩)∧Below B w w':=by
 have hUS:=uStrNone;have hlt:k < w.heap.size:=Blk.lt hbk;have c1:w.drew.cell? ⟨k,7,none⟩=some (.slice (some ⟨g,0,none⟩) 0 0):=by
  have:w.drew.heap[k]? =some (.cells (spkC s am p (.slice (some ⟨g,0,none⟩) 0 0)) 114 (0,0)):=hbk;rw[Lib.cell_of_heap this];rfl
 have hSD:(Builtin.unsafeSliceData_ #[110] 185 #[.slice (some ⟨g,0,none⟩) 0 0]).run Tryz.prog w.drew=.ok (.pointer (some ⟨w.drew.heap.size,0,none⟩)) (w.drew.alloc (.view ⟨g,0,none⟩ 5)):=
  Lib.run_unsafeSliceData_zero w.drew _ _ 5 ubyteP ⟨g,0,none⟩ 0 (5,cur.size) (by have hg':w.drew.heap[g]? =some (.cells cur 5 (0,0)):=hg;simp[World.shape?,hg'])
 have c2:(w.drew.alloc (.view ⟨g,0,none⟩ 5)).cell? ⟨k,7,none⟩=some (.slice (some ⟨g,0,none⟩) 0 0):=by
  have:(w.drew.alloc (.view ⟨g,0,none⟩ 5)).heap[k]? =_:=(Lib.alloc_old w.drew _ k hlt).trans hbk;rw[Lib.cell_of_heap this];rfl
 have c3:(w.alloc (.view ⟨g,0,none⟩ 5)).drew.cell? ⟨k,7,none⟩=some (.slice (some ⟨g,0,none⟩) 0 0):=c2;have c0:w.cell? ⟨k,7,none⟩=some (.slice (some ⟨g,0,none⟩) 0 0):=c1;clear hbk hg hlt
 go_enter Tryz.func51,Tryz.ntmps51
 go_wp2
 go_region
 all_goals (go_wp2;go_ret;exact⟨rfl,(Below.drew (Below.refl B w)).alloc hBw _⟩)
theorem textS4_any (B k g cap:Nat) (s:SetV) (am p:Value) (w:World) (hc0:cap≠0) (hbk:w.heap[k]? =some (.cells (spkC s am p (.slice (some ⟨g,0,none⟩) 0 cap)) 114 (0,0))):
 Calls Tryz.prog 51 #[.pointer (some ⟨k,6,none⟩)] w fun e w'=>e=.returned (.string ⟨#[]⟩)∧Below B w w':=by
 have hUS:=uStrNone;have c1:w.drew.cell? ⟨k,7,none⟩=some (.slice (some ⟨g,0,none⟩) 0 cap):=by
  have:w.drew.heap[k]? =some (.cells (spkC s am p (.slice (some ⟨g,0,none⟩) 0 cap)) 114 (0,0)):=hbk;rw[Lib.cell_of_heap this];rfl
 have hSD:(Builtin.unsafeSliceData_ #[110] 185 #[.slice (some ⟨g,0,none⟩) 0 cap]).run Tryz.prog w.drew=.ok (.pointer (some ⟨g,0,none⟩)) w.drew:=
  Lib.run_unsafeSliceData_row _ _ _ _ _ _ hc0
 clear hc0 hbk
 go_enter Tryz.func51,Tryz.ntmps51
 go_wp2
 go_region
 all_goals (go_wp2;go_ret;exact⟨rfl,Below.drew (Below.refl B w)⟩)
theorem textS_any (B k:Nat) (l:List UInt8) (s:SetV) (am:Value) (w:World) (h:Spk B k s am l w) (hBw:B≤w.heap.size):
 Calls Tryz.prog 51 #[.pointer (some ⟨k,6,none⟩)] w fun e w'=>e=.returned (.string (str l))∧Below B w w':=by
 rcases List.eq_nil_or_concat l with rfl|⟨l',x,rfl⟩
 ·obtain⟨p,hB,v,hbk,hown,hne⟩:=h.some;rcases hown.2 with⟨rfl,_⟩|⟨g,cap,cur,rfl,_,hg,_⟩
  ·exact textS2_any B k s am p w hbk
  ·rcases Nat.eq_zero_or_pos cap with rfl|hc
   ·exact textS3_any B k g s am p cur w hBw hbk hg
   ·exact textS4_any B k g cap s am p w (by omega) hbk
 ·exact textS1_any B k _ s am w h (by simp)
theorem numT_len (d:DecV):(numT d).length≤400:=by
 unfold numT;split
 ·rename_i h
  have hok:d.ok:=by
   rcases Classical.em d.ok with h1|h1
   ·exact h1
   ·unfold numE at h;rw[if_neg h1]at h;exact absurd h (by decide)
  obtain⟨_,h2,_,h4⟩:=fmt_len d hok;unfold numS;dsimp only;split <;> split <;> (try rw[List.length_append]) <;> (try simp only[List.length_append,List.length_cons,List.length_nil]) <;> omega
 ·simp
theorem number_say (B k:Nat) (s:SetV) (am:Value) (l:List UInt8) (d:DecV) (w:World) (h:Spk B k s am l w) (hB:B≤w.heap.size) (hl:l.length+400≤140737488355328) (hv:Hid (∀ W,Below B w W→EvV W)):
 Calls Tryz.prog 133 #[.pointer (some ⟨k,0,none⟩),d.v] w fun e w'=>e=.returned (errD (numE d))∧Spk B k s am (l++numT d) w'∧BwK B k w w':=by
 have hb1:Below w.heap.size w (w.alloc (.cells #[.int .i64 d.coef,.int .i64 d.scale] 65)):=(Below.refl _ _).alloc (Nat.le_refl _) _;have hS1:=h.keep hb1;have hD:=Blk.new w 65 #[.int .i64 d.coef,.int .i64 d.scale];have g0:=(hD.cell 0).trans (show _=some (.int .i64 d.coef)from rfl);have g1:=(hD.cell 1).trans (show _=some (.int .i64 d.scale)from rfl);have hNu:Calls Tryz.prog 54 #[.agg #[.int .i64 d.coef,.int .i64 d.scale]] (w.alloc (.cells #[.int .i64 d.coef,.int .i64 d.scale] 65)) fun e w'=>e=.returned (.tuple #[.string (str (numT d)),errD (numE d)])∧Below (w.alloc (.cells #[.int .i64 d.coef,.int .i64 d.scale] 65)).heap.size (w.alloc (.cells #[.int .i64 d.coef,.int .i64 d.scale] 65)) w':=
  numeral_any d _ (hv.out _ (hb1.mono hB))
 have HNu:=hid hNu;have HS1:=hid hS1;have HB1:=hid hb1;have hnl:=numT_len d;have hW:∀ W,Spk B k s am l W→B≤W.heap.size→Calls Tryz.prog 58 #[.pointer (some ⟨k,6,none⟩),.string (str (numT d))] W fun e w'=>e=.returned (.tuple #[.int .i64 (str (numT d)).size,.nilIface])∧Spk B k s am (l++numT d) w'∧BwK B k W w':=
  fun W h1 h2=>wstrS_any B k s am l (str (numT d)) W h1 (by rw[str_size];omega) h2
 have HW:=hid hW;clear hNu hS1 hb1 hD hnl hW h hv hl;unfold DecV.v
 go_enter Tryz.func133,Tryz.ntmps133
 go_wp2_with fail
 refine HNu.out.mono ?_;clear HNu;rintro e w2 ⟨rfl,hb2⟩;have hS2:=HS1.out.keep hb2;have HB2:Hid (BwK B k w w2):=hid (BwK.of (HB1.out.trans (hb2.mono HB1.out.size)) hB);have hB2:B≤w2.heap.size:=Nat.le_trans (Nat.le_trans hB HB1.out.size) hb2.size;clear hb2 HS1 HB1 g0 g1;have HW2:=hid (HW.out w2 hS2 hB2);clear HW hS2
 go_wp2_with fail
 refine HW2.out.mono ?_;clear HW2;rintro e w3 ⟨rfl,hS3,hb3⟩;have HF:=hid (⟨hS3,HB2.out.trans hb3⟩:Spk B k s am (l++numT d) w3∧BwK B k w w3);clear hS3 hb3 HB2
 go_wp2_with fail
 go_ret
 exact⟨rfl,HF.out⟩
structure ArgV where
 name:ByteArray
 isNum:Bool
 num:DecV
 text:ByteArray
def ArgV.cells (a:ArgV):List Value:=[.string a.name,.bool a.isNum,.int .i64 a.num.coef,.int .i64 a.num.scale,.string a.text]
def ArgV.val (a:ArgV):Value:=.agg #[.string a.name,.bool a.isNum,.int .i64 a.num.coef,.int .i64 a.num.scale,.string a.text]
def Enc.argV:Enc ArgV:=⟨5,56,fun _ _ _ cs a=>cs=a.cells,fun B a=>a.name.size≤B∧((Lit.int .i64 a.num.coef).wf=true∧(Lit.int .i64 a.num.scale).wf=true)∧a.text.size≤B,fun a=>a.name.size+a.text.size+5⟩
theorem Enc.argV_laws:Enc.argV.Laws:=⟨fun h=>by cases h;rfl,fun h _=>h,fun h _ _=>h⟩
theorem ListOk.argVAt {w:World} {lo hi:Nat} {A:Option Addr} {n c:Nat} {l:List ArgV} (h:ListOk Enc.argV w lo hi (.slice A n c) l) (i:Nat) (hl:i < l.length):
 ∃ b o,A=some ⟨b,o,none⟩∧lo≤b∧b < hi∧w.cell? ⟨b,o+i*5,none⟩=some (.string l[i].name)∧w.cell? ⟨b,o+i*5+1,none⟩=some (.bool l[i].isNum)∧w.cell? ⟨b,o+i*5+2,none⟩=some (.int .i64 l[i].num.coef)∧w.cell? ⟨b,o+i*5+3,none⟩=some (.int .i64 l[i].num.scale)∧w.cell? ⟨b,o+i*5+4,none⟩=some (.string l[i].text):=by
 obtain⟨A',c',hv,_,hi'⟩:=h;injection hv with hv1 _ _;subst hv1;obtain⟨b,o,cs,hA,h1,h2,h3,h4⟩:=hi' i hl;have h4:cs=l[i].cells:=h4;subst h4;exact⟨b,o,hA,h1,h2,h3 0 _ rfl,h3 1 _ rfl,h3 2 _ rfl,h3 3 _ rfl,h3 4 _ rfl⟩
abbrev KMap:=ByteArray→Option Bool
def putB (f:KMap) (k:ByteArray) (b:Bool):KMap:=fun s=>if s=k then some b else f s
def argE:List ArgV→KMap→Int
 | [],_=>0
 | a::r,f=>if nameR a.name=false then 3 else if a.isNum=true∧¬ a.num.ok then 1 else if(f a.name).isSome=true then 5 else argE r (putB f a.name a.isNum)
def argM (l:List ArgV) (f:KMap):KMap:=l.foldl (fun f a=>putB f a.name a.isNum) f
def needBad (x:Ned) (b:Bool):Bool:=(x.num && !b) || (x.text && b)
def needE:List Ned→KMap→Int
 | [],_=>0
 | x::r,f=>if(f x.name).isSome=false then 2 else if needBad x ((f x.name).getD false)=true then 7 else needE r f
def fitsR (n:Nat) (m:List (Nd n)) (args:List ArgV):Int:=
 if(ofR n m).1≠0 then(ofR n m).1 else if argE args (fun _=>none)≠0 then argE args (fun _=>none)else needE (ofR n m).2 (argM args fun _=>none)
theorem argM_snoc (l:List ArgV) (f:KMap) (j:Nat) (h:j < l.length):argM (l.take (j+1)) f=putB (argM (l.take j) f) l[j].name l[j].isNum:=by
 unfold argM;rw[List.take_succ_eq_append_getElem h,List.foldl_append];rfl
theorem putN_names {P:ByteArray→Prop} {l:List Ned} (h:∀ x∈l,P x.name) (i:Nat) (b c:Bool):∀ x∈putN l i b c,P x.name:=by
 intro x hx;unfold putN at hx;split at hx
 ·rename_i hi
  rcases List.mem_or_eq_of_mem_set hx with hx|rfl
  ·exact h x hx
  ·exact h l[i] (List.getElem_mem hi)
 ·exact h x hx
theorem addN_names {P:ByteArray→Prop} {l:List Ned} (h:∀ x∈l,P x.name) (kind:Int) {t:ByteArray} (ht:P t):∀ x∈addN l kind t,P x.name:=by
 unfold addN;split
 ·exact h
 ·split
  ·refine putN_names (fun x hx=> ?_) _ _ _;rcases List.mem_append.1 hx with hx|hx
   ·exact h x hx
   ·obtain rfl:=List.mem_singleton.1 hx;exact ht
  ·exact putN_names h _ _ _
theorem casA_names {β:Type} {P:ByteArray→Prop} {g:List β→List Ned→List Ned}:∀(cs:List (ByteArray×List β)) (l:List Ned),(∀ c∈cs,∀ l,(∀ x∈l,P x.name)→∀ x∈g c.2 l,P x.name)→(∀ x∈l,P x.name)→∀ x∈casA g cs l,P x.name
 | [],l,_,h=>h
 | c::r,l,hg,h=>casA_names r (g c.2 l) (fun d hd=>hg d (List.mem_cons_of_mem _ hd)) (hg c (List.mem_cons_self ..) l h)
theorem nodA_names {β:Type} {P:ByteArray→Prop} {g:List β→List Ned→List Ned}:∀(m:List (NdF β)) (l:List Ned),(∀ x∈m,P x.text∧∀ c∈x.cases,∀ l,(∀ x∈l,P x.name)→∀ x∈g c.2 l,P x.name)→(∀ x∈l,P x.name)→∀ x∈nodA g m l,P x.name
 | [],l,_,h=>h
 | x::r,l,hm,h=>nodA_names r _ (fun y hy=>hm y (List.mem_cons_of_mem _ hy))
    (casA_names (casesR x) _ (fun c hc=>(hm x (List.mem_cons_self ..)).2 c (casesR_sub hc)) (addN_names h x.kind (hm x (List.mem_cons_self ..)).1))
theorem allN_names:(n:Nat)→(m:List (Nd n))→(l:List Ned)→MsgIn n m→(∀ x∈l,x.name.size≤1000000000)→∀ x∈allN n m l,x.name.size≤1000000000
 | 0,_,l,_,h=>h
 | n+1,m,l,hm,h=>nodA_names (P:=fun s=>s.size≤1000000000) (m:List (NdF (Nd n))) l (fun x hx=>by
    have h1:smallF (SmallN n) x:=hm.each x hx;exact⟨h1.1,fun c hc l hl=>allN_names n c.2 l (hm.body hx hc) hl⟩) h
theorem ofR_names (n:Nat) (m:List (Nd n)) (hm:MsgIn n m):∀ x∈(ofR n m).2,x.name.size≤1000000000:=by
 unfold ofR;split
 ·intro x hx;cases hx
 ·split
  ·intro x hx;cases hx
  ·exact allN_names n m [] hm (fun x hx=>(by cases hx))
theorem ofR_len (n:Nat) (m:List (Nd n)) (hc:cntN n m≤10000000):(ofR n m).2.length≤10000000:=by
 have h:=allN_len n m [];simp at h;unfold ofR;split
 ·exact Nat.zero_le _
 ·split
  ·exact Nat.zero_le _
  ·show(allN n m []).length≤_;omega
end Go.Proofs.YtpfmmbbggcghiaaGreatDoor
namespace Go.Proofs.YtpfmmbbggcghiaaGreatDoor
open Go.RowKit Go.Maps
open Lib (hid)
def heldR:Value→Option (DataW Value×List MemPlace):=fun v=>some (.held v,[])
def OwnsV (w:World) (b n:Nat) (f:ByteArray→Option Value):Prop:=
 ∃ D:DataW Value,w.ownsMap Tryz.prog 9 heldR b n D∧∀ s:ByteArray,has D (.string s.data.toList)=(f s).isSome∧∀ z,D.atKey (.string s.data.toList) (.held z)=.held ((f s).getD z)
theorem keyedS:Keyed Tryz.prog 9:=string_keyed Tryz.underlying9
theorem keyS {k:ByteArray} (hk:k.size≤maxLen):keyOf Tryz.prog 9 (.string k)=some (.string k.data.toList):=Go.WideMaps.keyOf_string_mk Tryz.underlying9 hk
theorem OwnsV.made (w:World):OwnsV (w.alloc (.map #[] 0)) w.heap.size 0 (fun _=>none):=
 ⟨.map [],World.ownsMap_made w _ _ _,fun s=>⟨rfl,fun z=>rfl⟩⟩
theorem OwnsV.lt {w:World} {b n:Nat} {f:ByteArray→Option Value} (h:OwnsV w b n f):b < w.heap.size:=by
 obtain⟨D,h1,_⟩:=h;exact h1.lt
theorem OwnsV.keep {w w':World} {b n:Nat} {f:ByteArray→Option Value} (h:OwnsV w b n f) (hb:w'.heap[b]? =w.heap[b]?):OwnsV w' b n f:=by
 obtain⟨D,⟨es,clock,h1,F,h2,h3⟩,h4⟩:=h;exact⟨D,⟨es,clock,hb.trans h1,F,h2,h3⟩,h4⟩
theorem OwnsV.below {w w':World} {b n B:Nat} {f:ByteArray→Option Value} (h:OwnsV w b n f) (hb:Below B w w') (hB:b < B):OwnsV w' b n f:=h.keep (hb.block b hB)
theorem held_inj {a b:Value} (h:(DataW.held a:DataW Value)=.held b):a=b:=by injection h
theorem OwnsV.look {w:World} {b n:Nat} {f:ByteArray→Option Value} (h:OwnsV w b n f) {t e:TypeId} (ht:Tryz.prog.underlying t=some (.map 9 e)) {z:Value} (hz:(zeroValue e).run Tryz.prog w=.ok z w) {k:ByteArray} (hk:k.size≤maxLen):
 (Instr.lookup t (.map (some b)) (.string k) false).run Tryz.prog w=.ok ((f k).getD z) w:=by
 obtain⟨D,h1,h2⟩:=h;obtain⟨v,ps,hrun,hv⟩:=h1.lookup keyedS ht hz (zd:=.held z) (zp:=[]) rfl (keyS hk);rw[(h2 k).2 z]at hv;have e1:v=(f k).getD z:=held_inj (congrArg Prod.fst (Option.some.inj hv));rw[hrun,e1]
theorem OwnsV.look_ok {w:World} {b n:Nat} {f:ByteArray→Option Value} (h:OwnsV w b n f) {t e:TypeId} (ht:Tryz.prog.underlying t=some (.map 9 e)) {z:Value} (hz:(zeroValue e).run Tryz.prog w=.ok z w) {k:ByteArray} (hk:k.size≤maxLen):
 (Instr.lookup t (.map (some b)) (.string k) true).run Tryz.prog w=.ok (.tuple #[(f k).getD z,.bool (f k).isSome]) w:=by
 obtain⟨D,h1,h2⟩:=h;obtain⟨v,ps,hrun,hv⟩:=h1.look_ok keyedS ht hz (zd:=.held z) (zp:=[]) rfl (keyS hk);rw[(h2 k).2 z]at hv;have e1:v=(f k).getD z:=held_inj (congrArg Prod.fst (Option.some.inj hv));rw[hrun,e1,(h2 k).1]
def putV (f:ByteArray→Option Value) (k:ByteArray) (v:Value):ByteArray→Option Value:=fun s=>if s=k then some v else f s
theorem bytes_inj {a b:ByteArray} (h:a.data.toList=b.data.toList):a=b:=by
 cases a;cases b;simp only[ByteArray.mk.injEq];exact Array.toList_inj.1 h
theorem OwnsV.put {w:World} {b n:Nat} {f:ByteArray→Option Value} (h:OwnsV w b n f) {t e:TypeId} (ht:Tryz.prog.underlying t=some (.map 9 e)) (hn:n < maxLen) {k:ByteArray} (hk:k.size≤maxLen) (v:Value):
 ∃ w',(Instr.mapUpdate t (.map (some b)) (.string k) v).run Tryz.prog w=.ok () w'∧OwnsV w' b (n+1) (putV f k v)∧w.mapTurned w' b:=by
 obtain⟨D,h1,h2⟩:=h;obtain⟨w',hrun,h3,h4⟩:=h1.store keyedS ht hn (keyS hk) (val:=v) (d:=.held v) (ps:=[]) rfl;refine⟨w',hrun,⟨_,h3,fun s=> ?_⟩,h4⟩;have hm:=h1.isMap
 by_cases hs:s=k
 ·subst hs;unfold putV;rw[if_pos rfl];refine⟨has_put_same hm ?_ _,fun z=> ?_⟩
  ·exact trivial
  ·rw[atKey_put_same hm ?_]
   ·rfl
   ·exact trivial
 ·have hne:(Lit.string s.data.toList)≠.string k.data.toList:=fun e=>hs (bytes_inj (Lit.string.inj e));unfold putV;rw[if_neg hs];exact⟨(has_put_other hne _).trans (h2 s).1,fun z=>(atKey_put_other hne _ _).trans ((h2 s).2 z)⟩
theorem wpList_insert_V {w:World} {ops:Array Oper} {rest:List Oper} {o:Oper} {a:Act} {Q:Exit→Act→World→Prop}
 (hg:o.guard=none) (m x v:Operand) (t e:TypeId) (hop:o.op=Op.insert t m x v) (ht:Tryz.prog.underlying t=some (.map 9 e)) (b n:Nat) (f:ByteArray→Option Value)
 (hm:a.eval m=.map (some b)) (hown:OwnsV w b n f) (hn:n < maxLen) (key:ByteArray) (val:Value) (hx:a.eval x=.string key) (hv:a.eval v=val) (hk:key.size≤maxLen)
 (hK:∀ w',OwnsV w' b (n+1) (putV f key val)→w.grownBy w' (some b)→wpList Tryz.prog ops Q rest (a.put o.dst undef) w'):
 wpList Tryz.prog ops Q (o::rest) a w:=by
 refine wpList_plain hg fun K' hK'=> ?_;obtain⟨w',hrun,r1,r2⟩:=hown.put ht hn hk val;unfold Oper.wp;simp[execOp,hop,hm,hx,hv,hrun,Result.andThen];exact hK' _ _ (hK w' r1 r2.grown)
theorem wpList_update_V {w:World} {ops:Array Oper} {rest:List Oper} {o:Oper} {a:Act} {Q:Exit→Act→World→Prop}
 (hg:o.guard=none) (m x v:Operand) (t e:TypeId) (hop:o.op=Op.mapUpdate t m x v) (ht:Tryz.prog.underlying t=some (.map 9 e)) (b n:Nat) (f:ByteArray→Option Value)
 (hm:a.eval m=.map (some b)) (hown:OwnsV w b n f) (hn:n < maxLen) (key:ByteArray) (val:Value) (hx:a.eval x=.string key) (hv:a.eval v=val) (hk:key.size≤maxLen)
 (hK:∀ w',OwnsV w' b (n+1) (putV f key val)→w.grownBy w' (some b)→wpList Tryz.prog ops Q rest (a.put o.dst undef) w'):
 wpList Tryz.prog ops Q (o::rest) a w:=by
 refine wpList_plain hg fun K' hK'=> ?_;obtain⟨w',hrun,r1,r2⟩:=hown.put ht hn hk val;unfold Oper.wp;simp[execOp,hop,hm,hx,hv,hrun,Result.andThen];exact hK' _ _ (hK w' r1 r2.grown)
end Go.Proofs.YtpfmmbbggcghiaaGreatDoor
