/- The reader's arg. -/
import Derived.Test.YtagfnpdoooachaaGreatDoorRdC
set_option linter.unusedSimpArgs false
set_option linter.unusedVariables false
namespace Go.Proofs.YtagfnpdoooachaaGreatDoor
open Go.RowKit
open Lib (hid)
section
variable {β:Type} {rd:Bool→List UInt8→Option (List β×List UInt8)} {mark:Bool} {l:List UInt8} {p:List UInt8×List UInt8}
theorem argL_1 (h:wordL [44,125] l=none):argL rd mark l=none:=by unfold argL;rw[h];rfl
theorem argL_show {r:List UInt8} (h:wordL [44,125] l=some p) (h1:cutL [125] p.2=some r):argL rd mark l=some (⟨2,str p.1,0,[]⟩,r):=by
 unfold argL;rw[h,Option.bind_some,h1]
theorem argL_num {r:List UInt8} (h:wordL [44,125] l=some p) (h1:cutL [125] p.2=none) (h2:cutL numberS p.2=some r):argL rd mark l=some (⟨3,str p.1,0,[]⟩,r):=by
 unfold argL;rw[h,Option.bind_some,h1,h2]
theorem argL_sel {r:List UInt8} (h:wordL [44,125] l=some p) (h1:cutL [125] p.2=none) (h2:cutL numberS p.2=none) (h3:cutL selectS p.2=some r):argL rd mark l=(csL rd mark r).map fun q=>(⟨5,str p.1,0,q.1⟩,q.2):=by
 unfold argL;rw[h,Option.bind_some,h1,h2,h3]
theorem argL_plu (h:wordL [44,125] l=some p) (h1:cutL [125] p.2=none) (h2:cutL numberS p.2=none) (h3:cutL selectS p.2=none):argL rd mark l=(cutL pluralS p.2).bind fun r=>pluL rd (str p.1) r:=by
 unfold argL;rw[h,Option.bind_some,h1,h2,h3]
theorem pluL_no {t:ByteArray} {r:List UInt8} (h:cutL offsetS r=none):pluL rd t r=(csL rd true r).map fun q=>(⟨4,t,0,q.1⟩,q.2):=by unfold pluL;rw[h]
theorem pluL_off {t:ByteArray} {r r2:List UInt8} (h:cutL offsetS r=some r2):pluL rd t r=(wordL [32,125] r2).bind fun ww=>(offL ww.1).bind fun o=>(csL rd true ww.2).map fun q=>(⟨4,t,o,q.1⟩,q.2):=by unfold pluL;rw[h]
end
theorem RowOk.form {α:Type} {cel:α→Value→List Value} {sz:Nat} {P:Nat→Nat→World→Value→α→Prop} {lo hi:Nat} {W:World} {v:Value} {l:List α} (h:RowOk cel sz P lo hi W v l):∃ A c,v=.slice A l.length c:=by
 obtain⟨A,c,hv,_⟩:=h;exact⟨A,c,hv⟩
theorem one_toList (c:UInt8):(str [c]).toList=[c]:=by rw[ByteArray.toList_eq];rfl
theorem less_one (c d:UInt8):Op.bytesLess [c] [d]=decide (c.toNat < d.toNat):=by
 simp only[Op.bytesLess];rw[Bool.and_false,Bool.or_false]
 by_cases h:c < d
 ·rw[decide_eq_true h,decide_eq_true (UInt8.lt_iff_toNat_lt.1 h)]
 ·rw[decide_eq_false h,decide_eq_false (fun e=>h (UInt8.lt_iff_toNat_lt.2 e))]
theorem not_over (c:UInt8) (h:c.toNat≤57):(!decide (c.toNat < (57:UInt8).toNat) && !c == 57)=false:=by
 have h57:(57:UInt8).toNat=57:=rfl
 by_cases h1:c.toNat < 57
 ·rw[decide_eq_true (by rw[h57];exact h1)];rfl
 ·have:c=57:=UInt8.toNat_inj.1 (by omega)
  subst this;rfl
theorem over (c:UInt8) (h:57 < c.toNat):(!decide (c.toNat < (57:UInt8).toNat) && !c == 57)=true:=by
 have h57:(57:UInt8).toNat=57:=rfl;rw[decide_eq_false (by omega)]
 have:(c == 57)=false:=by
  rw[beq_eq_false_iff_ne];intro e;rw[e]at h;exact absurd h (by decide)
 rw[this];rfl
def ArgOk {β:Type} (M:Nat→Nat→World→Value→List β→Prop) (lo hi:Nat) (W:World) (v:Value) (x:NdF β):Prop:=∃ A c,v=.agg #[.int .i64 x.kind,.string x.text,.int .i64 x.off,.slice A x.cases.length c]∧MkC M lo hi W (.slice A x.cases.length c) x
structure ArgSt {β:Type} (M:Nat→Nat→World→Value→List β→Prop) (k g4 g5:Nat) (w:World) (x:NdF β) (A:Option Addr) (c:Nat) (W:World):Prop where
 fr:FrK k w W
 res:Blk W g4 197 #[.int .i64 0,.string ⟨#[]⟩,.int .i64 0,.slice none 0 0]
 nod:Blk W g5 197 #[.int .i64 x.kind,.string x.text,.int .i64 x.off,.slice A x.cases.length c]
 cas:MkC M (g5+1) W.heap.size W (.slice A x.cases.length c) x
 h4:w.heap.size≤g4
 h5:g4 < g5
 hk:k < w.heap.size
section
variable {β:Type} {M:Nat→Nat→World→Value→List β→Prop} {k g4 g5:Nat} {w W W':World} {x:NdF β} {A:Option Addr} {c:Nat}
theorem ArgSt.on (hM:PLaws M) (h:ArgSt M k g4 g5 w x A c W) (hF:FrK k W W'):ArgSt M k g4 g5 w x A c W':=
 ⟨h.fr.trans hF,h.res.fr hF (by have:=h.h4;have:=h.hk;show ¬ g4=k;omega),h.nod.fr hF (by have:=h.h4;have:=h.h5;have:=h.hk;show ¬ g5=k;omega),
  (mkC_laws hM).mono ((mkC_laws hM).keep h.cas fun g g1 g2=>hF.block g g2 (by have:=h.hk;have:=h.h4;have:=h.h5;show ¬ g=k;omega)) (Nat.le_refl _) hF.size,h.h4,h.h5,h.hk⟩
theorem ArgSt.kind {t:ByteArray} {o kd:Int} (h:ArgSt M k g4 g5 w ⟨kd,t,o,[]⟩ none 0 W) (kd':Int):ArgSt M k g4 g5 w ⟨kd',t,o,[]⟩ none 0 (W.setCell ⟨g5,0,none⟩ (.int .i64 kd')):=by
 have h4:=h.h4;have h5:=h.h5;exact⟨h.fr.setCell (p:=⟨g5,0,none⟩) (.inr (by show w.heap.size≤g5;omega)) _,h.res.far (p:=⟨g5,0,none⟩) (by show g4≠g5;omega) _,h.nod.set_ 0 _,RowOk.nil casC 2 _ _ _ _ _ _,h.h4,h.h5,h.hk⟩
theorem ArgSt.off {t:ByteArray} {o kd:Int} (h:ArgSt M k g4 g5 w ⟨kd,t,o,[]⟩ none 0 W) (o':Int):ArgSt M k g4 g5 w ⟨kd,t,o',[]⟩ none 0 (W.setCell ⟨g5,2,none⟩ (.int .i64 o')):=by
 have h4:=h.h4;have h5:=h.h5;exact⟨h.fr.setCell (p:=⟨g5,2,none⟩) (.inr (by show w.heap.size≤g5;omega)) _,h.res.far (p:=⟨g5,2,none⟩) (by show g4≠g5;omega) _,h.nod.set_ 2 _,RowOk.nil casC 2 _ _ _ _ _ _,h.h4,h.h5,h.hk⟩
theorem ArgSt.put (hM:PLaws M) {t:ByteArray} {o kd:Int} (h:ArgSt M k g4 g5 w ⟨kd,t,o,[]⟩ none 0 W) {cs:List (ByteArray×List β)} {B:Option Addr} {q:Nat} (hF:FrK k W W') (hc:RowOk casC 2 (MkB M) W.heap.size W'.heap.size W' (.slice B cs.length q) cs):
 ArgSt M k g4 g5 w ⟨kd,t,o,cs⟩ B q (W'.setCell ⟨g5,3,none⟩ (.slice B cs.length q)):=by
 have h':=h.on hM hF;have h4:=h.h4;have h5:=h.h5;have hl:=h.nod.lt;have hz:(W'.setCell ⟨g5,3,none⟩ (.slice B cs.length q)).heap.size=W'.heap.size:=by simp[World.setCell]
 refine⟨h'.fr.setCell (p:=⟨g5,3,none⟩) (.inr (by show w.heap.size≤g5;omega)) _,h'.res.far (p:=⟨g5,3,none⟩) (by show g4≠g5;omega) _,h'.nod.set_ 3 _,?_,h.h4,h.h5,h.hk⟩
 have hk:=(RowOk.laws casC 2 (MkB M) (mkB_laws hM)).keep (W':=W'.setCell ⟨g5,3,none⟩ (.slice B cs.length q)) hc fun g g1 _=>Below.heap_setCell _ _ _ _ (by show g≠g5;omega)
 exact(RowOk.laws casC 2 (MkB M) (mkB_laws hM)).mono hk hl (by rw[hz];exact Nat.le_refl _)
theorem ArgSt.done {d:Int} {r:List UInt8} {Q:Option (NdF β×List UInt8)} (hM:PLaws M) (h:ArgSt M k g4 g5 w x A c W) (hR:Rdr W k r d) (hQ:Q=some (x,r)):
 ReadR (ArgOk M) k d Q w (.returned (.agg #[.int .i64 x.kind,.string x.text,.int .i64 x.off,.slice A x.cases.length c])) ((((W.setCell ⟨g4,0,none⟩ (.int .i64 x.kind)).setCell ⟨g4,1,none⟩ (.string x.text)).setCell ⟨g4,2,none⟩ (.int .i64 x.off)).setCell ⟨g4,3,none⟩ (.slice A x.cases.length c)):=by
 have h4:=h.h4;have h5:=h.h5;have hk:=h.hk;have hs:∀ g,g≠g4→((((W.setCell ⟨g4,0,none⟩ (.int .i64 x.kind)).setCell ⟨g4,1,none⟩ (.string x.text)).setCell ⟨g4,2,none⟩ (.int .i64 x.off)).setCell ⟨g4,3,none⟩ (.slice A x.cases.length c)).heap[g]? =W.heap[g]? :=fun g hg=>by
  rw[Below.heap_setCell _ _ _ _ (by exact hg),Below.heap_setCell _ _ _ _ (by exact hg),Below.heap_setCell _ _ _ _ (by exact hg),Below.heap_setCell _ _ _ _ (by exact hg)]
 refine readR_some hQ ((((h.fr.setCell (p:=⟨g4,0,none⟩) (.inr h4) _).setCell (p:=⟨g4,1,none⟩) (.inr h4) _).setCell (p:=⟨g4,2,none⟩) (.inr h4) _).setCell (p:=⟨g4,3,none⟩) (.inr h4) _) ((hs k (by omega)).trans hR) ⟨A,c,rfl,?_⟩
 refine(mkC_laws hM).mono ((mkC_laws hM).keep h.cas fun g g1 _=>hs g (by omega)) (by omega) ?_
 simp[World.setCell]
end
set_option maxHeartbeats 6400000 in
set_option maxRecDepth 100000 in
theorem arg_walk {β:Type} {M:Nat→Nat→World→Value→List β→Prop} (hM:PLaws M) (rd:Bool→List UInt8→Option (List β×List UInt8)) (k:Nat) (d:Int) (mark:Bool) (l:List UInt8) (w:World) (h:Rdr w k l d) (hl:l.length≤2000)
 (HCs:Hid (∀ mark l W,Rdr W k l d→l.length≤2000→Calls Tryz.prog 186 #[.pointer (some ⟨k,0,none⟩),.bool mark] W fun e w'=>ReadR (RowOk casC 2 (MkB M)) k d (csL rd mark l) W e w')):
 Calls Tryz.prog 134 #[.pointer (some ⟨k,0,none⟩),.bool mark] w fun e w'=>ReadR (ArgOk M) k d (argL rd mark l) w e w':=by
 have hk:=h.lt;obtain⟨Q,hQ⟩:∃ Q,Q=argL rd mark l:=⟨_,rfl⟩;rw[←hQ];have HQ:=hid hQ;obtain⟨W1,eW1⟩:∃ W1,W1=w.alloc (.cells #[.int .i64 0,.string ⟨#[]⟩,.int .i64 0,.slice none 0 0] 197):=⟨_,rfl⟩;have hb1:Below w.heap.size w W1:=by rw[eW1];exact(Below.refl _ _).alloc (Nat.le_refl _) _
 have hr1:Blk W1 w.heap.size 197 #[.int .i64 0,.string ⟨#[]⟩,.int .i64 0,.slice none 0 0]:=by rw[eW1];exact Blk.new _ _ _
 have HWd:Hid (Calls Tryz.prog 185 #[.pointer (some ⟨k,0,none⟩),.string ⟨#[44,125]⟩] W1 fun e w'=>WordR k d l (wordL [44,125] l) W1 e w'):=hid (word_any k l d ⟨#[44,125]⟩ W1 (h.on hb1) (by omega) idx_ends)
 have HB1:=hid hb1;have HR1:=hid hr1;have EW1:=hid eW1;have HM:=hid hM;clear hQ h hb1 hr1 eW1
 go_enter Tryz.func134,Tryz.ntmps134
 go_wp2_with fail
 rw[←EW1.out];clear EW1;cases h1:wordL [44,125] l with
 | none=>
   rw[h1]at HWd;have HE:Hid (Q=none):=hid (by rw[HQ.out,argL_1 h1])
   clear HQ h1;refine HWd.out.mono ?_;clear HWd;rintro e w2 ⟨hF2,rfl,hR2⟩;have HR2:=hid (And.intro hR2 ((Fr.of_below HB1.out (· =k)).trans hF2));clear hR2 hF2
   go_wp2_with fail
   exact⟨rfl,readR_none HE.out HR2.out.2 HR2.out.1⟩
 | some p=>
   rw[h1]at HWd;have hc1:=wordL_len h1;refine HWd.out.mono ?_;clear HWd;rintro e w2 ⟨hF2,rfl,hR2⟩;obtain⟨W3,eW3⟩:∃ W3,W3=w2.alloc (.cells #[.int .i64 2,.string (str p.1),.int .i64 0,.slice none 0 0] 197):=⟨_,rfl⟩;have hb3:Below w2.heap.size w2 W3:=by rw[eW3];exact(Below.refl _ _).alloc (Nat.le_refl _) _
   have hx3:Blk W3 w2.heap.size 197 #[.int .i64 2,.string (str p.1),.int .i64 0,.slice none 0 0]:=by rw[eW3];exact Blk.new _ _ _
   have hr2:=HR1.out.fr hF2 (by show ¬ w.heap.size=k;omega)
   have hF3:=((Fr.of_below HB1.out (· =k)).trans hF2).then_below hb3;have HS3:Hid (ArgSt M k w.heap.size w2.heap.size w ⟨2,str p.1,0,[]⟩ none 0 W3):=hid ⟨hF3,hr2.below hb3 hr2.lt,hx3,RowOk.nil casC 2 _ _ _ _ _ _,Nat.le_refl _,hr2.lt,hk⟩;have HR3:=hid (hR2.on hb3);have EW3:=hid eW3;obtain⟨g5,hg5⟩:∃ g5,g5=w2.heap.size:=⟨_,rfl⟩;rw[←hg5]at HS3;have HG5:=hid hg5;clear hF2 hR2 hb3 hx3 hr2 hF3 eW3 hg5 HB1 HR1;have HCt:Hid (∀(head:ByteArray) W r,Rdr W k r d→Calls Tryz.prog 133 #[.pointer (some ⟨k,0,none⟩),.string head] W fun e w'=>e=.returned (.bool (cutL (bts head) r).isSome)∧Rdr w' k ((cutL (bts head) r).getD r) d∧FrK k W w'):=hid fun head W r hr=>cut_any k r d head W hr;have HQ4:Hid (Calls Tryz.prog 133 #[.pointer (some ⟨k,0,none⟩),.string ⟨#[125]⟩] W3 fun e w'=>e=.returned (.bool (cutL [125] p.2).isSome)∧Rdr w' k ((cutL [125] p.2).getD p.2) d∧FrK k W3 w'):=hid (HCt.out ⟨#[125]⟩ W3 p.2 HR3.out)
   go_wp2_with fail
   rw[←EW3.out,←HG5.out];clear EW3 HG5;cases h2:cutL [125] p.2 with
   | some r=>
     rw[h2]at HQ4;have HE:Hid (Q=some (⟨2,str p.1,0,[]⟩,r)):=hid (by rw[HQ.out,argL_show h1 h2])
     clear HQ h1 h2 HCs HCt;refine HQ4.out.mono ?_;clear HQ4;rintro e w4 ⟨rfl,hR4,hF4⟩;have HR4:Hid (Rdr w4 k r d):=hid hR4;have HS4:=hid (HS3.out.on HM.out hF4);clear hR4 hF4 HS3 HR3;have hS_:=HS4.out;have k0:=(hS_.nod.cell 0).trans (show _=some (.int .i64 _)from rfl);have k1:=(hS_.nod.cell 1).trans (show _=some (.string _)from rfl);have k2:=(hS_.nod.cell 2).trans (show _=some (.int .i64 _)from rfl);have k3:=(hS_.nod.cell 3).trans (show _=some (.slice _ _ _)from rfl);have r0:=(hS_.res.cell 0).trans (show _=some (.int .i64 0)from rfl);have r1:=(hS_.res.cell 1).trans (show _=some (.string ⟨#[]⟩)from rfl);have r2:=(hS_.res.cell 2).trans (show _=some (.int .i64 0)from rfl);have r3:=(hS_.res.cell 3).trans (show _=some (.slice none 0 0)from rfl);have f0:=hS_.res.frozen 0;have f1:=hS_.res.frozen 1;have f2:=hS_.res.frozen 2;have f3:=hS_.res.frozen 3;have HD:=hid (hS_.done HM.out HR4.out HE.out);clear hS_;dsimp only at k0 k1 k2 k3 HD
     go_wp2_with fail
     refine bodyPost_ret ?_ rfl HD.out;simp[results,Tryz.results134,go_sem,r0,r1,r2,r3,f0,f1,f2,f3]
   | none=>
     rw[h2]at HQ4;refine HQ4.out.mono ?_;clear HQ4;rintro e w4 ⟨rfl,hR4,hF4⟩;have hR4:Rdr w4 k p.2 d:=hR4;have HS4:=hid (HS3.out.on HM.out hF4);have HQ5:Hid (Calls Tryz.prog 133 #[.pointer (some ⟨k,0,none⟩),.string ⟨#[44,32,110,117,109,98,101,114,125]⟩] w4 fun e w'=>e=.returned (.bool (cutL numberS p.2).isSome)∧Rdr w' k ((cutL numberS p.2).getD p.2) d∧FrK k w4 w'):=hid (HCt.out ⟨#[44,32,110,117,109,98,101,114,125]⟩ w4 p.2 hR4);clear hR4 hF4 HS3 HR3
     go_wp2_with fail
     cases h3:cutL numberS p.2 with
     | some r=>
       rw[h3]at HQ5;have HE:Hid (Q=some (⟨3,str p.1,0,[]⟩,r)):=hid (by rw[HQ.out,argL_num h1 h2 h3])
       clear HQ h1 h2 h3 HCs HCt;refine HQ5.out.mono ?_;clear HQ5;rintro e w5 ⟨rfl,hR5,hF5⟩;have hR5:Rdr w5 k r d:=hR5;have hS5:=HS4.out.on HM.out hF5;have x0:=(hS5.nod.cell 0).trans (show _=some (.int .i64 2)from rfl);have xf:=hS5.nod.frozen 0;obtain⟨W6,eW6⟩:∃ W6,W6=w5.setCell ⟨g5,0,none⟩ (.int .i64 3):=⟨_,rfl⟩;have hg5:g5≠k:=by have:=hS5.h4;have:=hS5.h5;omega
       have HS6:Hid (ArgSt M k w.heap.size g5 w ⟨3,str p.1,0,[]⟩ none 0 W6):=hid (by rw[eW6];exact hS5.kind 3)
       have HR6:Hid (Rdr W6 k r d):=hid (by rw[eW6];exact Blk.far (t:=149) hR5 (p:=⟨g5,0,none⟩) (fun e=>hg5 e.symm) _)
       have EW6:=hid eW6;clear hR5 hF5 hS5 HS4 eW6
       go_upto_region 16 with fail
       rw[←EW6.out];clear EW6 x0 xf;have hS_:=HS6.out;have k0:=(hS_.nod.cell 0).trans (show _=some (.int .i64 _)from rfl);have k1:=(hS_.nod.cell 1).trans (show _=some (.string _)from rfl);have k2:=(hS_.nod.cell 2).trans (show _=some (.int .i64 _)from rfl);have k3:=(hS_.nod.cell 3).trans (show _=some (.slice _ _ _)from rfl);have r0:=(hS_.res.cell 0).trans (show _=some (.int .i64 0)from rfl);have r1:=(hS_.res.cell 1).trans (show _=some (.string ⟨#[]⟩)from rfl);have r2:=(hS_.res.cell 2).trans (show _=some (.int .i64 0)from rfl);have r3:=(hS_.res.cell 3).trans (show _=some (.slice none 0 0)from rfl);have f0:=hS_.res.frozen 0;have f1:=hS_.res.frozen 1;have f2:=hS_.res.frozen 2;have f3:=hS_.res.frozen 3;have HD:=hid (hS_.done HM.out HR6.out HE.out);clear hS_;dsimp only at k0 k1 k2 k3 HD
       go_wp2_with fail
       refine bodyPost_ret ?_ rfl HD.out;simp[results,Tryz.results134,go_sem,r0,r1,r2,r3,f0,f1,f2,f3]
     | none=>
       rw[h3]at HQ5;refine HQ5.out.mono ?_;clear HQ5;rintro e w5 ⟨rfl,hR5,hF5⟩;have hR5:Rdr w5 k p.2 d:=hR5;have HS5:=hid (HS4.out.on HM.out hF5);have HQ6:Hid (Calls Tryz.prog 133 #[.pointer (some ⟨k,0,none⟩),.string ⟨#[44,32,115,101,108,101,99,116,44]⟩] w5 fun e w'=>e=.returned (.bool (cutL selectS p.2).isSome)∧Rdr w' k ((cutL selectS p.2).getD p.2) d∧FrK k w5 w'):=hid (HCt.out ⟨#[44,32,115,101,108,101,99,116,44]⟩ w5 p.2 hR5);clear hR5 hF5 HS4
       go_wp2_with fail
       cases h4:cutL selectS p.2 with
       | some r=>
         rw[h4]at HQ6;have hc4:=cutL_len h4;have HQc:Hid (Q=(csL rd mark r).map fun q=>(⟨5,str p.1,0,q.1⟩,q.2)):=hid (by rw[HQ.out,argL_sel h1 h2 h3 h4])
         clear HQ h1 h2 h3 h4 HCt;refine HQ6.out.mono ?_;clear HQ6;rintro e w6 ⟨rfl,hR6,hF6⟩;have hR6:Rdr w6 k r d:=hR6;have hS6:=HS5.out.on HM.out hF6;have hS_:=hS6;have x0:=(hS_.nod.cell 0).trans (show _=some (.int .i64 2)from rfl);have xf:=hS_.nod.frozen 0;obtain⟨W7,eW7⟩:∃ W7,W7=w6.setCell ⟨g5,0,none⟩ (.int .i64 5):=⟨_,rfl⟩;have hg5:g5≠k:=by have:=hS_.h4;have:=hS_.h5;omega
         have HS7:Hid (ArgSt M k w.heap.size g5 w ⟨5,str p.1,0,[]⟩ none 0 W7):=hid (by rw[eW7];exact hS_.kind 5)
         have HR7:Hid (Rdr W7 k r d):=hid (by rw[eW7];exact Blk.far (t:=149) hR6 (p:=⟨g5,0,none⟩) (fun e=>hg5 e.symm) _)
         have EW7:=hid eW7;clear hS_ eW7 hg5;have HC7:=hid (HCs.out mark r W7 HR7.out (by omega))
         clear hR6 hF6 hS6 HS5 HR7
         go_wp2_with fail
         rw[←EW7.out];clear EW7 x0 xf;cases h9:csL rd mark r with
         | none=>
           rw[h9]at HC7;have HE:Hid (Q=none):=hid (by rw[HQc.out,h9];rfl)
           clear HQc h9 HCs;refine HC7.out.mono ?_;clear HC7;rintro e w9 ⟨hF9,rfl,l9,d9,hR9⟩;have HR9:=hid (And.intro hR9 (HS7.out.fr.trans hF9));clear hR9 hF9
           go_wp2_with fail
           exact⟨rfl,readR_none HE.out HR9.out.2 HR9.out.1⟩
         | some q=>
           rw[h9]at HC7;have HE:Hid (Q=some (⟨5,str p.1,0,q.1⟩,q.2)):=hid (by rw[HQc.out,h9];rfl)
           clear HQc h9 HCs;refine HC7.out.mono ?_;clear HC7;rintro e w9 ⟨hF9,v9,rfl,hR9,hC9⟩;obtain⟨B9,c9,rfl⟩:=hC9.form;have hS9:=HS7.out.on HM.out hF9;have x3:=(hS9.nod.cell 3).trans (show _=some (.slice none 0 0)from rfl);have xf:=hS9.nod.frozen 3;obtain⟨W10,eW10⟩:∃ W10,W10=w9.setCell ⟨g5,3,none⟩ (.slice B9 q.1.length c9):=⟨_,rfl⟩;have hg5:g5≠k:=by have:=hS9.h4;have:=hS9.h5;omega
           have HS10:Hid (ArgSt M k w.heap.size g5 w ⟨5,str p.1,0,q.1⟩ B9 c9 W10):=hid (by rw[eW10];exact HS7.out.put HM.out hF9 hC9)
           have HR10:Hid (Rdr W10 k q.2 d):=hid (by rw[eW10];exact Blk.far (t:=149) hR9 (p:=⟨g5,3,none⟩) (fun e=>hg5 e.symm) _)
           have EW10:=hid eW10;clear hR9 hF9 hC9 hS9 HS7 eW10
           go_upto_region 16 with fail
           rw[←EW10.out];clear EW10 x3 xf;have hS_:=HS10.out;have k0:=(hS_.nod.cell 0).trans (show _=some (.int .i64 _)from rfl);have k1:=(hS_.nod.cell 1).trans (show _=some (.string _)from rfl);have k2:=(hS_.nod.cell 2).trans (show _=some (.int .i64 _)from rfl);have k3:=(hS_.nod.cell 3).trans (show _=some (.slice _ _ _)from rfl);have r0:=(hS_.res.cell 0).trans (show _=some (.int .i64 0)from rfl);have r1:=(hS_.res.cell 1).trans (show _=some (.string ⟨#[]⟩)from rfl);have r2:=(hS_.res.cell 2).trans (show _=some (.int .i64 0)from rfl);have r3:=(hS_.res.cell 3).trans (show _=some (.slice none 0 0)from rfl);have f0:=hS_.res.frozen 0;have f1:=hS_.res.frozen 1;have f2:=hS_.res.frozen 2;have f3:=hS_.res.frozen 3;have HD:=hid (hS_.done HM.out HR10.out HE.out);clear hS_;dsimp only at k0 k1 k2 k3 HD
           go_wp2_with fail
           refine bodyPost_ret ?_ rfl HD.out;simp[results,Tryz.results134,go_sem,r0,r1,r2,r3,f0,f1,f2,f3]
       | none=>
         rw[h4]at HQ6;refine HQ6.out.mono ?_;clear HQ6;rintro e w6 ⟨rfl,hR6,hF6⟩;have hR6:Rdr w6 k p.2 d:=hR6;have HS6:=hid (HS5.out.on HM.out hF6);have HN6:Hid (Calls Tryz.prog 187 #[.pointer (some ⟨k,0,none⟩),.string ⟨#[44,32,112,108,117,114,97,108,44]⟩] w6 fun e w'=>NeedR k d p.2 (cutL pluralS p.2) w6 e w'):=hid (need_any k p.2 d ⟨#[44,32,112,108,117,114,97,108,44]⟩ w6 hR6);have HQ2:=hid (HQ.out.trans (argL_plu h1 h2 h3 h4));clear hR6 hF6 HS5 HQ h1 h2 h3 h4
         go_wp2_with fail
         cases h5:cutL pluralS p.2 with
         | none=>
           rw[h5]at HN6;have HE:Hid (Q=none):=hid (by rw[HQ2.out,h5];rfl)
           clear HQ2 h5 HCt HCs;refine HN6.out.mono ?_;clear HN6;rintro e w7 ⟨hF7,rfl,hR7⟩;have HR7:=hid (And.intro hR7 (HS6.out.fr.trans hF7));clear hR7 hF7
           go_wp2_with fail
           exact⟨rfl,readR_none HE.out HR7.out.2 HR7.out.1⟩
         | some r=>
           rw[h5]at HN6;have hc5:=cutL_len h5;have HQ3:Hid (Q=pluL rd (str p.1) r):=hid (by rw[HQ2.out,h5,Option.bind_some])
           clear HQ2 h5;refine HN6.out.mono ?_;clear HN6;rintro e w7 ⟨hF7,rfl,hR7⟩;have hS7:=HS6.out.on HM.out hF7;have hS_:=hS7;have x0:=(hS_.nod.cell 0).trans (show _=some (.int .i64 2)from rfl);have xf:=hS_.nod.frozen 0;obtain⟨W7,eW7⟩:∃ W7,W7=w7.setCell ⟨g5,0,none⟩ (.int .i64 4):=⟨_,rfl⟩;have hg5:g5≠k:=by have:=hS_.h4;have:=hS_.h5;omega
           have HS7:Hid (ArgSt M k w.heap.size g5 w ⟨4,str p.1,0,[]⟩ none 0 W7):=hid (by rw[eW7];exact hS_.kind 4)
           have HR7:Hid (Rdr W7 k r d):=hid (by rw[eW7];exact Blk.far (t:=149) hR7 (p:=⟨g5,0,none⟩) (fun e=>hg5 e.symm) _)
           have EW7:=hid eW7;clear hS_ eW7 hg5;have HQ7:Hid (Calls Tryz.prog 133 #[.pointer (some ⟨k,0,none⟩),.string ⟨#[32,111,102,102,115,101,116,58]⟩] W7 fun e w'=>e=.returned (.bool (cutL offsetS r).isSome)∧Rdr w' k ((cutL offsetS r).getD r) d∧FrK k W7 w'):=hid (HCt.out ⟨#[32,111,102,102,115,101,116,58]⟩ W7 r HR7.out);clear hR7 hF7 hS7 HS6 HR7 HCt
           go_wp2_with fail
           rw[←EW7.out];clear EW7 x0 xf;cases h6:cutL offsetS r with
           | none=>
             rw[h6]at HQ7;have HQc:Hid (Q=(csL rd true r).map fun q=>(⟨4,str p.1,0,q.1⟩,q.2)):=hid (by rw[HQ3.out,pluL_no h6])
             clear HQ3 h6;refine HQ7.out.mono ?_;clear HQ7;rintro e w8 ⟨rfl,hR8,hF8⟩;have hR8:Rdr w8 k r d:=hR8;have HS8:=hid (HS7.out.on HM.out hF8);have HC8:=hid (HCs.out true r w8 hR8 (by omega))
             clear hR8 hF8 HS7
             go_wp2_with fail
             cases h9:csL rd true r with
             | none=>
               rw[h9]at HC8;have HE:Hid (Q=none):=hid (by rw[HQc.out,h9];rfl)
               clear HQc h9 HCs;refine HC8.out.mono ?_;clear HC8;rintro e w9 ⟨hF9,rfl,l9,d9,hR9⟩;have HR9:=hid (And.intro hR9 (HS8.out.fr.trans hF9));clear hR9 hF9
               go_wp2_with fail
               exact⟨rfl,readR_none HE.out HR9.out.2 HR9.out.1⟩
             | some q=>
               rw[h9]at HC8;have HE:Hid (Q=some (⟨4,str p.1,0,q.1⟩,q.2)):=hid (by rw[HQc.out,h9];rfl)
               clear HQc h9 HCs;refine HC8.out.mono ?_;clear HC8;rintro e w9 ⟨hF9,v9,rfl,hR9,hC9⟩;obtain⟨B9,c9,rfl⟩:=hC9.form;have hS9:=HS8.out.on HM.out hF9;have x3:=(hS9.nod.cell 3).trans (show _=some (.slice none 0 0)from rfl);have xf:=hS9.nod.frozen 3;obtain⟨W10,eW10⟩:∃ W10,W10=w9.setCell ⟨g5,3,none⟩ (.slice B9 q.1.length c9):=⟨_,rfl⟩;have hg5:g5≠k:=by have:=hS9.h4;have:=hS9.h5;omega
               have HS10:Hid (ArgSt M k w.heap.size g5 w ⟨4,str p.1,0,q.1⟩ B9 c9 W10):=hid (by rw[eW10];exact HS8.out.put HM.out hF9 hC9)
               have HR10:Hid (Rdr W10 k q.2 d):=hid (by rw[eW10];exact Blk.far (t:=149) hR9 (p:=⟨g5,3,none⟩) (fun e=>hg5 e.symm) _)
               have EW10:=hid eW10;clear hR9 hF9 hC9 hS9 HS8 eW10
               go_upto_region 16 with fail
               rw[←EW10.out];clear EW10 x3 xf;have hS_:=HS10.out;have k0:=(hS_.nod.cell 0).trans (show _=some (.int .i64 _)from rfl);have k1:=(hS_.nod.cell 1).trans (show _=some (.string _)from rfl);have k2:=(hS_.nod.cell 2).trans (show _=some (.int .i64 _)from rfl);have k3:=(hS_.nod.cell 3).trans (show _=some (.slice _ _ _)from rfl);have r0:=(hS_.res.cell 0).trans (show _=some (.int .i64 0)from rfl);have r1:=(hS_.res.cell 1).trans (show _=some (.string ⟨#[]⟩)from rfl);have r2:=(hS_.res.cell 2).trans (show _=some (.int .i64 0)from rfl);have r3:=(hS_.res.cell 3).trans (show _=some (.slice none 0 0)from rfl);have f0:=hS_.res.frozen 0;have f1:=hS_.res.frozen 1;have f2:=hS_.res.frozen 2;have f3:=hS_.res.frozen 3;have HD:=hid (hS_.done HM.out HR10.out HE.out);clear hS_;dsimp only at k0 k1 k2 k3 HD
               go_wp2_with fail
               refine bodyPost_ret ?_ rfl HD.out;simp[results,Tryz.results134,go_sem,r0,r1,r2,r3,f0,f1,f2,f3]
           | some r2=>
             rw[h6]at HQ7;have hc6:=cutL_len h6;have HQ4:=hid (HQ3.out.trans (pluL_off h6));clear HQ3 h6;refine HQ7.out.mono ?_;clear HQ7;rintro e w8 ⟨rfl,hR8,hF8⟩;have hR8:Rdr w8 k r2 d:=hR8;have HS8:=hid (HS7.out.on HM.out hF8);have HW8:Hid (Calls Tryz.prog 185 #[.pointer (some ⟨k,0,none⟩),.string ⟨#[32,125]⟩] w8 fun e w'=>WordR k d r2 (wordL [32,125] r2) w8 e w'):=hid (word_any k r2 d ⟨#[32,125]⟩ w8 hR8 (by omega) idx_off)
             clear hR8 hF8 HS7
             go_wp2_with fail
             cases h7:wordL [32,125] r2 with
             | none=>
               rw[h7]at HW8;have HE:Hid (Q=none):=hid (by rw[HQ4.out,h7];rfl)
               clear HQ4 h7 HCs;refine HW8.out.mono ?_;clear HW8;rintro e w9 ⟨hF9,rfl,hR9⟩;have HR9:=hid (And.intro hR9 (HS8.out.fr.trans hF9));clear hR9 hF9
               go_wp2_with fail
               exact⟨rfl,readR_none HE.out HR9.out.2 HR9.out.1⟩
             | some ww=>
               rw[h7]at HW8;have hc7:=wordL_len h7;have HQ5:Hid (Q=(offL ww.1).bind fun o=>(csL rd true ww.2).map fun q=>(⟨4,str p.1,o,q.1⟩,q.2)):=hid (by rw[HQ4.out,h7,Option.bind_some])
               clear HQ4 h7;refine HW8.out.mono ?_;clear HW8;rintro e w9 ⟨hF9,rfl,hR9⟩;have HS9:=hid (HS8.out.on HM.out hF9);have HR9:=hid hR9;clear hR9 hF9 HS8;obtain⟨wd,rr⟩:=ww;dsimp only at *;have hsz:=str_size wd
               by_cases hw1:wd.length=1
               ·obtain⟨c,rfl⟩:=List.length_eq_one_iff.1 hw1;have hz1:(str [c]).size=1:=rfl;have htl:(str [c]).toList=[c]:=one_toList c;have hc0:(str [c])[0]'(by rw[hz1];decide)=c:=rfl
                have hlt:=c.toNat_lt
                by_cases hok:49≤c.toNat∧c.toNat≤57
                ·have b1:Op.bytesLess [c] [49]=false:=by rw[less_one];exact decide_eq_false (by show ¬ c.toNat < 49;omega)
                 have b2:(!Op.bytesLess [c] [57] && !c == 57)=false:=by rw[less_one];exact not_over c hok.2
                 have hof:offL [c]=some ((c.toNat:Int) - 48):=if_pos hok;have HQ6:Hid (Q=(csL rd true rr).map fun q=>(⟨4,str p.1,(c.toNat:Int) - 48,q.1⟩,q.2)):=hid (by rw[HQ5.out,hof,Option.bind_some])
                 have hm:((c.toNat:Int) - 48) % 256=(c.toNat:Int) - 48:=by omega
                 have hS9:=HS9.out;have x2:=(hS9.nod.cell 2).trans (show _=some (.int .i64 0)from rfl);have xf:=hS9.nod.frozen 2;obtain⟨W11,eW11⟩:∃ W11,W11=w9.setCell ⟨g5,2,none⟩ (.int .i64 ((c.toNat:Int) - 48)):=⟨_,rfl⟩;have hg5:g5≠k:=by have:=hS9.h4;have:=hS9.h5;omega
                 have HS11:Hid (ArgSt M k w.heap.size g5 w ⟨4,str p.1,(c.toNat:Int) - 48,[]⟩ none 0 W11):=hid (by rw[eW11];exact hS9.off _)
                 have hR11:Rdr W11 k rr d:=by rw[eW11];exact Blk.far (t:=149) HR9.out (p:=⟨g5,2,none⟩) (fun e=>hg5 e.symm) _
                 have HC11:=hid (HCs.out true rr W11 hR11 (by omega))
                 have EW11:=hid eW11;clear hof HQ5 hS9 hg5 hR11 eW11 HS9 HR9 hok
                 go_wp2_with fail
                 rw[←EW11.out];clear EW11 x2 xf b1 b2 hm hc0;cases h9:csL rd true rr with
                 | none=>
                   rw[h9]at HC11;have HE:Hid (Q=none):=hid (by rw[HQ6.out,h9];rfl)
                   clear HQ6 h9 HCs;refine HC11.out.mono ?_;clear HC11;rintro e w9 ⟨hF9,rfl,l9,d9,hR9⟩;have HR9:=hid (And.intro hR9 (HS11.out.fr.trans hF9));clear hR9 hF9
                   go_wp2_with fail
                   exact⟨rfl,readR_none HE.out HR9.out.2 HR9.out.1⟩
                 | some q=>
                   rw[h9]at HC11;have HE:Hid (Q=some (⟨4,str p.1,(c.toNat:Int) - 48,q.1⟩,q.2)):=hid (by rw[HQ6.out,h9];rfl)
                   clear HQ6 h9 HCs;refine HC11.out.mono ?_;clear HC11;rintro e w9 ⟨hF9,v9,rfl,hR9,hC9⟩;obtain⟨B9,c9,rfl⟩:=hC9.form;have hS9:=HS11.out.on HM.out hF9;have x3:=(hS9.nod.cell 3).trans (show _=some (.slice none 0 0)from rfl);have xf:=hS9.nod.frozen 3;obtain⟨W10,eW10⟩:∃ W10,W10=w9.setCell ⟨g5,3,none⟩ (.slice B9 q.1.length c9):=⟨_,rfl⟩;have hg5:g5≠k:=by have:=hS9.h4;have:=hS9.h5;omega
                   have HS10:Hid (ArgSt M k w.heap.size g5 w ⟨4,str p.1,(c.toNat:Int) - 48,q.1⟩ B9 c9 W10):=hid (by rw[eW10];exact HS11.out.put HM.out hF9 hC9)
                   have HR10:Hid (Rdr W10 k q.2 d):=hid (by rw[eW10];exact Blk.far (t:=149) hR9 (p:=⟨g5,3,none⟩) (fun e=>hg5 e.symm) _)
                   have EW10:=hid eW10;clear hR9 hF9 hC9 hS9 HS11 eW10
                   go_upto_region 16 with fail
                   rw[←EW10.out];clear EW10 x3 xf;have hS_:=HS10.out;have k0:=(hS_.nod.cell 0).trans (show _=some (.int .i64 _)from rfl);have k1:=(hS_.nod.cell 1).trans (show _=some (.string _)from rfl);have k2:=(hS_.nod.cell 2).trans (show _=some (.int .i64 _)from rfl);have k3:=(hS_.nod.cell 3).trans (show _=some (.slice _ _ _)from rfl);have r0:=(hS_.res.cell 0).trans (show _=some (.int .i64 0)from rfl);have r1:=(hS_.res.cell 1).trans (show _=some (.string ⟨#[]⟩)from rfl);have r2:=(hS_.res.cell 2).trans (show _=some (.int .i64 0)from rfl);have r3:=(hS_.res.cell 3).trans (show _=some (.slice none 0 0)from rfl);have f0:=hS_.res.frozen 0;have f1:=hS_.res.frozen 1;have f2:=hS_.res.frozen 2;have f3:=hS_.res.frozen 3;have HD:=hid (hS_.done HM.out HR10.out HE.out);clear hS_;dsimp only at k0 k1 k2 k3 HD
                   go_wp2_with fail
                   refine bodyPost_ret ?_ rfl HD.out;simp[results,Tryz.results134,go_sem,r0,r1,r2,r3,f0,f1,f2,f3]
                ·have HE:Hid (Q=none):=hid (by rw[HQ5.out,show offL [c]=none from if_neg hok];rfl)
                 have HRE:=hid (And.intro HR9.out HS9.out.fr);clear HQ5 HCs HS9 HR9
                 by_cases hlo:c.toNat < 49
                 ·have b1:Op.bytesLess [c] [49]=true:=by rw[less_one];exact decide_eq_true hlo
                  go_wp2_with fail
                  exact⟨rfl,readR_none HE.out HRE.out.2 HRE.out.1⟩
                 ·have b1:Op.bytesLess [c] [49]=false:=by rw[less_one];exact decide_eq_false (by show ¬ c.toNat < 49;omega)
                  have b2:(!Op.bytesLess [c] [57] && !c == 57)=true:=by rw[less_one];exact over c (by omega)
                  go_wp2_with fail
                  exact⟨rfl,readR_none HE.out HRE.out.2 HRE.out.1⟩
               ·have hn1:(((str wd).size:Int) != 1)=true:=by rw[bne_iff_ne];omega
                have hn2:((wd.length:Int) != 1)=true:=by rw[bne_iff_ne];omega
                have HE:Hid (Q=none):=hid (by rw[HQ5.out];unfold offL;split <;> first|rfl|(exfalso;apply hw1;rfl))
                have HRE:=hid (And.intro HR9.out HS9.out.fr);clear HQ5 HCs HS9 HR9
                go_wp2_with fail
                exact⟨rfl,readR_none HE.out HRE.out.2 HRE.out.1⟩
end Go.Proofs.YtagfnpdoooachaaGreatDoor
