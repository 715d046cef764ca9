/- The clock cache: what it is in memory, and what each of its methods does. -/
import Derived.Test.YtpfmmbbggcghiaaGreatDoorTrim
import Derived.StillTailTactics
set_option linter.unusedSimpArgs false
set_option linter.unusedVariables false
set_option maxHeartbeats 1600000
namespace Go.Proofs.YtpfmmbbggcghiaaGreatDoor
open Go.RowKit
open Lib (hid)
structure Plc where
 key:ByteArray
 val:ByteArray
 used:Bool
 mark:Bool
def Plc.cells (p:Plc):List Value:=[.string p.key,.string p.val,.bool p.used,.bool p.mark]
def cellsOf (ps:List Plc):List Value:=ps.flatMap Plc.cells
def Plc.zero:Plc:=⟨ByteArray.empty,ByteArray.empty,false,false⟩
theorem cellsOf_length (ps:List Plc):(cellsOf ps).length=ps.length*4:=by
 induction ps with
 | nil=>rfl
 | cons p r ih=>
   have e:cellsOf (p::r)=p.cells++cellsOf r:=by simp[cellsOf]
   have l:p.cells.length=4:=rfl;rw[e,List.length_append,ih,l,List.length_cons];omega
theorem cells_at (ps:List Plc) (j i:Nat) (h:j < ps.length) (hi:i < 4):(cellsOf ps)[j*4+i]? =(ps[j].cells)[i]? :=by
 induction ps generalizing j with
 | nil=>simp at h
 | cons p r ih=>
   have e:cellsOf (p::r)=p.cells++cellsOf r:=by simp[cellsOf]
   have l:p.cells.length=4:=rfl;rw[e];cases j with
   | zero=>rw[List.getElem?_append_left (by omega)];simp
   | succ j=>
     rw[List.getElem?_append_right (by omega),l,show(j+1)*4+i - 4=j*4+i from by omega]
     simpa using ih j (by simpa using h)
theorem cells_set (ps:List Plc) (j i:Nat) (u:Value) (p:Plc) (h:j < ps.length) (hi:i < 4) (hp:p.cells=(ps[j].cells).set i u):(cellsOf ps).set (j*4+i) u=cellsOf (ps.set j p):=by
 induction ps generalizing j with
 | nil=>simp at h
 | cons q r ih=>
   have e:∀ q r,cellsOf (q::r)=q.cells++cellsOf r:=by simp[cellsOf]
   have l:q.cells.length=4:=rfl;rw[e];cases j with
   | zero=>
     rw[List.set_append_left _ _ (by omega)]
     simp only[List.set_cons_zero,e];rw[hp];simp
   | succ j=>
     rw[List.set_append_right _ _ (by omega),l,show(j+1)*4+i - 4=j*4+i from by omega,ih j (by simpa using h) (by simpa using hp)]
     simp only[List.set_cons_succ,e]
def Cach (w:World) (bc bp:Nat) (ps:List Plc) (hand:Nat):Prop:=
 Blk w bc 139 #[.slice (some ⟨bp,0,none⟩) ps.length ps.length,.int .i64 hand]∧Blk w bp 206 (cellsOf ps).toArray
def CS (bc bp:Nat):Nat→Prop:=fun k=>k=bc∨k=bp
section
variable {w w':World} {bc bp hand:Nat} {ps:List Plc}
theorem Cach.ne (h:Cach w bc bp ps hand):bc≠bp:=by
 rintro rfl;obtain⟨h1,h2⟩:=h;unfold Blk at h1 h2;rw[h1]at h2;injection h2 with h2;injection h2 with _ h2;exact absurd h2 (by decide)
theorem Cach.row (h:Cach w bc bp ps hand) (j:Nat) (hj:j < ps.length):
 w.cell? ⟨bp,j*4,none⟩=some (.string ps[j].key)∧w.cell? ⟨bp,j*4+1,none⟩=some (.string ps[j].val)∧w.cell? ⟨bp,j*4+2,none⟩=some (.bool ps[j].used)∧w.cell? ⟨bp,j*4+3,none⟩=some (.bool ps[j].mark):=by
 have c:∀ i,i < 4→w.cell? ⟨bp,j*4+i,none⟩=(ps[j].cells)[i]? :=fun i hi=>by
  rw[h.2.cell,List.getElem?_toArray,cells_at ps j i hj hi]
 exact⟨c 0 (by omega),c 1 (by omega),c 2 (by omega),c 3 (by omega)⟩
theorem Cach.head (h:Cach w bc bp ps hand):w.cell? ⟨bc,0,none⟩=some (.slice (some ⟨bp,0,none⟩) ps.length ps.length)∧w.cell? ⟨bc,1,none⟩=some (.int .i64 hand):=⟨h.1.cell 0,h.1.cell 1⟩
theorem Cach.frozen (h:Cach w bc bp ps hand):(∀ i,w.frozen? ⟨bc,i,none⟩=false)∧(∀ i,w.frozen? ⟨bp,i,none⟩=false):=⟨h.1.frozen,h.2.frozen⟩
theorem Cach.lt (h:Cach w bc bp ps hand):bc < w.heap.size∧bp < w.heap.size:=⟨h.1.lt,h.2.lt⟩
theorem Cach.fr {S:Nat→Prop} (h:Cach w bc bp ps hand) (hb:Fr w w' S) (h1:¬ S bc) (h2:¬ S bp):Cach w' bc bp ps hand:=⟨h.1.fr hb h1,h.2.fr hb h2⟩
theorem Cach.below {B:Nat} (h:Cach w bc bp ps hand) (hb:Below B w w') (h1:bc < B) (h2:bp < B):Cach w' bc bp ps hand:=⟨h.1.below hb h1,h.2.below hb h2⟩
theorem Cach.drewN (h:Cach w bc bp ps hand) (n:Nat):Cach (w.drewN n) bc bp ps hand:=h
theorem Cach.drew (h:Cach w bc bp ps hand):Cach w.drew bc bp ps hand:=h
theorem Cach.set1 (h:Cach w bc bp ps hand) (j i:Nat) (u:Value) (p:Plc) (hj:j < ps.length) (hi:i < 4) (hp:p.cells=(ps[j].cells).set i u):Cach (w.setCell ⟨bp,j*4+i,none⟩ u) bc bp (ps.set j p) hand:=by
 refine⟨by rw[List.length_set];exact h.1.far h.ne u,?_⟩
 have:=h.2.set_ (j*4+i) u;rwa[List.setIfInBounds_toArray,cells_set ps j i u p hj hi hp]at this
theorem Cach.setHand (h:Cach w bc bp ps hand) (n:Nat):Cach (w.setCell ⟨bc,1,none⟩ (.int .i64 n)) bc bp ps n:=
 ⟨h.1.set_ 1 _,h.2.far (fun e=>h.ne e.symm) _⟩
end
def hit (k:ByteArray) (p:Plc):Bool:=p.used && p.key.toList == k.toList
def idle (p:Plc):Bool:= !p.used
def idx (o:Option Nat):Int:=match o with|some i=>(i:Int)|none=> -1
theorem at_any (bc bp:Nat) (ps:List Plc) (hand:Nat) (k:ByteArray) (w:World) (hc:Cach w bc bp ps hand) (hn:ps.length≤50):
 Calls Tryz.prog 103 #[.pointer (some ⟨bc,0,none⟩),.string k] w fun e w'=>e=.returned (.int .i64 (idx (ps.findIdx? (hit k))))∧Below w.heap.size w w':=by
 obtain⟨c0,_⟩:=hc.head;have h2:=hc.lt.2
 go_enter Tryz.func103,Tryz.ntmps103
 go_wp2
 go_loopw [12] (fun i wr=>∃ j:Nat,j≤ps.length∧i=.int .i64 j∧(∀ q (h:q < ps.length),q < j→hit k ps[q]=false)∧Below w.heap.size w wr) (fun i _=>ps.length - (intOf i).toNat)
 case atStart=>exact⟨0,Nat.zero_le _,rfl,fun _ _ h=>absurd h (by omega),Below.refl _ _⟩
 case round=>
  obtain⟨j,hj,rfl,hno0,hb⟩:=hrel;have hno:=hid hno0;clear hno0
  by_cases hlt:j < ps.length
  ·obtain⟨c1,c2,c3,c4⟩:=hc.row j hlt;rw[←hb.cell (by exact h2)]at c1 c2 c3 c4
   go_wp2
   ·have hu:ps[j].used=true:=by assumption
    have hk:(ps[j].key.toList == k.toList)=true:=by assumption
    go_ret
    exact⟨by rw[findIdx_at _ _ j hlt (by unfold hit;rw[hu,hk];rfl) hno.out];rfl,(hb.alloc hb.size _)⟩
   ·have hk:(ps[j].key.toList == k.toList)=false:=by assumption
    go_roundw
    case rel=>exact⟨j+1,by omega,by go_num,step_no _ _ j hno.out (fun _=>by unfold hit;rw[hk];simp),(hb.alloc hb.size _)⟩
    case measure=>simp[intOf];omega
   ·have hu:¬ ps[j].used=true:=by assumption
    go_roundw
    case rel=>exact⟨j+1,by omega,by go_num,step_no _ _ j hno.out (fun _=>by unfold hit;simp[hu]),(hb.alloc hb.size _)⟩
    case measure=>simp[intOf];omega
  ·go_wp2
   go_ret
   exact⟨by rw[findIdx_none _ _ (fun q h=>hno.out q h (by omega))];rfl,hb⟩
theorem kfree_any (bc bp:Nat) (ps:List Plc) (hand:Nat) (w:World) (hc:Cach w bc bp ps hand) (hn:ps.length≤50):
 Calls Tryz.prog 104 #[.pointer (some ⟨bc,0,none⟩)] w fun e w'=>e=.returned (.int .i64 (idx (ps.findIdx? idle)))∧Below w.heap.size w w':=by
 obtain⟨c0,_⟩:=hc.head;have h2:=hc.lt.2
 go_enter Tryz.func104,Tryz.ntmps104
 go_wp2
 go_loopw [10] (fun i wr=>∃ j:Nat,j≤ps.length∧i=.int .i64 j∧(∀ q (h:q < ps.length),q < j→idle ps[q]=false)∧Below w.heap.size w wr) (fun i _=>ps.length - (intOf i).toNat)
 case atStart=>exact⟨0,Nat.zero_le _,rfl,fun _ _ h=>absurd h (by omega),Below.refl _ _⟩
 case round=>
  obtain⟨j,hj,rfl,hno0,hb⟩:=hrel;have hno:=hid hno0;clear hno0
  by_cases hlt:j < ps.length
  ·obtain⟨c1,c2,c3,c4⟩:=hc.row j hlt;rw[←hb.cell (by exact h2)]at c1 c2 c3 c4
   cases hu:ps[j].used with
   | false=>
     go_wp2
     go_ret
     exact⟨by rw[findIdx_at _ _ j hlt (by unfold idle;rw[hu];rfl) hno.out];rfl,(hb.alloc hb.size _)⟩
   | true=>
     go_wp2
     go_roundw
     case rel=>exact⟨j+1,by omega,by go_num,step_no _ _ j hno.out (fun _=>by unfold idle;rw[hu];rfl),(hb.alloc hb.size _)⟩
     case measure=>simp[intOf];omega
  ·go_wp2
   go_ret
   exact⟨by rw[findIdx_none _ _ (fun q h=>hno.out q h (by omega))];rfl,hb⟩
theorem info_place:(Tryz.prog.info? 206).map (fun i=>(i.zero,i.size,i.bytes))=some (some (.agg #[.string ByteArray.empty,.string ByteArray.empty,.bool false,.bool false]),4,40):=by kernel_rfl
theorem made_cells (n:Nat):madeCells #[.string ByteArray.empty,.string ByteArray.empty,.bool false,.bool false] (n*4)=(cellsOf (List.replicate n Plc.zero)).toArray:=by
 apply Array.ext';apply List.ext_getElem?;intro i;rcases Nat.lt_or_ge i (n*4)with h|h
 ·have e:i=i / 4*4+i % 4:=by omega
  have e1:=cells_at (List.replicate n Plc.zero) (i / 4) (i % 4) (by simp;omega) (by omega)
  rw[←e]at e1;rw[List.toList_toArray,e1,List.getElem_replicate,Array.getElem?_toList];have:i % 4=0∨i % 4=1∨i % 4=2∨i % 4=3:=by omega
  rcases this with h0|h0|h0|h0 <;> simp[madeCells,h,h0,Plc.cells,Plc.zero]
 ·rw[List.getElem?_eq_none (by rw[Array.length_toList,size_madeCells];exact h),List.getElem?_eq_none (by rw[List.toList_toArray,cellsOf_length,List.length_replicate];exact h)]
theorem run_make_rowN {P:Program} (t e:TypeId) (i:TypeInfo) (z:Value) (ht:P.underlying t=some (.slice e)) (hi:P.info? e=some i) (hz:i.zero=some z)
 (kl kc:IntKind) (n c:Nat) (hnc:n≤c) (hbytes:i.bytes*c≤281474976710656) (h63:c≤9223372036854775807) (w:World):
 (Instr.makeSlice t (.int kl (n:Int)) (.int kc (c:Int))).run P w=.ok (.slice (some ⟨w.heap.size,0,none⟩) n c) (w.alloc (.cells (madeCells z.cells (c*i.size)) e)):=by
 have hb:(i.bytes:Int)*(c:Int)≤281474976710656:=by
  have h:((i.bytes*c:Nat):Int)≤281474976710656:=by omega
  rwa[Int.natCast_mul]at h
 have hr:=run_make (P:=P) w t e i z ht hi hz kl kc n c (by omega) (by omega) hb (by omega)
 simp only[Int.toNat_natCast]at hr;exact hr
theorem new_yes (n:Nat) (w:World) (h1:1≤n) (h2:n≤50):
 Calls Tryz.prog 24 #[.int .i64 n] w fun e w'=>∃ bc bp,e=.returned (.tuple #[.pointer (some ⟨bc,0,none⟩),.nilIface])∧w.heap.size≤bc∧w.heap.size≤bp∧Cach w' bc bp (List.replicate n Plc.zero) 0∧Below w.heap.size w w':=by
 obtain⟨i0,hi,hz0,hz1,hz2⟩:=info_parts info_place;have hmk0:=fun W=>run_make_rowN (P:=Tryz.prog) 137 206 i0 _ Tryz.underlying137 hi hz0 .i64 .i64 n n (Nat.le_refl _) (by rw[hz2];omega) (by omega) W
 have hmk:∀ W:World,(Instr.makeSlice 137 (.int .i64 (n:Int)) (.int .i64 (n:Int))).run Tryz.prog W=.ok (.slice (some ⟨W.heap.size,0,none⟩) n n) (W.alloc (.cells (cellsOf (List.replicate n Plc.zero)).toArray 206)):=fun W=>by
  have:=hmk0 W;rw[hz1]at this;rw[this,←made_cells];rfl
 clear hmk0 hi hz0 hz1 hz2
 go_enter Tryz.func24,Tryz.ntmps24
 go_wp2
 go_ret2
 refine⟨w.heap.size+1,w.heap.size,by simp,by omega,by omega,⟨?_,?_⟩,((Below.refl _ _).alloc (Nat.le_refl _) _).alloc (by simp) _⟩
 ·have:=Blk.new (w.alloc (.cells (cellsOf (List.replicate n Plc.zero)).toArray 206)) 139 #[.slice (some ⟨w.heap.size,0,none⟩) n n,.int .i64 0];simpa using this
 ·exact(Blk.new w _ _).alloc _
theorem new_no (n:Int) (w:World) (h:n < 1∨50 < n):
 Calls Tryz.prog 24 #[.int .i64 n] w fun e w'=>e=.returned (.tuple #[.pointer none,.iface 35 (.int .i64 1)])∧w'=w:=by
 rcases h with h|h
 ·go_enter Tryz.func24,Tryz.ntmps24
  go_wp2
  go_ret2
  exact⟨rfl,rfl⟩
 ·by_cases h0:n < 1
  ·omega
  ·go_enter Tryz.func24,Tryz.ntmps24
   go_wp2
   go_ret2
   exact⟨rfl,rfl⟩
theorem get_no (bc bp:Nat) (ps:List Plc) (hand:Nat) (k:ByteArray) (w:World) (hc:Cach w bc bp ps hand) (hn:ps.length≤50) (hf:ps.findIdx? (hit k)=none):
 Calls Tryz.prog 62 #[.pointer (some ⟨bc,0,none⟩),.string k] w fun e w'=>e=.returned (.tuple #[.string ByteArray.empty,.bool false])∧Below w.heap.size w w':=by
 have h:=at_any bc bp ps hand k w hc hn;rw[hf]at h;have H:=hid h;clear h hf
 go_enter Tryz.func62,Tryz.ntmps62
 go_wp2_with (go_at_call 103;refine H.out.mono ?_;rintro e w1 ⟨rfl,hb⟩;simp only[idx])
 go_ret2
 exact⟨rfl,hb⟩
def PlcMark (p:Plc) (b:Bool):Plc:= { p with mark:=b }
theorem get_yes (bc bp:Nat) (ps:List Plc) (hand:Nat) (k:ByteArray) (w:World) (hc:Cach w bc bp ps hand) (hn:ps.length≤50) (i:Nat) (hi:i < ps.length) (hf:ps.findIdx? (hit k)=some i):
 Calls Tryz.prog 62 #[.pointer (some ⟨bc,0,none⟩),.string k] w fun e w'=>e=.returned (.tuple #[.string ps[i].val,.bool true])∧Cach w' bc bp (ps.set i (PlcMark ps[i] true)) hand∧Fr w w' (CS bc bp):=by
 have h:=at_any bc bp ps hand k w hc hn;rw[hf]at h;have H:=hid h;clear h hf
 go_enter Tryz.func62,Tryz.ntmps62
 go_wp2_with (go_at_call 103;refine H.out.mono ?_;rintro e w1 ⟨rfl,hb⟩;simp only[idx];have hc1:=hc.below hb hc.lt.1 hc.lt.2;obtain⟨c0,_⟩:=hc1.head;obtain⟨c1,c2,c3,c4⟩:=hc1.row i hi;have f1:=hc1.frozen.2;have hne:=hc1.ne)
 go_ret2
 refine⟨rfl,hc1.set1 i 3 (.bool true) _ hi (by omega) rfl,(Fr.of_below hb _).setCell (.inl (.inr rfl)) _⟩
def keysOf (ps:List Plc):List ByteArray:=(ps.filter (·.used)).map (·.key)
def unmark (ps:List Plc) (h:Nat):List Plc:=match ps[h]? with|some p=>ps.set h (PlcMark p false)|none=>ps
def markAt (ps:List Plc) (h:Nat):Bool:=match ps[h]? with|some p=>p.mark|none=>false
def sweep:Nat→List Plc→Nat→List Plc×Nat
 | 0,ps,h=>(ps,h)
 | f+1,ps,h=>if markAt ps h then sweep f (unmark ps h) ((h+1) % ps.length)else(ps,h)
def marks (ps:List Plc):Nat:=ps.countP (·.mark)
theorem unmark_length (ps:List Plc) (h:Nat):(unmark ps h).length=ps.length:=by unfold unmark;split <;> simp
theorem sweep_stop (f:Nat) (ps:List Plc) (h:Nat) (hm:markAt ps h=false):sweep f ps h=(ps,h):=by
 cases f <;> simp[sweep,hm]
theorem marks_set (ps:List Plc) (h:Nat) (hl:h < ps.length) (hm:ps[h].mark=true):marks (ps.set h (PlcMark ps[h] false))+1=marks ps:=by
 unfold marks;have hpos:0 < ps.countP (·.mark):=List.countP_pos_iff.2 ⟨_,List.getElem_mem hl,hm⟩;rw[List.countP_set hl,hm];simp[PlcMark];omega
theorem sweep_len (f:Nat):∀ ps h,(sweep f ps h).1.length=ps.length:=by
 induction f with
 | zero=>intro ps h;rfl
 | succ f ih=>intro ps h;unfold sweep;split
              ·rw[ih,unmark_length]
              ·rfl
theorem sweep_hand (f:Nat):∀ ps h,h < ps.length→(sweep f ps h).2 < ps.length:=by
 induction f with
 | zero=>intro ps h hl;exact hl
 | succ f ih=>intro ps h hl;unfold sweep;split
              ·have:=ih (unmark ps h) ((h+1) % ps.length) (by rw[unmark_length];exact Nat.mod_lt _ (by omega))
               rwa[unmark_length]at this
              ·exact hl
def freshP (k v:ByteArray):Plc:=⟨k,v,true,true⟩
def spot (ps:List Plc) (k:ByteArray):Option Nat:=(ps.findIdx? (hit k)).or (ps.findIdx? idle)
theorem Cach.put {w:World} {bc bp hand:Nat} {ps:List Plc} (h:Cach w bc bp ps hand) (j:Nat) (hj:j < ps.length) (p:Plc):
 Cach ((((w.setCell ⟨bp,j*4,none⟩ (.string p.key)).setCell ⟨bp,j*4+1,none⟩ (.string p.val)).setCell ⟨bp,j*4+2,none⟩ (.bool p.used)).setCell ⟨bp,j*4+3,none⟩ (.bool p.mark)) bc bp (ps.set j p) hand:=by
 have h1:=h.set1 j 0 (.string p.key) { ps[j]with key:=p.key } hj (by omega) rfl
 have h2:=h1.set1 j 1 (.string p.val) { ps[j]with key:=p.key,val:=p.val } (by simpa using hj) (by omega) (by simp[Plc.cells])
 have h3:=h2.set1 j 2 (.bool p.used) { ps[j]with key:=p.key,val:=p.val,used:=p.used } (by simpa using hj) (by omega) (by simp[Plc.cells])
 have h4:=h3.set1 j 3 (.bool p.mark) p (by simpa using hj) (by omega) (by simp[Plc.cells])
 simpa using h4
theorem fr_put {w w1:World} {bc bp:Nat} (h:Fr w w1 (CS bc bp)) (a b c d:Nat) (x y z u:Value):Fr w ((((w1.setCell ⟨bp,a,none⟩ x).setCell ⟨bp,b,none⟩ y).setCell ⟨bp,c,none⟩ z).setCell ⟨bp,d,none⟩ u) (CS bc bp):=
 (((h.setCell (.inl (.inr rfl)) _).setCell (.inl (.inr rfl)) _).setCell (.inl (.inr rfl)) _).setCell (.inl (.inr rfl)) _
theorem put_at (bc bp:Nat) (ps:List Plc) (hand:Nat) (k v:ByteArray) (w:World) (hc:Cach w bc bp ps hand) (hn:ps.length≤50) (i:Nat) (hi:i < ps.length) (hs:spot ps k=some i):
 Calls Tryz.prog 63 #[.pointer (some ⟨bc,0,none⟩),.string k,.string v] w fun e w'=>e=.returned (.tuple #[.string ByteArray.empty,.bool false])∧Cach w' bc bp (ps.set i (freshP k v)) hand∧Fr w w' (CS bc bp):=by
 have h:=at_any bc bp ps hand k w hc hn;unfold spot at hs;cases hf:ps.findIdx? (hit k)with
 | some j=>
   rw[hf,Option.some_or,Option.some_inj]at hs;subst hs;rw[hf]at h;have H:=hid h;clear h hf
   go_enter Tryz.func63,Tryz.ntmps63
   go_wp2_with (go_at_call 103;refine H.out.mono ?_;rintro e w1 ⟨rfl,hb⟩;simp only[idx];have hc1:=hc.below hb hc.lt.1 hc.lt.2;obtain⟨c0,_⟩:=hc1.head;obtain⟨c1,c2,c3,c4⟩:=hc1.row j hi;have f1:=hc1.frozen.2;have hne:=hc1.ne)
   go_ret2
   exact⟨rfl,hc1.put j hi (freshP k v),fr_put (Fr.of_below hb _) _ _ _ _ _ _ _ _⟩
 | none=>
   rw[hf,Option.none_or]at hs;rw[hf]at h;have H:=hid h;have H2:Hid (∀ w1,Below w.heap.size w w1→Calls Tryz.prog 104 #[.pointer (some ⟨bc,0,none⟩)] w1 fun e w'=>e=.returned (.int .i64 (idx (some i)))∧Below w1.heap.size w1 w'):=by
    intro w1 hb;rw[←hs];exact kfree_any bc bp ps hand w1 (hc.below hb hc.lt.1 hc.lt.2) hn
   clear h hf hs
   go_enter Tryz.func63,Tryz.ntmps63
   go_wp2_with (first|(go_at_call 103;refine H.out.mono ?_;rintro e w1 ⟨rfl,hb⟩;simp only[idx])|(go_at_call 104;refine(H2.out _ (by assumption)).mono ?_;rintro e w2 ⟨rfl,hb2⟩;simp only[idx];have hb3:=hb.trans (hb2.mono hb.size);have hc1:=hc.below hb3 hc.lt.1 hc.lt.2;obtain⟨c0,_⟩:=hc1.head;obtain⟨c1,c2,c3,c4⟩:=hc1.row i hi;have f1:=hc1.frozen.2;have hne:=hc1.ne))
   go_ret2
   exact⟨rfl,hc1.put i hi (freshP k v),fr_put (Fr.of_below hb3 _) _ _ _ _ _ _ _ _⟩
theorem Cach.mark0 {w:World} {bc bp hand:Nat} {ps:List Plc} (h:Cach w bc bp ps hand) (hl:hand < ps.length):Cach (w.setCell ⟨bp,hand*4+3,none⟩ (.bool false)) bc bp (unmark ps hand) hand:=by
 have e:unmark ps hand=ps.set hand (PlcMark ps[hand] false):=by unfold unmark;rw[List.getElem?_eq_getElem hl]
 rw[e];exact h.set1 hand 3 _ _ hl (by omega) rfl
theorem put_full (bc bp:Nat) (ps:List Plc) (hand:Nat) (k v:ByteArray) (w:World) (hc:Cach w bc bp ps hand) (hn:ps.length≤50) (hh:hand < ps.length) (hs:spot ps k=none)
 (qs:List Plc) (h':Nat) (hq:sweep (marks ps) ps hand=(qs,h')) (hl:h' < qs.length) (hql:qs.length=ps.length):
 Calls Tryz.prog 63 #[.pointer (some ⟨bc,0,none⟩),.string k,.string v] w fun e w'=>e=.returned (.tuple #[.string qs[h'].key,.bool true])∧Cach w' bc bp (qs.set h' (freshP k v)) ((h'+1) % ps.length)∧Fr w w' (CS bc bp):=by
 have h:=at_any bc bp ps hand k w hc hn;unfold spot at hs;obtain⟨hf,hs⟩:=Option.or_eq_none_iff.1 hs;rw[hf]at h;have H:=hid h;have H2:Hid (∀ w1,Below w.heap.size w w1→Calls Tryz.prog 104 #[.pointer (some ⟨bc,0,none⟩)] w1 fun e w'=>e=.returned (.int .i64 (idx none))∧Below w1.heap.size w1 w'):=by
  intro w1 hb;have:=kfree_any bc bp ps hand w1 (hc.below hb hc.lt.1 hc.lt.2) hn;rw[hs]at this;exact this
 have HQ:=hid hq;have HL:=hid hql;clear h hf hs hq hql
 go_enter Tryz.func63,Tryz.ntmps63
 go_wp2_with (first|(go_at_call 103;refine H.out.mono ?_;rintro e w1 ⟨rfl,hb⟩;simp only[idx])|(go_at_call 104;refine(H2.out _ (by assumption)).mono ?_;rintro e w2 ⟨rfl,hb2⟩;simp only[idx];have hb3:=hb.trans (hb2.mono hb.size);have hc1:=hc.below hb3 hc.lt.1 hc.lt.2;clear hb hb2))
 go_loopg [] (marks ps) (fun g wr=>∃(ps':List Plc) (hd f:Nat),marks ps'=g∧g≤f∧ps'.length=ps.length∧hd < ps'.length∧sweep f ps' hd=(qs,h')∧Cach wr bc bp ps' hd∧Fr w wr (CS bc bp))
 case atStart=>exact⟨ps,hand,marks ps,rfl,Nat.le_refl _,rfl,hh,HQ.out,hc1,Fr.of_below hb3 _⟩
 case round=>
  obtain⟨ps',hd,f,hg,hf,hlen,hhd,hsw,hcr,hfr⟩:=hrel;obtain⟨c0,d0⟩:=hcr.head;obtain⟨c1,c2,c3,c4⟩:=hcr.row hd hhd;have f1:=hcr.frozen.2;have f2:=hcr.frozen.1;have hne:=hcr.ne;have e1:((hd:Int)+1) % (ps.length:Int)=((hd+1) % ps.length:Nat):=by push_cast;rfl
  have E1:=hid e1;rw[hlen]at c0;have hhn:hd < ps.length:=by omega
  have HG:=hid hg;have HW:=hid hsw;have HN:=hid hlen;clear hg hsw e1 hlen;have hmk:markAt ps' hd=ps'[hd].mark:=by unfold markAt;rw[List.getElem?_eq_getElem hhd]
  have HM:=hid hmk;clear hmk;cases hm:ps'[hd].mark with
  | true=>
    rw[hm]at c4;have hpos:0 < gk:=by rw[←HG.out];exact List.countP_pos_iff.2 ⟨_,List.getElem_mem hhd,hm⟩
    go_wp2
    go_quiet (fail)
    go_wp2
    go_region
    go_wp2
    go_region
    go_wp2
    go_roundg (gk - 1)
    case rel=>
     have hu:unmark ps' hd=ps'.set hd (PlcMark ps'[hd] false):=by unfold unmark;rw[List.getElem?_eq_getElem hhd]
     refine⟨unmark ps' hd,(hd+1) % ps.length,f - 1,?_,by omega,by rw[unmark_length];exact HN.out,by rw[unmark_length];have:=HN.out;rw[this];exact Nat.mod_lt _ (by omega),?_,?_,?_⟩
     ·have:=marks_set ps' hd hhd hm;rw[hu];have:=HG.out;omega
     ·have:=HW.out;obtain⟨f',rfl⟩:∃ f',f=f'+1:=⟨f - 1,by omega⟩
      unfold sweep at this;rw[HM.out,hm,if_pos rfl,HN.out]at this;exact this
     ·rw[E1.out];exact((hcr.drewN _).mark0 hhd).setHand _
     ·exact(((hfr.drewN _).setCell (.inl (.inr rfl)) _).setCell (.inl (.inl rfl)) _).drew
    case measure=>omega
  | false=>
    rw[hm]at c4;have hst:=HW.out;rw[sweep_stop _ _ _ (HM.out.trans hm)]at hst;injection hst with e1 e2;subst e1;subst e2
    go_wp2
    go_quiet (fail)
    go_wp2
    go_quiet (fail)
    go_wp2
    go_region
    go_wp2
    go_region
    go_wp2
    go_ret2
    rw[E1.out];have A:=fun n=>(hcr.drewN n).put hd hhd (freshP k v);simp only[freshP]at A;refine⟨rfl,?_,?_⟩
    ·exact((A _).setHand _).drew
    ·exact((fr_put (hfr.drewN _) _ _ _ _ _ _ _ _).setCell (.inl (.inl rfl)) _).drew
structure PutR where
 ps:List Plc
 hand:Nat
 gone:Option ByteArray
def keyAt (ps:List Plc) (h:Nat):ByteArray:=match ps[h]? with|some p=>p.key|none=>ByteArray.empty
def putR (ps:List Plc) (hand:Nat) (k v:ByteArray):PutR:=
 match spot ps k with
 | some i=>⟨ps.set i (freshP k v),hand,none⟩
 | none=>⟨(sweep (marks ps) ps hand).1.set (sweep (marks ps) ps hand).2 (freshP k v),((sweep (marks ps) ps hand).2+1) % ps.length,some (keyAt (sweep (marks ps) ps hand).1 (sweep (marks ps) ps hand).2)⟩
def getPs (ps:List Plc) (k:ByteArray):List Plc:=match ps.findIdx? (hit k)with|some i=>(match ps[i]? with|some p=>ps.set i (PlcMark p true)|none=>ps)|none=>ps
def cgetV (ps:List Plc) (k:ByteArray):Option ByteArray:=match ps.findIdx? (hit k)with|some i=>(ps[i]?).map (·.val)|none=>none
theorem findIdx_lt {α:Type} {l:List α} {p:α→Bool} {i:Nat} (h:l.findIdx? p=some i):i < l.length:=by
 rw[List.findIdx?_eq_some_iff_getElem]at h;exact h.1
theorem findIdx_yes {α:Type} {l:List α} {p:α→Bool} {i:Nat} (h:l.findIdx? p=some i):p (l[i]'(findIdx_lt h))=true:=by
 rw[List.findIdx?_eq_some_iff_getElem]at h;exact h.2.1
theorem spot_lt {ps:List Plc} {k:ByteArray} {i:Nat} (h:spot ps k=some i):i < ps.length:=by
 unfold spot at h;rcases Option.or_eq_some_iff.1 h with h|⟨_,h⟩ <;> exact findIdx_lt h
theorem kput_any (bc bp:Nat) (ps:List Plc) (hand:Nat) (k v:ByteArray) (w:World) (hc:Cach w bc bp ps hand) (hn:ps.length≤50) (hh:hand < ps.length):
 Calls Tryz.prog 63 #[.pointer (some ⟨bc,0,none⟩),.string k,.string v] w fun e w'=>e=.returned (.tuple #[.string ((putR ps hand k v).gone.getD ByteArray.empty),.bool (putR ps hand k v).gone.isSome])∧Cach w' bc bp (putR ps hand k v).ps (putR ps hand k v).hand∧Fr w w' (CS bc bp):=by
 unfold putR;cases hs:spot ps k with
 | some i=>exact put_at bc bp ps hand k v w hc hn i (spot_lt hs) hs
 | none=>
   have hl:=sweep_len (marks ps) ps hand;have hm:=sweep_hand (marks ps) ps hand hh;have h:=put_full bc bp ps hand k v w hc hn hh hs (sweep (marks ps) ps hand).1 (sweep (marks ps) ps hand).2 rfl (by rw[hl];exact hm) hl
   have e:keyAt (sweep (marks ps) ps hand).1 (sweep (marks ps) ps hand).2=((sweep (marks ps) ps hand).1[(sweep (marks ps) ps hand).2]'(by rw[hl];exact hm)).key:=by
    unfold keyAt;rw[List.getElem?_eq_getElem (by rw[hl];exact hm)]
   simp only[Option.getD_some,Option.isSome_some];rw[e];exact h
theorem kget_any (bc bp:Nat) (ps:List Plc) (hand:Nat) (k:ByteArray) (w:World) (hc:Cach w bc bp ps hand) (hn:ps.length≤50):
 Calls Tryz.prog 62 #[.pointer (some ⟨bc,0,none⟩),.string k] w fun e w'=>e=.returned (.tuple #[.string ((cgetV ps k).getD ByteArray.empty),.bool (cgetV ps k).isSome])∧Cach w' bc bp (getPs ps k) hand∧Fr w w' (CS bc bp):=by
 unfold cgetV getPs;cases hf:ps.findIdx? (hit k)with
 | some i=>
   have hl:=findIdx_lt hf;simp only[List.getElem?_eq_getElem hl,Option.map_some,Option.getD_some,Option.isSome_some];exact get_yes bc bp ps hand k w hc hn i hl hf
 | none=>exact(get_no bc bp ps hand k w hc hn hf).mono fun e w' ⟨h1,h2⟩=>⟨h1,hc.below h2 hc.lt.1 hc.lt.2,Fr.of_below h2 _⟩
def core (p:Plc):ByteArray×ByteArray×Bool:=(p.key,p.val,p.used)
theorem core_unmark (ps:List Plc) (h:Nat):(unmark ps h).map core=ps.map core:=by
 unfold unmark;split
 ·rename_i p hp
  rw[List.map_set];apply List.ext_getElem?;intro i;rw[List.getElem?_set];split
  ·rename_i e;subst e
   have hl:h < (ps.map core).length:=by rw[List.length_map];exact(List.getElem?_eq_some_iff.1 hp).1
   rw[if_pos hl,List.getElem?_map,hp];rfl
  ·rfl
 ·rfl
theorem core_sweep (f:Nat):∀ ps h,(sweep f ps h).1.map core=ps.map core:=by
 induction f with
 | zero=>intro ps h;rfl
 | succ f ih=>intro ps h;unfold sweep;split
              ·rw[ih,core_unmark]
              ·rfl
theorem core_get (ps:List Plc) (k:ByteArray):(getPs ps k).map core=ps.map core:=by
 unfold getPs;split
 ·rename_i i hi
  split
  ·rename_i p hp
   rw[List.map_set];apply List.ext_getElem?;intro j;rw[List.getElem?_set];split
   ·rename_i e;subst e
    have hl:i < (ps.map core).length:=by rw[List.length_map];exact findIdx_lt hi
    rw[if_pos hl,List.getElem?_map,hp];rfl
   ·rfl
  ·rfl
 ·rfl
theorem len_core {ps qs:List Plc} (h:qs.map core=ps.map core):qs.length=ps.length:=by have:=congrArg List.length h;simpa using this
theorem at_core {ps qs:List Plc} (h:qs.map core=ps.map core) (i:Nat) (hi:i < ps.length):core (qs[i]'(by rw[len_core h];exact hi))=core ps[i]:=by
 have h1:(qs.map core)[i]? =(ps.map core)[i]? :=by rw[h]
 rw[List.getElem?_map,List.getElem?_map,List.getElem?_eq_getElem hi,List.getElem?_eq_getElem (by rw[len_core h];exact hi)]at h1
 simpa using h1
theorem keysOf_core (ps:List Plc):keysOf ps=((ps.map core).filter (·.2.2)).map (·.1):=by
 unfold keysOf;rw[List.filter_map,List.map_map];rfl
theorem mem_keysOf (ps:List Plc) (x:ByteArray):x∈keysOf ps↔∃(i:Nat) (h:i < ps.length),ps[i].used=true∧ps[i].key=x:=by
 unfold keysOf;rw[List.mem_map]
 constructor
 ·rintro⟨p,hp,rfl⟩;rw[List.mem_filter]at hp;obtain⟨i,h,rfl⟩:=List.getElem_of_mem hp.1;exact⟨i,h,hp.2,rfl⟩
 ·rintro⟨i,h,hu,rfl⟩;exact⟨_,List.mem_filter.2 ⟨List.getElem_mem h,hu⟩,rfl⟩
theorem hit_iff (k:ByteArray) (p:Plc):hit k p=true↔p.used=true∧p.key=k:=by
 unfold hit;rw[Bool.and_eq_true];exact and_congr_right fun _=>eqs_iff p.key k
theorem find_none (ps:List Plc) (k:ByteArray):ps.findIdx? (hit k)=none↔k∉keysOf ps:=by
 rw[List.findIdx?_eq_none_iff,mem_keysOf]
 constructor
 ·rintro h ⟨i,hi,hu,hk⟩;have:=h _ (List.getElem_mem hi);rw[(hit_iff k _).2 ⟨hu,hk⟩]at this;cases this
 ·intro h x hx;obtain⟨i,hi,rfl⟩:=List.getElem_of_mem hx;rw[←Bool.not_eq_true,hit_iff];exact fun⟨a,b⟩=>h ⟨i,hi,a,b⟩
theorem idle_none (ps:List Plc):ps.findIdx? idle=none↔∀(i:Nat) (h:i < ps.length),ps[i].used=true:=by
 rw[List.findIdx?_eq_none_iff]
 constructor
 ·intro h i hi;have:=h _ (List.getElem_mem hi);simpa[idle]using this
 ·intro h x hx;obtain⟨i,hi,rfl⟩:=List.getElem_of_mem hx;simpa[idle]using h i hi
theorem full_iff (ps:List Plc):(keysOf ps).length=ps.length↔ps.findIdx? idle=none:=by
 unfold keysOf;rw[List.length_map,List.length_filter_eq_length_iff,idle_none]
 constructor
 ·intro h i hi;exact h _ (List.getElem_mem hi)
 ·intro h x hx;obtain⟨i,hi,rfl⟩:=List.getElem_of_mem hx;exact h i hi
theorem spot_none (ps:List Plc) (k:ByteArray):spot ps k=none↔k∉keysOf ps∧(keysOf ps).length=ps.length:=by
 unfold spot;rw[Option.or_eq_none_iff,find_none,full_iff]
def Dist (ps:List Plc):Prop:=∀(i j:Nat) (hi:i < ps.length) (hj:j < ps.length),ps[i].used=true→ps[j].used=true→ps[i].key=ps[j].key→i=j
theorem Dist.core {ps qs:List Plc} (h:Dist ps) (hc:qs.map core=ps.map core):Dist qs:=by
 intro i j hi hj h1 h2 h3;have hl:=len_core hc;have ei:=at_core hc i (by omega)
 have ej:=at_core hc j (by omega)
 simp only[Proofs.YtpfmmbbggcghiaaGreatDoor.core,Prod.mk.injEq]at ei ej;exact h i j (by omega) (by omega) (by rw[←ei.2.2];exact h1) (by rw[←ej.2.2];exact h2) (by rw[←ei.1,←ej.1];exact h3)
theorem Dist.set {ps:List Plc} (h:Dist ps) (i:Nat) (hi:i < ps.length) (p:Plc) (hp:∀(j:Nat) (hj:j < ps.length),ps[j].used=true→ps[j].key=p.key→j=i):Dist (ps.set i p):=by
 intro a b ha hb h1 h2 h3;rw[List.length_set]at ha hb;rw[List.getElem_set]at h1 h3;rw[List.getElem_set]at h2;rw[List.getElem_set (j:=b)]at h3;split at h1
 ·split at h2
  ·omega
  ·rename_i ea eb
   rw[if_pos ea,if_neg eb]at h3;rw[hp b hb h2 h3.symm]at eb;exact absurd rfl eb
 ·split at h2
  ·rename_i ea eb
   rw[if_neg ea,if_pos eb]at h3;rw[hp a ha h1 h3]at ea;exact absurd rfl ea
  ·rename_i ea eb
   rw[if_neg ea,if_neg eb]at h3;exact h a b ha hb h1 h2 h3
theorem Dist.zero (n:Nat):Dist (List.replicate n Plc.zero):=by
 intro i j hi hj h1;rw[List.getElem_replicate]at h1;cases h1
theorem putR_len (ps:List Plc) (hand:Nat) (k v:ByteArray):(putR ps hand k v).ps.length=ps.length:=by
 unfold putR;split
 ·simp
 ·simp[sweep_len]
theorem putR_hand (ps:List Plc) (hand:Nat) (k v:ByteArray) (hh:hand < ps.length):(putR ps hand k v).hand < ps.length:=by
 unfold putR;split
 ·exact hh
 ·exact Nat.mod_lt _ (by omega)
theorem Dist.put {ps:List Plc} (h:Dist ps) (hand:Nat) (k v:ByteArray) (hh:hand < ps.length):Dist (putR ps hand k v).ps:=by
 unfold putR;cases hs:spot ps k with
 | some i=>
   refine h.set i (spot_lt hs) _ fun j hj hu hk=> ?_;have hkj:hit k ps[j]=true:=(hit_iff k _).2 ⟨hu,hk⟩;unfold spot at hs;cases hf:ps.findIdx? (hit k)with
   | none=>
     rw[List.findIdx?_eq_none_iff]at hf;rw[hf _ (List.getElem_mem hj)]at hkj;cases hkj
   | some i'=>
     rw[hf,Option.some_or,Option.some_inj]at hs;subst hs;obtain⟨a,b⟩:=(hit_iff k _).1 (findIdx_yes hf);exact h j i' hj (findIdx_lt hf) hu a (hk.trans b.symm)
 | none=>
   obtain⟨h1,_⟩:=(spot_none ps k).1 hs;have hcs:=core_sweep (marks ps) ps hand;refine(h.core hcs).set _ (by rw[sweep_len];exact sweep_hand _ _ _ hh) _ fun j hj hu hk=> ?_
   exfalso
   refine h1 ?_;have:k∈keysOf (sweep (marks ps) ps hand).1:=(mem_keysOf _ _).2 ⟨j,hj,hu,hk⟩;rwa[keysOf_core,hcs,←keysOf_core]at this
theorem put_gone {ps:List Plc} (h:Dist ps) (hand:Nat) (k v:ByteArray) (hh:hand < ps.length) {g:ByteArray} (hg:(putR ps hand k v).gone=some g):g∈keysOf ps∧g∉keysOf (putR ps hand k v).ps:=by
 have hd:=h.put hand k v hh;cases hs:spot ps k with
 | some i=>unfold putR at hg;rw[hs]at hg;cases hg
 | none=>
   obtain⟨h1,h2⟩:=(spot_none ps k).1 hs;have hall:=(idle_none ps).1 ((full_iff ps).1 h2);have hcs:=core_sweep (marks ps) ps hand;have hl:=sweep_len (marks ps) ps hand;have hm:=sweep_hand (marks ps) ps hand hh;have e:(putR ps hand k v).ps=(sweep (marks ps) ps hand).1.set (sweep (marks ps) ps hand).2 (freshP k v):=by unfold putR;rw[hs]
   have eg:g=ps[(sweep (marks ps) ps hand).2].key:=by
    have:(putR ps hand k v).gone=some (keyAt (sweep (marks ps) ps hand).1 (sweep (marks ps) ps hand).2):=by unfold putR;rw[hs]
    rw[this,Option.some_inj]at hg;rw[←hg];unfold keyAt;rw[List.getElem?_eq_getElem (by rw[hl];exact hm)]
    have:=at_core hcs _ hm;simp only[core,Prod.mk.injEq]at this;exact this.1
   have hgm:g∈keysOf ps:=(mem_keysOf _ _).2 ⟨_,hm,hall _ hm,eg.symm⟩;refine⟨hgm,fun hn=> ?_⟩;obtain⟨j,hj,hu,hk⟩:=(mem_keysOf _ _).1 hn;simp only[e,List.length_set]at hj;simp only[e,List.getElem_set]at hk hu;split at hk
   ·have hk':k=g:=hk;rw[hk']at h1;exact h1 hgm
   ·rename_i hne
    have hj':j < ps.length:=by omega
    have:=at_core hcs j hj';simp only[core,Prod.mk.injEq]at this;rw[this.1]at hk;exact hne (h _ _ hm hj' (hall _ hm) (hall _ hj') (eg.symm.trans hk.symm))
end Go.Proofs.YtpfmmbbggcghiaaGreatDoor
