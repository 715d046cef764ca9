/- msg.Parse, plainly: the reader. -/
import Derived.Test.YtagfnpdoooachaaGreatDoorNamesP
import Derived.Lib.Bytes2
import Derived.Test.YtagfnpdoooachaaGreatDoorRuleH
set_option linter.unusedSimpArgs false
set_option linter.unusedVariables false
set_option maxHeartbeats 3200000
set_option maxRecDepth 100000
namespace Go.Proofs.YtagfnpdoooachaaGreatDoor
open Go.RowKit
open Lib (hid)
def cutL (p l:List UInt8):Option (List UInt8):=if Lib.hasPrefix l p=true then some (l.drop p.length)else none
def wordL (ends l:List UInt8):Option (List UInt8×List UInt8):=if 0≤Lib.indexAny l ends then some (l.take (Lib.indexAny l ends).toNat,l.drop (Lib.indexAny l ends).toNat)else none
theorem cutL_len {p l r:List UInt8} (h:cutL p l=some r):r.length+p.length=l.length:=by
 unfold cutL at h;split at h
 ·rename_i h1
  injection h with h;rw[←h,List.length_drop];have:=Lib.hasPrefix_le h1;omega
 ·cases h
theorem wordL_len {e l:List UInt8} {p:List UInt8×List UInt8} (h:wordL e l=some p):p.1.length+p.2.length=l.length:=by
 unfold wordL at h;split at h
 ·injection h with h;rw[←h];show(l.take _).length+(l.drop _).length=_;rw[List.length_take,List.length_drop];omega
 ·cases h
def numberS:List UInt8:=[44,32,110,117,109,98,101,114,125]
def selectS:List UInt8:=[44,32,115,101,108,101,99,116,44]
def pluralS:List UInt8:=[44,32,112,108,117,114,97,108,44]
def offsetS:List UInt8:=[32,111,102,102,115,101,116,58]
def offL:List UInt8→Option Int
 | [c]=>if 49≤c.toNat∧c.toNat≤57 then some ((c.toNat:Int) - 48)else none
 | _=>none
section
variable {β:Type} (rd:Bool→List UInt8→Option (List β×List UInt8))
def cas1L (mark:Bool) (l:List UInt8):Option ((ByteArray×List β)×List UInt8):=
 (cutL [32] l).bind fun r1=>(wordL [32] r1).bind fun kw=>(cutL [32,123] kw.2).bind fun r3=>(rd mark r3).bind fun b=>(cutL [125] b.2).bind fun r5=>some ((str kw.1,b.1),r5)
def casesL (mark:Bool):Nat→List UInt8→Option (List (ByteArray×List β)×List UInt8)
 | 0,_=>none
 | n+1,l=>match cutL [125] l with
   | some r=>some ([],r)
   | none=>(cas1L rd mark l).bind fun p=>(casesL mark n p.2).map fun q=>(p.1::q.1,q.2)
def csL (mark:Bool) (l:List UInt8):Option (List (ByteArray×List β)×List UInt8):=casesL rd mark (l.length+1) l
def pluL (t:ByteArray) (r:List UInt8):Option (NdF β×List UInt8):=match cutL offsetS r with
 | none=>(csL rd true r).map fun q=>(⟨4,t,0,q.1⟩,q.2)
 | some r2=>(wordL [32,125] r2).bind fun ww=>(offL ww.1).bind fun o=>(csL rd true ww.2).map fun q=>(⟨4,t,o,q.1⟩,q.2)
def argL (mark:Bool) (l:List UInt8):Option (NdF β×List UInt8):=(wordL [44,125] l).bind fun p=>match cutL [125] p.2 with
 | some r=>some (⟨2,str p.1,0,[]⟩,r)
 | none=>match cutL numberS p.2 with
   | some r=>some (⟨3,str p.1,0,[]⟩,r)
   | none=>match cutL selectS p.2 with
     | some r=>(csL rd mark r).map fun q=>(⟨5,str p.1,0,q.1⟩,q.2)
     | none=>(cutL pluralS p.2).bind fun r=>pluL rd (str p.1) r
def preL (t:List UInt8):List (NdF β):=if t=[]then []else [⟨1,str t,0,[]⟩]
def markL (mark:Bool) (l:List UInt8):Option (List UInt8):=if mark then cutL [35] l else none
def msgL (mark:Bool):Nat→List UInt8→Option (List (NdF β)×List UInt8)
 | 0,_=>none
 | n+1,l=>(bareM mark l).bind fun p=>match cutL [123] p.2 with
   | some r=>(argL rd mark r).bind fun q=>(msgL mark n q.2).map fun z=>(preL p.1++q.1::z.1,z.2)
   | none=>match markL mark p.2 with
     | some r=>(msgL mark n r).map fun z=>(preL p.1++⟨6,ByteArray.empty,0,[]⟩::z.1,z.2)
     | none=>some (preL p.1,p.2)
def bulkF (cb:List β→Nat) (x:NdF β):Nat:=x.text.size+2+(x.cases.map fun c=>c.1.size+2+cb c.2).sum
variable {rd} {cb:List β→Nat} (hrd:∀ mark l b r,rd mark l=some (b,r)→cb b+3*r.length≤3*l.length)
theorem cas1L_len {mark:Bool} {l:List UInt8} {p:(ByteArray×List β)×List UInt8} (hrd:∀ mark l b r,rd mark l=some (b,r)→cb b+3*r.length≤3*l.length) (h:cas1L rd mark l=some p):p.1.1.size+2+cb p.1.2+3*p.2.length+1≤3*l.length:=by
 unfold cas1L at h;obtain⟨r1,h1,h⟩:=Option.bind_eq_some_iff.1 h;obtain⟨kw,h2,h⟩:=Option.bind_eq_some_iff.1 h;obtain⟨r3,h3,h⟩:=Option.bind_eq_some_iff.1 h;obtain⟨b,h4,h⟩:=Option.bind_eq_some_iff.1 h;obtain⟨r5,h5,h⟩:=Option.bind_eq_some_iff.1 h;injection h with h;subst h;have k1:=cutL_len h1;have k2:=wordL_len h2;have k3:=cutL_len h3;have k4:=hrd mark r3 b.1 b.2 h4;have k5:=cutL_len h5;simp only[List.length_cons,List.length_nil]at k1 k3 k5;show(str kw.1).size+2+cb b.1+3*r5.length+1≤_;rw[str_size];omega
theorem casesL_len (hrd:∀ mark l b r,rd mark l=some (b,r)→cb b+3*r.length≤3*l.length) {mark:Bool}:∀ {n:Nat} {l:List UInt8} {p:List (ByteArray×List β)×List UInt8},casesL rd mark n l=some p→(p.1.map fun c=>c.1.size+2+cb c.2).sum+3*p.2.length≤3*l.length
 | 0,_,_,h=>by cases h
 | n+1,l,p,h=>by
   unfold casesL at h;split at h
   ·rename_i r hr
    injection h with h;subst h;have:=cutL_len hr;show 0+3*r.length≤_;omega
   ·obtain⟨c,h1,h⟩:=Option.bind_eq_some_iff.1 h;obtain⟨q,h2,h⟩:=Option.map_eq_some_iff.1 h;subst h;have k1:=cas1L_len hrd h1;have k2:=casesL_len hrd h2;show((c.1::q.1).map fun c=>c.1.size+2+cb c.2).sum+3*q.2.length≤_;rw[List.map_cons,List.sum_cons];omega
theorem argL_len (hrd:∀ mark l b r,rd mark l=some (b,r)→cb b+3*r.length≤3*l.length) {mark:Bool} {l:List UInt8} {p:NdF β×List UInt8} (h:argL rd mark l=some p):bulkF cb p.1+3*p.2.length≤3*l.length:=by
 unfold argL at h;obtain⟨w,h1,h⟩:=Option.bind_eq_some_iff.1 h;have k1:=wordL_len h1;have leaf:∀(k:Int) (r:List UInt8),r.length+1≤w.2.length→bulkF cb (⟨k,str w.1,0,[]⟩:NdF β)+3*r.length≤3*l.length:=fun k r hr=>by
  show(str w.1).size+2+0+3*r.length≤_;rw[str_size];omega
 have deep:∀(k o:Int) (mk:Bool) (r:List UInt8) (p:NdF β×List UInt8),r.length+1≤w.2.length→((csL rd mk r).map fun q=>((⟨k,str w.1,o,q.1⟩:NdF β),q.2))=some p→bulkF cb p.1+3*p.2.length≤3*l.length:=fun k o mk r p hr hp=>by
  obtain⟨q,h2,hp⟩:=Option.map_eq_some_iff.1 hp;subst hp;have k2:=casesL_len hrd h2;show(str w.1).size+2+(q.1.map fun c=>c.1.size+2+cb c.2).sum+3*q.2.length≤_;rw[str_size];omega
 split at h
 ·rename_i r hr
  injection h with h;subst h;have:=cutL_len hr;simp only[List.length_cons,List.length_nil]at this;exact leaf 2 r (by omega)
 split at h
 ·rename_i r hr
  injection h with h;subst h;have:=cutL_len hr;simp only[numberS,List.length_cons,List.length_nil]at this;exact leaf 3 r (by omega)
 split at h
 ·rename_i r hr
  have:=cutL_len hr;simp only[selectS,List.length_cons,List.length_nil]at this;exact deep 5 0 mark r p (by omega) h
 ·obtain⟨r,hr,h⟩:=Option.bind_eq_some_iff.1 h;have:=cutL_len hr;simp only[pluralS,List.length_cons,List.length_nil]at this;unfold pluL at h;split at h
  ·exact deep 4 0 true r p (by omega) h
  ·rename_i r2 hr2
   have k2:=cutL_len hr2;obtain⟨ww,h3,h⟩:=Option.bind_eq_some_iff.1 h;obtain⟨o,h4,h⟩:=Option.bind_eq_some_iff.1 h;have k3:=wordL_len h3;exact deep 4 o true ww.2 p (by omega) h
theorem preL_len (t:List UInt8):((preL t:List (NdF β)).map (bulkF cb)).sum≤3*t.length:=by
 unfold preL;split
 ·exact Nat.zero_le _
 ·rename_i h
  have:=List.length_pos_iff.2 h;show(str t).size+2+0+0≤_;rw[str_size];omega
theorem msgL_len (hrd:∀ mark l b r,rd mark l=some (b,r)→cb b+3*r.length≤3*l.length) {mark:Bool}:∀ {n:Nat} {l:List UInt8} {p:List (NdF β)×List UInt8},msgL rd mark n l=some p→(p.1.map (bulkF cb)).sum+3*p.2.length≤3*l.length
 | 0,_,_,h=>by cases h
 | n+1,l,p,h=>by
   unfold msgL at h;obtain⟨b,h1,h⟩:=Option.bind_eq_some_iff.1 h;have k1:=bareM_len (t:=b.1) (r:=b.2) h1;have k2:=preL_len (cb:=cb) b.1;split at h
   ·rename_i r hr
    obtain⟨q,h2,h⟩:=Option.bind_eq_some_iff.1 h;obtain⟨z,h3,h⟩:=Option.map_eq_some_iff.1 h;subst h;have k3:=cutL_len hr;have k4:=argL_len hrd h2;have k5:=msgL_len hrd h3;show((preL b.1++q.1::z.1).map (bulkF cb)).sum+3*z.2.length≤_;rw[List.map_append,List.sum_append,List.map_cons,List.sum_cons];omega
   split at h
   ·rename_i r hr
    obtain⟨z,h3,h⟩:=Option.map_eq_some_iff.1 h;subst h;have k3:r.length+1=b.2.length:=by
     unfold markL at hr;split at hr
     ·exact cutL_len hr
     ·cases hr
    have k5:=msgL_len hrd h3;show((preL b.1++(⟨6,ByteArray.empty,0,[]⟩:NdF β)::z.1).map (bulkF cb)).sum+3*z.2.length≤_;rw[List.map_append,List.sum_append,List.map_cons,List.sum_cons];have:bulkF cb (⟨6,ByteArray.empty,0,[]⟩:NdF β)=2:=rfl;omega
   ·injection h with h;subst h;show((preL b.1:List (NdF β)).map (bulkF cb)).sum+3*b.2.length≤_;omega
end
def readM:(n:Nat)→Bool→List UInt8→Option (List (Nd n)×List UInt8)
 | 0,_,_=>none
 | n+1,mark,l=>msgL (readM n) mark (l.length+1) l
theorem readM_len:(n:Nat)→∀(mark:Bool) (l:List UInt8) (b:List (Nd n)) (r:List UInt8),readM n mark l=some (b,r)→(b.map (Enc.node n).bulk).sum+3*r.length≤3*l.length
 | 0,_,_,_,_,h=>by cases h
 | n+1,mark,l,b,r,h=>by
   have h1:=msgL_len (cb:=fun b:List (Nd n)=>(b.map (Enc.node n).bulk).sum) (fun mark l b r=>readM_len n mark l b r) h;refine Nat.le_trans (Nat.add_le_add_right ?_ _) h1;refine sum_map_le (Enc.node (n+1)).bulk (bulkF fun b:List (Nd n)=>(b.map (Enc.node n).bulk).sum) b fun x _=> ?_;rw[node_bulk n x];show _≤x.text.size+2+(x.cases.map fun c=>c.1.size+2+(c.2.map (Enc.node n).bulk).sum).sum;have:(x.cases.map (Enc.cas (Enc.node n)).bulk).sum≤(x.cases.map fun c=>c.1.size+2+(c.2.map (Enc.node n).bulk).sum).sum:=sum_map_le _ _ x.cases fun c _=>by
    rw[cas_bulk];omega
   omega
def parM (s:List UInt8):List (Nd 7):=match readM 7 false s with|some (m,[])=>m|_=>[]
def parE (s:List UInt8):Int:=if 2000 < s.length then 4 else match readM 7 false s with|some (m,[])=>if checkAll 7 m=0 then 0 else 3|_=>3
end Go.Proofs.YtagfnpdoooachaaGreatDoor
namespace Go.Proofs
open Go.Shelf
def Tryz.lays99_ren:Go.Shelf.Ren:=⟨fun|99=>146|206=>194|n=>n,fun|9=>9|4=>4|3=>3|n=>n,fun|n=>n⟩
theorem Tryz.lays99:Go.Proofs.Lays.n99 Tryz.prog Tryz.lays99_ren:= {
 mixed:=by kernel_rfl
 f99:=Tryz.func146.trans (congrArg some (by kernel_rfl))
 f206:=Tryz.func194.trans (congrArg some (by kernel_rfl))
 t3:=Tryz.underlying3
 a3:=Tryz.isAgg3
 z3:=Tryz.sizeOf3
 v3:=Tryz.zeroValue3
 t4:=Tryz.underlying4
 a4:=Tryz.isAgg4
 z4:=Tryz.sizeOf4
 v4:=Tryz.zeroValue4
 t9:=Tryz.underlying9
 a9:=Tryz.isAgg9
 z9:=Tryz.sizeOf9
 v9:=Tryz.zeroValue9 }
open Go.RowKit Go.Lib in
theorem Tryz.strings_HasPrefix (s p:ByteArray) (w:World):
 Calls Tryz.prog 146 #[.string s,.string p] w fun e w'=>e=.returned (.bool (Lib.hasPrefix s.data.toList p.data.toList))∧w'=w:=Any.strings_HasPrefix Tryz.lays99 s p w
def Tryz.lays152_ren:Go.Shelf.Ren:=⟨fun|152=>224|137=>177|119=>237|224=>91|225=>90|217=>89|266=>137|n=>n,fun|9=>9|21=>21|3=>3|4=>4|5=>5|0=>0|46=>152|n=>n,fun|n=>n⟩
theorem Tryz.lays152:Go.Proofs.Lays.n152 Tryz.prog Tryz.lays152_ren:= {
 mixed:=by kernel_rfl
 f119:=Tryz.func237.trans (congrArg some (by kernel_rfl))
 f137:=Tryz.func177.trans (congrArg some (by kernel_rfl))
 f152:=Tryz.func224.trans (congrArg some (by kernel_rfl))
 f217:=Tryz.func89.trans (congrArg some (by kernel_rfl))
 f224:=Tryz.func91.trans (congrArg some (by kernel_rfl))
 f225:=Tryz.func90.trans (congrArg some (by kernel_rfl))
 f266:=Tryz.func137.trans (congrArg some (by kernel_rfl))
 t0:=Tryz.underlying0
 a0:=Tryz.isAgg0
 z0:=Tryz.sizeOf0
 v0:=Tryz.zeroValue0
 t3:=Tryz.underlying3
 a3:=Tryz.isAgg3
 z3:=Tryz.sizeOf3
 v3:=Tryz.zeroValue3
 t4:=Tryz.underlying4
 a4:=Tryz.isAgg4
 z4:=Tryz.sizeOf4
 v4:=Tryz.zeroValue4
 t5:=Tryz.underlying5
 a5:=Tryz.isAgg5
 z5:=Tryz.sizeOf5
 v5:=Tryz.zeroValue5
 t9:=Tryz.underlying9
 a9:=Tryz.isAgg9
 z9:=Tryz.sizeOf9
 v9:=Tryz.zeroValue9
 t21:=Tryz.underlying21
 a21:=Tryz.isAgg21
 z21:=Tryz.sizeOf21
 v21:=Tryz.zeroValue21
 t46:=Tryz.underlying152
 a46:=Tryz.isAgg152
 z46:=Tryz.sizeOf152
 v46:=Tryz.zeroValue152 }
open Go.RowKit Go.Lib in
theorem Tryz.strings_IndexRune_ascii (s:ByteArray) (r:Int) (w:World) (h0:0≤r) (h1:r < 128):
 Calls Tryz.prog 224 #[.string s,.int .i32 r] w fun e w'=>e=.returned (.int .i64 (Lib.indexByte s.data.toList r.toNat.toUInt8))∧w'=w:=Any.strings_IndexRune_ascii Tryz.lays152 s r w h0 h1
def Tryz.lays226_ren:Go.Shelf.Ren:=⟨fun|226=>236|n=>n,fun|3=>3|4=>4|n=>n,fun|n=>n⟩
theorem Tryz.lays226:Go.Proofs.Lays.n226 Tryz.prog Tryz.lays226_ren:= {
 mixed:=by kernel_rfl
 f226:=Tryz.func236.trans (congrArg some (by kernel_rfl))
 t3:=Tryz.underlying3
 a3:=Tryz.isAgg3
 z3:=Tryz.sizeOf3
 v3:=Tryz.zeroValue3
 t4:=Tryz.underlying4
 a4:=Tryz.isAgg4
 z4:=Tryz.sizeOf4
 v4:=Tryz.zeroValue4 }
open Go.RowKit Go.Lib in
theorem Tryz.strings_shouldUseASCIISet (n:Int) (w:World):
 Calls Tryz.prog 236 #[.int .i64 n] w fun e w'=>e=.returned (.bool (decide (8 < n)))∧w'=w:=Any.strings_shouldUseASCIISet Tryz.lays226 n w
def Tryz.lays153_ren:Go.Shelf.Ren:=⟨fun|153=>220|152=>224|226=>236|227=>212|228=>231|137=>177|119=>237|224=>91|225=>90|217=>89|266=>137|n=>n,fun|9=>9|3=>3|4=>4|5=>5|21=>21|117=>286|116=>285|0=>0|46=>152|124=>289|n=>n,fun|n=>n⟩
theorem Tryz.lays153:Go.Proofs.Lays.n153 Tryz.prog Tryz.lays153_ren:= {
 mixed:=by kernel_rfl
 f119:=Tryz.func237.trans (congrArg some (by kernel_rfl))
 f137:=Tryz.func177.trans (congrArg some (by kernel_rfl))
 f152:=Tryz.func224.trans (congrArg some (by kernel_rfl))
 f153:=Tryz.func220.trans (congrArg some (by kernel_rfl))
 f217:=Tryz.func89.trans (congrArg some (by kernel_rfl))
 f224:=Tryz.func91.trans (congrArg some (by kernel_rfl))
 f225:=Tryz.func90.trans (congrArg some (by kernel_rfl))
 f226:=Tryz.func236.trans (congrArg some (by kernel_rfl))
 f227:=Tryz.func212.trans (congrArg some (by kernel_rfl))
 f228:=Tryz.func231.trans (congrArg some (by kernel_rfl))
 f266:=Tryz.func137.trans (congrArg some (by kernel_rfl))
 t0:=Tryz.underlying0
 a0:=Tryz.isAgg0
 z0:=Tryz.sizeOf0
 v0:=Tryz.zeroValue0
 t3:=Tryz.underlying3
 a3:=Tryz.isAgg3
 z3:=Tryz.sizeOf3
 v3:=Tryz.zeroValue3
 t4:=Tryz.underlying4
 a4:=Tryz.isAgg4
 z4:=Tryz.sizeOf4
 v4:=Tryz.zeroValue4
 t5:=Tryz.underlying5
 a5:=Tryz.isAgg5
 z5:=Tryz.sizeOf5
 v5:=Tryz.zeroValue5
 t9:=Tryz.underlying9
 a9:=Tryz.isAgg9
 z9:=Tryz.sizeOf9
 v9:=Tryz.zeroValue9
 t21:=Tryz.underlying21
 a21:=Tryz.isAgg21
 z21:=Tryz.sizeOf21
 v21:=Tryz.zeroValue21
 t46:=Tryz.underlying152
 a46:=Tryz.isAgg152
 z46:=Tryz.sizeOf152
 v46:=Tryz.zeroValue152
 t116:=Tryz.underlying285
 a116:=Tryz.isAgg285
 z116:=Tryz.sizeOf285
 t117:=Tryz.underlying286
 a117:=Tryz.isAgg286
 z117:=Tryz.sizeOf286
 v117:=Tryz.zeroValue286
 t124:=Tryz.underlying289
 a124:=Tryz.isAgg289
 z124:=Tryz.sizeOf289
 v124:=Tryz.zeroValue289 }
open Go.RowKit Go.Lib in
theorem Tryz.strings_IndexAny_one (s chars:ByteArray) (w:World) (h1:chars.size=1) (hascii:∀(j:Nat) b,chars.data.toList[j]? =some b→b.toNat < 128):
 Calls Tryz.prog 220 #[.string s,.string chars] w fun e w'=>e=.returned (.int .i64 (Lib.indexAny s.data.toList chars.data.toList))∧w'=w:=Any.strings_IndexAny_one Tryz.lays153 s chars w h1 hascii
open Go.RowKit Go.Lib in
theorem Tryz.strings_IndexAny_long (hv116:∀ w,(zeroValue 285).run Tryz.prog w=.ok (.agg (Array.replicate 256 (.bool false))) w) (s chars:ByteArray) (w:World) (h2:2≤chars.size) (h8:8 < s.size) (hs:s.size < 4294967281) (hcs:chars.size < 4294967281) (hascii:∀(j:Nat) b,chars.data.toList[j]? =some b→b.toNat < 128):
 Calls Tryz.prog 220 #[.string s,.string chars] w fun e w'=>e=.returned (.int .i64 (Lib.indexAny s.data.toList chars.data.toList))∧w'=((w.alloc (.cells (Lib.setCells chars.data.toList) 285)).alloc (.cells (Lib.setCells chars.data.toList) 285)):=Any.strings_IndexAny_long Tryz.lays153 hv116 (by kernel_rfl) s chars w h2 h8 hs hcs hascii
end Go.Proofs
namespace Go.Proofs.YtagfnpdoooachaaGreatDoor
open Go.RowKit
open Lib (hid)
theorem rune_c (r:Nat) (h:128≤r):128≤(if Utf8.valid (r:Int)=true then(r:Int).toNat else Utf8.runeError):=by
 split
 ·omega
 ·decide
theorem enc_any (r:Nat) (h:128≤r):∃ R,Utf8.encode (r:Int)=R∧(R.size=2∨R.size=3∨R.size=4)∧∀(h1:1 < R.size),R.size=2→128≤R[1].toNat:=by
 have hc:=rune_c r h;unfold Utf8.encode;simp only;generalize (if Utf8.valid (r:Int)=true then(r:Int).toNat else Utf8.runeError)=c at*
 rw[if_neg (show ¬ c < 0x80 by omega)]
 by_cases h1:c < 0x800
 ·rw[if_pos h1];refine⟨_,rfl,.inl rfl,fun _ _=> ?_⟩;show 128≤(UInt8.ofNat (0x80+c % 64)).toNat;rw[UInt8.toNat_ofNat'];omega
 ·rw[if_neg h1]
  by_cases h2:c < 0x10000
  ·rw[if_pos h2];exact⟨_,rfl,.inr (.inl rfl),fun _ h3=>absurd (show 3=2 from h3) (by decide)⟩
  ·rw[if_neg h2];exact⟨_,rfl,.inr (.inr rfl),fun _ h3=>absurd (show 4=2 from h3) (by decide)⟩
theorem below_iter (w:World) (s:ByteArray) (p:Nat):Below w.heap.size w (w.iter s p):=(Below.refl _ _).alloc (Nat.le_refl _) _
theorem indexRune_two (X:ByteArray) (hX:X.size=2) (x0:(X[0]'(by omega)).toNat < 128) (x1:(X[1]'(by omega)).toNat < 128) (r:Nat) (hr:128≤r) (hr2:r≤2147483647) (w:World):
 Calls Tryz.prog 224 #[.string X,.int .i32 r] w fun e w'=>e=.returned (.int .i64 (-1))∧Below w.heap.size w w':=by
 have h0:(0:Int)≤(r:Int):=by omega
 have h1:¬((r:Int) < 128):=by omega
 by_cases hrr:r=65533
 ·subst hrr;have hi0:0 < X.size:=by omega
  have hi1:1 < X.size:=by omega
  have hi2:¬ 2 < X.size:=by omega
  have n0:=fun ty=>run_next_ascii (P:=Tryz.prog) w X 0 ty hi0 x0;have n1:=fun ty=>run_next_ascii (P:=Tryz.prog) w X 1 ty hi1 x1;have n2:=run_next_end (P:=Tryz.prog) w X 2;generalize X[0].toNat=a at *;generalize X[1].toNat=b at *;have e0:((a:Int) == 65533)=false:=by rw[beq_eq_false_iff_ne];omega
  have e1:((b:Int) == 65533)=false:=by rw[beq_eq_false_iff_ne];omega
  go_enter Tryz.func224,Tryz.ntmps224
  go_wp2_with fail
  go_loopg [5,6] 2 (fun g _ _ wx=>∃ i:Nat,i+g=2∧wx=w.iter X i)
  case atStart=>exact⟨0,by omega,rfl⟩
  case round=>
   obtain⟨i,hig,rfl⟩:=hrel
   match gk,hig with
   | 0,hig=>
     obtain rfl:i=2:=by omega
     go_wp2
     go_ret
     exact⟨rfl,below_iter w X 2⟩
   | 1,hig=>
     obtain rfl:i=1:=by omega
     go_wp2
     go_roundg 0
     case measure=>omega
     case rel=>exact⟨2,by omega,rfl⟩
   | 2,hig=>
     obtain rfl:i=0:=by omega
     go_wp2
     go_roundg 1
     case measure=>omega
     case rel=>exact⟨1,by omega,rfl⟩
   | g+3,hig=>omega
 ·have h2:((r:Int) == 65533)=false:=by rw[beq_eq_false_iff_ne];omega
  have HV:=hid (Tryz.utf8_ValidRune (r:Int) w);cases hv:Lib.validRune (r:Int)with
  | false=>
    rw[hv]at HV;generalize (r:Int)=C at *;clear x0 x1
    go_enter Tryz.func224,Tryz.ntmps224
    go_wp2_with fail
    refine HV.out.mono ?_;clear HV;rintro e w1 ⟨rfl,rfl⟩
    go_wp2_with fail
    go_ret
    exact⟨rfl,Below.refl _ _⟩
  | true=>
    rw[hv]at HV;obtain⟨R,he,hsz,hhi⟩:=enc_any r hr;have HE:=hid he;have hbn3:∀(h1:1 < R.size),R.size=2→(((X[1]'(by omega)).toNat:Int) == (R[1].toNat:Int))=false:=fun h1 h2=>by
     have:=hhi h1 h2;rw[beq_eq_false_iff_ne];omega
    have HB3:=hid hbn3;have hX1:1 < X.size:=by omega
    have hXi:(1:Int) < (X.size:Int):=by omega
    have hX2:2≤X.size:=by omega
    have hXi2:(2:Int)≤(X.size:Int):=by omega
    have hex:X.extract 2 2=⟨#[]⟩:=by
     apply ByteArray.ext;simp
    have HIb:Hid (∀ W (c:Int),Calls Tryz.prog 177 #[.string ByteArray.empty,.int .u8 c] W fun e w'=>e=.returned (.int .i64 (-1))∧W=w'):=hid fun W c=>by
     have h:=Tryz.strings_IndexByte ByteArray.empty c W;exact h.mono fun e w' ⟨h1,h2⟩=>⟨h1,h2.symm⟩
    generalize (r:Int)=C at *;clear hv hhi hbn3 he
    go_enter Tryz.func224,Tryz.ntmps224
    go_wp2_with fail
    refine HV.out.mono ?_;clear HV;rintro e w1 ⟨rfl,rfl⟩;have he':=HE.out;rcases hsz with hsz|hsz|hsz
    ·have hr1:1 < R.size:=by omega
     have hri:(1:Int) < (R.size:Int):=by omega
     have hbn:=HB3.out hr1 hsz;have hbnn:((X[1].toNat:Int) != (R[1].toNat:Int))=true:=by unfold bne;rw[hbn];rfl
     go_wp2_with fail
     go_step3
     go_wp2_with fail
     clear HE he'
     go_loopw [9,10] (fun i f wr=>i=.int .i64 1∧f=.int .i64 0∧wr=w1) (fun _ _ _=>0)
     case atStart=>exact⟨rfl,rfl,rfl⟩
     case round=>
      obtain⟨rfl,rfl,rfl⟩:=hrel
      go_wp2_with fail
      go_step3
      go_wp2_with fail
      go_quiet (fail)
      go_wp2_with fail
      go_quiet ((go_at_call 177;first|with_reducible exact quiet_left (HIb.out _ _)|with_reducible exact quiet_add_left (HIb.out _ _)))
      go_wp2_with fail
      rw[Exit.noGoto_ret]
      go_wp2
      rw[Exit.noGoto_ret]
      go_wp2
      go_ret
      exact⟨rfl,below_drewN (Below.refl _ _) _⟩
    ·go_wp2_with fail
     go_step3
     go_wp2_with fail
     clear HE he'
     go_loopw [9,10] (fun i f wr=>i=.int .i64 2∧f=.int .i64 0∧wr=w1) (fun _ _ _=>0)
     case atStart=>exact⟨rfl,rfl,rfl⟩
     case round=>
      obtain⟨rfl,rfl,rfl⟩:=hrel
      go_wp2_with fail
      rw[Exit.noGoto_ret]
      go_wp2
      go_ret
      exact⟨rfl,Below.refl _ _⟩
    ·go_wp2_with fail
     go_step3
     go_wp2_with fail
     clear HE he'
     go_loopw [9,10] (fun i f wr=>i=.int .i64 3∧f=.int .i64 0∧wr=w1) (fun _ _ _=>0)
     case atStart=>exact⟨rfl,rfl,rfl⟩
     case round=>
      obtain⟨rfl,rfl,rfl⟩:=hrel
      go_wp2_with fail
      rw[Exit.noGoto_ret]
      go_wp2
      go_ret
      exact⟨rfl,Below.refl _ _⟩
theorem high_of {s:ByteArray} {q:Nat} (h:(s.get! q).toNat / 64=2) (hq:q < s.size):128≤(s[q]'hq).toNat:=by
 have h2:s.get! q=s[q]'hq:=by have:=get_at s q hq;rwa[Nat.add_zero]at this
 rw[h2]at h;omega
theorem decode_next (s:ByteArray) (pos:Nat) (h:pos < s.size) (ha:128≤(s[pos]'h).toNat):pos+(Utf8.decode s pos).2≤s.size∧∀ j,pos≤j→j < pos+(Utf8.decode s pos).2→∀ hj:j < s.size,128≤(s[j]'hj).toNat:=by
 have one:pos+1≤s.size∧∀ j,pos≤j→j < pos+1→∀ hj:j < s.size,128≤(s[j]'hj).toNat:=⟨h,fun j h1 h2 hj=>by
  obtain rfl:j=pos:=by omega
  exact ha⟩
 have hn:¬(s[pos]'h).toNat < 128:=by omega
 simp only[Utf8.decode,get_at s pos h,hn,if_false];split
 ·rename_i h1
  simp only[Bool.and_eq_true,decide_eq_true_eq,beq_iff_eq]at h1;split
  ·refine⟨by show pos+2≤_;omega,fun j p1 p2 hj=> ?_⟩
   have p2:j < pos+2:=p2;rcases(show j=pos∨j=pos+1 by omega)with rfl|rfl
   ·exact ha
   ·exact high_of h1.2.2 hj
  ·exact one
 split
 ·rename_i h1
  simp only[Bool.and_eq_true,decide_eq_true_eq,beq_iff_eq]at h1;split
  ·refine⟨by show pos+3≤_;omega,fun j p1 p2 hj=> ?_⟩
   have p2:j < pos+3:=p2;rcases(show j=pos∨j=pos+1∨j=pos+2 by omega)with rfl|rfl|rfl
   ·exact ha
   ·exact high_of h1.1.2.2 hj
   ·exact high_of h1.2.2 hj
  ·exact one
 split
 ·rename_i h1
  simp only[Bool.and_eq_true,decide_eq_true_eq,beq_iff_eq]at h1;split
  ·refine⟨by show pos+4≤_;omega,fun j p1 p2 hj=> ?_⟩
   have p2:j < pos+4:=p2;rcases(show j=pos∨j=pos+1∨j=pos+2∨j=pos+3 by omega)with rfl|rfl|rfl|rfl
   ·exact ha
   ·exact high_of h1.1.1.2.2 hj
   ·exact high_of h1.1.2.2 hj
   ·exact high_of h1.2.2 hj
  ·exact one
 ·exact one
theorem contains_lo {l:List UInt8} (hl:∀ x∈l,x.toNat < 128) {b:UInt8} (hb:128≤b.toNat):l.contains b=false:=by
 rw[←Bool.not_eq_true,List.contains_iff_mem];intro h;have:=hl b h;omega
theorem noAny_run {s:ByteArray} {l:List UInt8} (hl:∀ x∈l,x.toNat < 128) {i n:Nat} (h:Lib.NoAny s.data.toList l i) (hi:∀ j,i≤j→j < n→∀ hj:j < s.size,128≤(s[j]'hj).toNat):Lib.NoAny s.data.toList l n:=fun j b hj hb=>by
 by_cases hji:j < i
 ·exact h j b hji hb
 ·have hjs:j < s.size:=by
   rw[Lib.size_eq];exact(List.getElem?_eq_some_iff.1 hb).1
  rw[Lib.data_getElem? s j hjs]at hb;injection hb with hb;subst hb;exact contains_lo hl (hi j (by omega) hj hjs)
theorem indexAny_two (s X:ByteArray) (hX:X.size=2) (hlo:∀ x∈X.data.toList,x.toNat < 128) (hs:s.size < 4294967281) (w:World):
 Calls Tryz.prog 220 #[.string s,.string X] w fun e w'=>e=.returned (.int .i64 (Lib.indexAny s.data.toList X.data.toList))∧Below w.heap.size w w':=by
 by_cases h8:8 < s.size
 ·refine(Tryz.strings_IndexAny_long (zero_of_info (n:=256) (by kernel_rfl)).1 s X w (by omega) h8 hs (by omega) fun j b hb=>hlo b (List.mem_of_getElem? hb)).mono ?_
  rintro e w' ⟨rfl,rfl⟩;exact⟨rfl,((Below.refl _ _).alloc (Nat.le_refl _) _).alloc (by simp) _⟩
 ·have hne:(X.toList.isEmpty)=false:=by
   rw[Lib.toList_data];cases h:X.data.toList with
   | nil=>have:=Lib.size_eq X;rw[h,List.length_nil]at this;omega
   | cons _ _=>rfl
  have hn1:((X.size:Int) == 1)=false:=beq_eq_false_iff_ne.2 (by omega)
  have HA:=hid (Tryz.strings_shouldUseASCIISet (s.size:Int) w);rw[decide_eq_false (show ¬((8:Int) < (s.size:Int)) by omega)]at HA
  have hx0:(X[0]'(by omega)).toNat < 128:=hlo _ (List.mem_of_getElem? (Lib.data_getElem? X 0 (by omega)))
  have hx1:(X[1]'(by omega)).toNat < 128:=hlo _ (List.mem_of_getElem? (Lib.data_getElem? X 1 (by omega)))
  have HRh:Hid (∀(r:Nat) W,128≤r→r≤2147483647→Calls Tryz.prog 224 #[.string X,.int .i32 r] W fun e w'=>e=.returned (.int .i64 (-1))∧Below W.heap.size W w'):=hid fun r W h1 h2=>indexRune_two X hX hx0 hx1 r h1 h2 W;have HRl:Hid (∀(x:UInt8) W,x.toNat < 128→Calls Tryz.prog 224 #[.string X,.int .i32 x.toNat] W fun e w'=>e=.returned (.int .i64 (Lib.indexByte X.data.toList x))∧w'=W):=hid fun x W h1=>by
   have h:=Tryz.strings_IndexRune_ascii X (x.toNat:Int) W (by omega) (by omega)
   rw[show((x.toNat:Int)).toNat.toUInt8=x by simp]at h
   exact h
  have HLo:=hid hlo;clear hx0 hx1 hlo;generalize X.data.toList=chars at*
  go_enter Tryz.func220,Tryz.ntmps220
  go_wp2_with fail
  refine HA.out.mono ?_;clear HA;rintro e w1 ⟨rfl,rfl⟩;have hk0:(w1.iter s 0).heap[w1.heap.size]? =some (.stringIter s 0):=World.iter_heap w1 s 0;have HK0:=hid hk0;have HB0:=hid (below_iter w1 s 0);clear hk0
  go_wp2_with fail
  go_loopg [9,10] s.size (fun g _ _ wx=>∃ i:Nat,i+g=s.size∧wx.heap[w1.heap.size]? =some (.stringIter s i)∧Below w1.heap.size w1 wx∧Hid (Lib.NoAny s.data.toList chars i))
  case atStart=>exact⟨0,by omega,HK0.out,HB0.out,hid (Lib.NoAny.zero _ _)⟩
  case round=>
   clear HK0 HB0;obtain⟨i,hig,hk,hb,HN⟩:=hrel;obtain⟨wx,rfl⟩:∃ wx:World,wx=wr:=⟨_,rfl⟩;have HB:=hid hb;have HK:=hid hk
   by_cases hi:i < s.size
   ·have hnx:=fun ty=>Lib.run_next_any_at (P:=Tryz.prog) wx w1.heap.size s i ty hk hi;have hlt:w1.heap.size < wx.heap.size:=(Array.getElem?_eq_some_iff.1 hk).1;obtain⟨x,hx⟩:∃ x:UInt8,s[i]'hi=x:=⟨_,rfl⟩;have Hx:Hid (s.data.toList[i]? =some x):=hid (by rw[←hx];exact Lib.data_getElem? s i hi)
    have HD:Hid (x.toNat < 128∧Utf8.decode s i=(x.toNat,1)∨128≤x.toNat∧128≤(Utf8.decode s i).1∧1≤(Utf8.decode s i).2∧i+(Utf8.decode s i).2≤s.size∧Lib.NoAny s.data.toList chars (i+(Utf8.decode s i).2)):=hid (by
     subst hx
     by_cases h128:(s[i]'hi).toNat < 128
     ·exact .inl ⟨h128,decode_ascii s i hi h128⟩
     ·obtain⟨d1,d2⟩:=decode_high s i hi (by omega)
      obtain⟨d3,d4⟩:=decode_next s i hi (by omega)
      exact .inr ⟨by omega,d1,d2,d3,noAny_run HLo.out HN.out d4⟩)
    have hdl:=decode_le s i;have HW:Hid (∀ p,(wx.iterAt w1.heap.size s p).heap[w1.heap.size]? =some (.stringIter s p)∧Below w1.heap.size w1 (wx.iterAt w1.heap.size s p)∧w1.heap.size < (wx.iterAt w1.heap.size s p).heap.size):=hid fun p=>⟨Lib.iterAt_heap _ _ _ _ _ hk,Lib.below_iterAt hb (Nat.le_refl _) _ _,by rw[Lib.iterAt_size];exact hlt⟩
    clear hx hk hb;generalize Utf8.decode s i=D at *;obtain⟨r,n⟩:=D;dsimp only at hnx HD hdl;rcases HD.out with⟨hx128,hD⟩|⟨hx128,d1,d2,d3,d4⟩
    ·injection hD with e1 e2;subst e1;subst e2;have HQ:=hid (HRl.out x (wx.iterAt w1.heap.size s (i+1)) hx128);have hcon:=Lib.contains_iff_indexByte chars x;cases hin:chars.contains x with
     | false=>
       have HN2:=hid (HN.out.succ Hx.out hin);rw[hin]at hcon;have hlt0:¬((0:Int)≤Lib.indexByte chars x):=of_decide_eq_false hcon.symm;generalize Lib.indexByte chars x=o at *;clear hcon HD HRl HRh HN Hx hin HLo
       go_wp2_with fail
       refine HQ.out.mono ?_;clear HQ;rintro e w2 ⟨rfl,rfl⟩;obtain⟨q1,q2,_⟩:=HW.out (i+1);have Q1:=hid q1;have Q2:=hid q2;clear q1 q2 HW
       go_wp2_with fail
       go_roundg (s.size - (i+1))
       case measure=>omega
       case rel=>exact⟨i+1,by omega,Q1.out,Q2.out,HN2⟩
     | true=>
       have HH:=hid (Lib.indexAny_hit HN.out Hx.out hin);rw[hin]at hcon;have hge:(0:Int)≤Lib.indexByte chars x:=of_decide_eq_true hcon.symm;generalize Lib.indexByte chars x=o at *;clear hcon HD HRl HRh HN Hx hin HLo
       go_wp2_with fail
       refine HQ.out.mono ?_;clear HQ;rintro e w2 ⟨rfl,rfl⟩;obtain⟨_,q2,_⟩:=HW.out (i+1);have Q2:=hid q2;clear q2 HW
       go_wp2_with fail
       go_ret
       exact⟨by rw[HH.out];rfl,Q2.out⟩
    ·have HQ:=hid (HRh.out r (wx.iterAt w1.heap.size s (i+n)) d1 hdl);have HN2:=hid d4;clear HD HRl HRh HN Hx HLo d4
     go_wp2_with fail
     refine HQ.out.mono ?_;clear HQ;rintro e w2 ⟨rfl,hb2⟩;obtain⟨q1,q2,q3⟩:=HW.out (i+n);have Q1:=hid ((hb2.block _ q3).trans q1);have Q2:=hid (q2.trans (hb2.mono (Nat.le_of_lt q3)));clear q1 q2 q3 HW hb2
     go_wp2_with fail
     go_roundg (s.size - (i+n))
     case measure=>omega
     case rel=>exact⟨i+n,by omega,Q1.out,Q2.out,HN2⟩
   ·obtain rfl:i=s.size:=by omega
    have hnx:=fun ty=>Lib.run_next_end_at (P:=Tryz.prog) wx w1.heap.size s s.size ty hk (by omega)
    have HH:Hid (Lib.indexAny s.data.toList chars= -1):=hid (Lib.indexAny_none (by rw[←Lib.size_eq];exact HN.out))
    clear HRl HRh HN HLo hk hb HK
    go_wp2_with fail
    go_ret
    exact⟨by rw[HH.out];rfl,HB.out⟩
end Go.Proofs.YtagfnpdoooachaaGreatDoor
