/- msg.Parse, plainly: the reader. -/
import Derived.Test.YtpfmmbbggcghiaaGreatDoorNamesP
import Derived.Lib.Bytes2
import Derived.RangeFuncNested
import Derived.RangeFuncBound
set_option linter.unusedSimpArgs false
set_option linter.unusedVariables false
namespace Go.Proofs.YtpfmmbbggcghiaaGreatDoor
open Go.RowKit
def cutL (p l:List UInt8):Option (List UInt8):=if Lib.hasPrefix l p=true then some (l.drop p.length)else none
def wordL (ends l:List UInt8):Option (List UInt8×List UInt8):=if 0≤Lib.indexAny l ends then some (l.take (Lib.indexAny l ends).toNat,l.drop (Lib.indexAny l ends).toNat)else none
theorem cutL_len {p l r:List UInt8} (h:cutL p l=some r):r.length+p.length=l.length:=by
 unfold cutL at h;split at h
 ·rename_i h1
  injection h with h;rw[←h,List.length_drop];have:=Lib.hasPrefix_le h1;omega
 ·cases h
theorem wordL_len {e l:List UInt8} {p:List UInt8×List UInt8} (h:wordL e l=some p):p.1.length+p.2.length=l.length:=by
 unfold wordL at h;split at h
 ·injection h with h;rw[←h];show(l.take _).length+(l.drop _).length=_;rw[List.length_take,List.length_drop];omega
 ·cases h
def numberS:List UInt8:=[44,32,110,117,109,98,101,114,125]
def selectS:List UInt8:=[44,32,115,101,108,101,99,116,44]
def pluralS:List UInt8:=[44,32,112,108,117,114,97,108,44]
def offsetS:List UInt8:=[32,111,102,102,115,101,116,58]
def offL:List UInt8→Option Int
 | [c]=>if 49≤c.toNat∧c.toNat≤57 then some ((c.toNat:Int) - 48)else none
 | _=>none
section
variable {β:Type} (rd:Bool→List UInt8→Option (List β×List UInt8))
def cas1L (mark:Bool) (l:List UInt8):Option ((ByteArray×List β)×List UInt8):=
 (cutL [32] l).bind fun r1=>(wordL [32] r1).bind fun kw=>(cutL [32,123] kw.2).bind fun r3=>(rd mark r3).bind fun b=>(cutL [125] b.2).bind fun r5=>some ((str kw.1,b.1),r5)
def casesL (mark:Bool):Nat→List UInt8→Option (List (ByteArray×List β)×List UInt8)
 | 0,_=>none
 | n+1,l=>match cutL [125] l with
   | some r=>some ([],r)
   | none=>(cas1L rd mark l).bind fun p=>(casesL mark n p.2).map fun q=>(p.1::q.1,q.2)
def csL (mark:Bool) (l:List UInt8):Option (List (ByteArray×List β)×List UInt8):=casesL rd mark (l.length+1) l
def pluL (t:ByteArray) (r:List UInt8):Option (NdF β×List UInt8):=match cutL offsetS r with
 | none=>(csL rd true r).map fun q=>(⟨4,t,0,q.1⟩,q.2)
 | some r2=>(wordL [32,125] r2).bind fun ww=>(offL ww.1).bind fun o=>(csL rd true ww.2).map fun q=>(⟨4,t,o,q.1⟩,q.2)
def argL (mark:Bool) (l:List UInt8):Option (NdF β×List UInt8):=(wordL [44,125] l).bind fun p=>match cutL [125] p.2 with
 | some r=>some (⟨2,str p.1,0,[]⟩,r)
 | none=>match cutL numberS p.2 with
   | some r=>some (⟨3,str p.1,0,[]⟩,r)
   | none=>match cutL selectS p.2 with
     | some r=>(csL rd mark r).map fun q=>(⟨5,str p.1,0,q.1⟩,q.2)
     | none=>(cutL pluralS p.2).bind fun r=>pluL rd (str p.1) r
def preL (t:List UInt8):List (NdF β):=if t=[]then []else [⟨1,str t,0,[]⟩]
def markL (mark:Bool) (l:List UInt8):Option (List UInt8):=if mark then cutL [35] l else none
def msgL (mark:Bool):Nat→List UInt8→Option (List (NdF β)×List UInt8)
 | 0,_=>none
 | n+1,l=>(bareM mark l).bind fun p=>match cutL [123] p.2 with
   | some r=>(argL rd mark r).bind fun q=>(msgL mark n q.2).map fun z=>(preL p.1++q.1::z.1,z.2)
   | none=>match markL mark p.2 with
     | some r=>(msgL mark n r).map fun z=>(preL p.1++⟨6,ByteArray.empty,0,[]⟩::z.1,z.2)
     | none=>some (preL p.1,p.2)
def bulkF (cb:List β→Nat) (x:NdF β):Nat:=x.text.size+2+(x.cases.map fun c=>c.1.size+2+cb c.2).sum
variable {rd} {cb:List β→Nat} (hrd:∀ mark l b r,rd mark l=some (b,r)→cb b+3*r.length≤3*l.length)
theorem cas1L_len {mark:Bool} {l:List UInt8} {p:(ByteArray×List β)×List UInt8} (hrd:∀ mark l b r,rd mark l=some (b,r)→cb b+3*r.length≤3*l.length) (h:cas1L rd mark l=some p):p.1.1.size+2+cb p.1.2+3*p.2.length+1≤3*l.length:=by
 unfold cas1L at h;obtain⟨r1,h1,h⟩:=Option.bind_eq_some_iff.1 h;obtain⟨kw,h2,h⟩:=Option.bind_eq_some_iff.1 h;obtain⟨r3,h3,h⟩:=Option.bind_eq_some_iff.1 h;obtain⟨b,h4,h⟩:=Option.bind_eq_some_iff.1 h;obtain⟨r5,h5,h⟩:=Option.bind_eq_some_iff.1 h;injection h with h;subst h;have k1:=cutL_len h1;have k2:=wordL_len h2;have k3:=cutL_len h3;have k4:=hrd mark r3 b.1 b.2 h4;have k5:=cutL_len h5;simp only[List.length_cons,List.length_nil]at k1 k3 k5;show(str kw.1).size+2+cb b.1+3*r5.length+1≤_;rw[str_size];omega
theorem casesL_len (hrd:∀ mark l b r,rd mark l=some (b,r)→cb b+3*r.length≤3*l.length) {mark:Bool}:∀ {n:Nat} {l:List UInt8} {p:List (ByteArray×List β)×List UInt8},casesL rd mark n l=some p→(p.1.map fun c=>c.1.size+2+cb c.2).sum+3*p.2.length≤3*l.length
 | 0,_,_,h=>by cases h
 | n+1,l,p,h=>by
   unfold casesL at h;split at h
   ·rename_i r hr
    injection h with h;subst h;have:=cutL_len hr;show 0+3*r.length≤_;omega
   ·obtain⟨c,h1,h⟩:=Option.bind_eq_some_iff.1 h;obtain⟨q,h2,h⟩:=Option.map_eq_some_iff.1 h;subst h;have k1:=cas1L_len hrd h1;have k2:=casesL_len hrd h2;show((c.1::q.1).map fun c=>c.1.size+2+cb c.2).sum+3*q.2.length≤_;rw[List.map_cons,List.sum_cons];omega
theorem argL_len (hrd:∀ mark l b r,rd mark l=some (b,r)→cb b+3*r.length≤3*l.length) {mark:Bool} {l:List UInt8} {p:NdF β×List UInt8} (h:argL rd mark l=some p):bulkF cb p.1+3*p.2.length≤3*l.length:=by
 unfold argL at h;obtain⟨w,h1,h⟩:=Option.bind_eq_some_iff.1 h;have k1:=wordL_len h1;have leaf:∀(k:Int) (r:List UInt8),r.length+1≤w.2.length→bulkF cb (⟨k,str w.1,0,[]⟩:NdF β)+3*r.length≤3*l.length:=fun k r hr=>by
  show(str w.1).size+2+0+3*r.length≤_;rw[str_size];omega
 have deep:∀(k o:Int) (mk:Bool) (r:List UInt8) (p:NdF β×List UInt8),r.length+1≤w.2.length→((csL rd mk r).map fun q=>((⟨k,str w.1,o,q.1⟩:NdF β),q.2))=some p→bulkF cb p.1+3*p.2.length≤3*l.length:=fun k o mk r p hr hp=>by
  obtain⟨q,h2,hp⟩:=Option.map_eq_some_iff.1 hp;subst hp;have k2:=casesL_len hrd h2;show(str w.1).size+2+(q.1.map fun c=>c.1.size+2+cb c.2).sum+3*q.2.length≤_;rw[str_size];omega
 split at h
 ·rename_i r hr
  injection h with h;subst h;have:=cutL_len hr;simp only[List.length_cons,List.length_nil]at this;exact leaf 2 r (by omega)
 split at h
 ·rename_i r hr
  injection h with h;subst h;have:=cutL_len hr;simp only[numberS,List.length_cons,List.length_nil]at this;exact leaf 3 r (by omega)
 split at h
 ·rename_i r hr
  have:=cutL_len hr;simp only[selectS,List.length_cons,List.length_nil]at this;exact deep 5 0 mark r p (by omega) h
 ·obtain⟨r,hr,h⟩:=Option.bind_eq_some_iff.1 h;have:=cutL_len hr;simp only[pluralS,List.length_cons,List.length_nil]at this;unfold pluL at h;split at h
  ·exact deep 4 0 true r p (by omega) h
  ·rename_i r2 hr2
   have k2:=cutL_len hr2;obtain⟨ww,h3,h⟩:=Option.bind_eq_some_iff.1 h;obtain⟨o,h4,h⟩:=Option.bind_eq_some_iff.1 h;have k3:=wordL_len h3;exact deep 4 o true ww.2 p (by omega) h
theorem preL_len (t:List UInt8):((preL t:List (NdF β)).map (bulkF cb)).sum≤3*t.length:=by
 unfold preL;split
 ·exact Nat.zero_le _
 ·rename_i h
  have:=List.length_pos_iff.2 h;show(str t).size+2+0+0≤_;rw[str_size];omega
theorem msgL_len (hrd:∀ mark l b r,rd mark l=some (b,r)→cb b+3*r.length≤3*l.length) {mark:Bool}:∀ {n:Nat} {l:List UInt8} {p:List (NdF β)×List UInt8},msgL rd mark n l=some p→(p.1.map (bulkF cb)).sum+3*p.2.length≤3*l.length
 | 0,_,_,h=>by cases h
 | n+1,l,p,h=>by
   unfold msgL at h;obtain⟨b,h1,h⟩:=Option.bind_eq_some_iff.1 h;have k1:=bareM_len (t:=b.1) (r:=b.2) h1;have k2:=preL_len (cb:=cb) b.1;split at h
   ·rename_i r hr
    obtain⟨q,h2,h⟩:=Option.bind_eq_some_iff.1 h;obtain⟨z,h3,h⟩:=Option.map_eq_some_iff.1 h;subst h;have k3:=cutL_len hr;have k4:=argL_len hrd h2;have k5:=msgL_len hrd h3;show((preL b.1++q.1::z.1).map (bulkF cb)).sum+3*z.2.length≤_;rw[List.map_append,List.sum_append,List.map_cons,List.sum_cons];omega
   split at h
   ·rename_i r hr
    obtain⟨z,h3,h⟩:=Option.map_eq_some_iff.1 h;subst h;have k3:r.length+1=b.2.length:=by
     unfold markL at hr;split at hr
     ·exact cutL_len hr
     ·cases hr
    have k5:=msgL_len hrd h3;show((preL b.1++(⟨6,ByteArray.empty,0,[]⟩:NdF β)::z.1).map (bulkF cb)).sum+3*z.2.length≤_;rw[List.map_append,List.sum_append,List.map_cons,List.sum_cons];have:bulkF cb (⟨6,ByteArray.empty,0,[]⟩:NdF β)=2:=rfl;omega
   ·injection h with h;subst h;show((preL b.1:List (NdF β)).map (bulkF cb)).sum+3*b.2.length≤_;omega
end
def readM:(n:Nat)→Bool→List UInt8→Option (List (Nd n)×List UInt8)
 | 0,_,_=>none
 | n+1,mark,l=>msgL (readM n) mark (l.length+1) l
theorem readM_len:(n:Nat)→∀(mark:Bool) (l:List UInt8) (b:List (Nd n)) (r:List UInt8),readM n mark l=some (b,r)→(b.map (Enc.node n).bulk).sum+3*r.length≤3*l.length
 | 0,_,_,_,_,h=>by cases h
 | n+1,mark,l,b,r,h=>by
   have h1:=msgL_len (cb:=fun b:List (Nd n)=>(b.map (Enc.node n).bulk).sum) (fun mark l b r=>readM_len n mark l b r) h;refine Nat.le_trans (Nat.add_le_add_right ?_ _) h1;refine sum_map_le (Enc.node (n+1)).bulk (bulkF fun b:List (Nd n)=>(b.map (Enc.node n).bulk).sum) b fun x _=> ?_;rw[node_bulk n x];show _≤x.text.size+2+(x.cases.map fun c=>c.1.size+2+(c.2.map (Enc.node n).bulk).sum).sum;have:(x.cases.map (Enc.cas (Enc.node n)).bulk).sum≤(x.cases.map fun c=>c.1.size+2+(c.2.map (Enc.node n).bulk).sum).sum:=sum_map_le _ _ x.cases fun c _=>by
    rw[cas_bulk];omega
   omega
def parM (s:List UInt8):List (Nd 7):=match readM 7 false s with|some (m,[])=>m|_=>[]
def parE (s:List UInt8):Int:=if 2000 < s.length then 4 else match readM 7 false s with|some (m,[])=>if checkAll 7 m=0 then 0 else 3|_=>3
end Go.Proofs.YtpfmmbbggcghiaaGreatDoor
namespace Go.Proofs
open Go.Shelf
def Tryz.lays99_ren:Go.Shelf.Ren:=⟨fun|99=>117|206=>167|n=>n,fun|9=>9|4=>4|3=>3|n=>n,fun|n=>n⟩
theorem Tryz.lays99:Go.Proofs.Lays.n99 Tryz.prog Tryz.lays99_ren:= {
 mixed:=by kernel_rfl
 f99:=Tryz.func117.trans (congrArg some (by kernel_rfl))
 f206:=Tryz.func167.trans (congrArg some (by kernel_rfl))
 t3:=Tryz.underlying3
 a3:=Tryz.isAgg3
 z3:=Tryz.sizeOf3
 v3:=Tryz.zeroValue3
 t4:=Tryz.underlying4
 a4:=Tryz.isAgg4
 z4:=Tryz.sizeOf4
 v4:=Tryz.zeroValue4
 t9:=Tryz.underlying9
 a9:=Tryz.isAgg9
 z9:=Tryz.sizeOf9
 v9:=Tryz.zeroValue9 }
open Go.RowKit Go.Lib in
theorem Tryz.strings_HasPrefix (s p:ByteArray) (w:World):
 Calls Tryz.prog 117 #[.string s,.string p] w fun e w'=>e=.returned (.bool (Lib.hasPrefix s.data.toList p.data.toList))∧w'=w:=Any.strings_HasPrefix Tryz.lays99 s p w
def Tryz.lays152_ren:Go.Shelf.Ren:=⟨fun|152=>205|137=>115|119=>229|224=>154|225=>153|217=>152|266=>199|n=>n,fun|9=>9|21=>21|3=>3|4=>4|5=>5|0=>0|46=>243|n=>n,fun|n=>n⟩
theorem Tryz.lays152:Go.Proofs.Lays.n152 Tryz.prog Tryz.lays152_ren:= {
 mixed:=by kernel_rfl
 f119:=Tryz.func229.trans (congrArg some (by kernel_rfl))
 f137:=Tryz.func115.trans (congrArg some (by kernel_rfl))
 f152:=Tryz.func205.trans (congrArg some (by kernel_rfl))
 f217:=Tryz.func152.trans (congrArg some (by kernel_rfl))
 f224:=Tryz.func154.trans (congrArg some (by kernel_rfl))
 f225:=Tryz.func153.trans (congrArg some (by kernel_rfl))
 f266:=Tryz.func199.trans (congrArg some (by kernel_rfl))
 t0:=Tryz.underlying0
 a0:=Tryz.isAgg0
 z0:=Tryz.sizeOf0
 v0:=Tryz.zeroValue0
 t3:=Tryz.underlying3
 a3:=Tryz.isAgg3
 z3:=Tryz.sizeOf3
 v3:=Tryz.zeroValue3
 t4:=Tryz.underlying4
 a4:=Tryz.isAgg4
 z4:=Tryz.sizeOf4
 v4:=Tryz.zeroValue4
 t5:=Tryz.underlying5
 a5:=Tryz.isAgg5
 z5:=Tryz.sizeOf5
 v5:=Tryz.zeroValue5
 t9:=Tryz.underlying9
 a9:=Tryz.isAgg9
 z9:=Tryz.sizeOf9
 v9:=Tryz.zeroValue9
 t21:=Tryz.underlying21
 a21:=Tryz.isAgg21
 z21:=Tryz.sizeOf21
 v21:=Tryz.zeroValue21
 t46:=Tryz.underlying243
 a46:=Tryz.isAgg243
 z46:=Tryz.sizeOf243
 v46:=Tryz.zeroValue243 }
open Go.RowKit Go.Lib in
theorem Tryz.strings_IndexRune_ascii (s:ByteArray) (r:Int) (w:World) (h0:0≤r) (h1:r < 128):
 Calls Tryz.prog 205 #[.string s,.int .i32 r] w fun e w'=>e=.returned (.int .i64 (Lib.indexByte s.data.toList r.toNat.toUInt8))∧w'=w:=Any.strings_IndexRune_ascii Tryz.lays152 s r w h0 h1
def Tryz.lays226_ren:Go.Shelf.Ren:=⟨fun|226=>206|n=>n,fun|3=>3|4=>4|n=>n,fun|n=>n⟩
theorem Tryz.lays226:Go.Proofs.Lays.n226 Tryz.prog Tryz.lays226_ren:= {
 mixed:=by kernel_rfl
 f226:=Tryz.func206.trans (congrArg some (by kernel_rfl))
 t3:=Tryz.underlying3
 a3:=Tryz.isAgg3
 z3:=Tryz.sizeOf3
 v3:=Tryz.zeroValue3
 t4:=Tryz.underlying4
 a4:=Tryz.isAgg4
 z4:=Tryz.sizeOf4
 v4:=Tryz.zeroValue4 }
open Go.RowKit Go.Lib in
theorem Tryz.strings_shouldUseASCIISet (n:Int) (w:World):
 Calls Tryz.prog 206 #[.int .i64 n] w fun e w'=>e=.returned (.bool (decide (8 < n)))∧w'=w:=Any.strings_shouldUseASCIISet Tryz.lays226 n w
def Tryz.lays153_ren:Go.Shelf.Ren:=⟨fun|153=>169|152=>205|226=>206|227=>161|228=>201|137=>115|119=>229|224=>154|225=>153|217=>152|266=>199|n=>n,fun|9=>9|3=>3|4=>4|5=>5|21=>21|117=>279|116=>278|0=>0|46=>243|124=>282|n=>n,fun|n=>n⟩
theorem Tryz.lays153:Go.Proofs.Lays.n153 Tryz.prog Tryz.lays153_ren:= {
 mixed:=by kernel_rfl
 f119:=Tryz.func229.trans (congrArg some (by kernel_rfl))
 f137:=Tryz.func115.trans (congrArg some (by kernel_rfl))
 f152:=Tryz.func205.trans (congrArg some (by kernel_rfl))
 f153:=Tryz.func169.trans (congrArg some (by kernel_rfl))
 f217:=Tryz.func152.trans (congrArg some (by kernel_rfl))
 f224:=Tryz.func154.trans (congrArg some (by kernel_rfl))
 f225:=Tryz.func153.trans (congrArg some (by kernel_rfl))
 f226:=Tryz.func206.trans (congrArg some (by kernel_rfl))
 f227:=Tryz.func161.trans (congrArg some (by kernel_rfl))
 f228:=Tryz.func201.trans (congrArg some (by kernel_rfl))
 f266:=Tryz.func199.trans (congrArg some (by kernel_rfl))
 t0:=Tryz.underlying0
 a0:=Tryz.isAgg0
 z0:=Tryz.sizeOf0
 v0:=Tryz.zeroValue0
 t3:=Tryz.underlying3
 a3:=Tryz.isAgg3
 z3:=Tryz.sizeOf3
 v3:=Tryz.zeroValue3
 t4:=Tryz.underlying4
 a4:=Tryz.isAgg4
 z4:=Tryz.sizeOf4
 v4:=Tryz.zeroValue4
 t5:=Tryz.underlying5
 a5:=Tryz.isAgg5
 z5:=Tryz.sizeOf5
 v5:=Tryz.zeroValue5
 t9:=Tryz.underlying9
 a9:=Tryz.isAgg9
 z9:=Tryz.sizeOf9
 v9:=Tryz.zeroValue9
 t21:=Tryz.underlying21
 a21:=Tryz.isAgg21
 z21:=Tryz.sizeOf21
 v21:=Tryz.zeroValue21
 t46:=Tryz.underlying243
 a46:=Tryz.isAgg243
 z46:=Tryz.sizeOf243
 v46:=Tryz.zeroValue243
 t116:=Tryz.underlying278
 a116:=Tryz.isAgg278
 z116:=Tryz.sizeOf278
 t117:=Tryz.underlying279
 a117:=Tryz.isAgg279
 z117:=Tryz.sizeOf279
 v117:=Tryz.zeroValue279
 t124:=Tryz.underlying282
 a124:=Tryz.isAgg282
 z124:=Tryz.sizeOf282
 v124:=Tryz.zeroValue282 }
open Go.RowKit Go.Lib in
theorem Tryz.strings_IndexAny_one (s chars:ByteArray) (w:World) (h1:chars.size=1) (hascii:∀(j:Nat) b,chars.data.toList[j]? =some b→b.toNat < 128):
 Calls Tryz.prog 169 #[.string s,.string chars] w fun e w'=>e=.returned (.int .i64 (Lib.indexAny s.data.toList chars.data.toList))∧w'=w:=Any.strings_IndexAny_one Tryz.lays153 s chars w h1 hascii
open Go.RowKit Go.Lib in
theorem Tryz.strings_IndexAny_long (hv116:∀ w,(zeroValue 278).run Tryz.prog w=.ok (.agg (Array.replicate 256 (.bool false))) w) (s chars:ByteArray) (w:World) (h2:2≤chars.size) (h8:8 < s.size) (hs:s.size < 4294967281) (hcs:chars.size < 4294967281) (hascii:∀(j:Nat) b,chars.data.toList[j]? =some b→b.toNat < 128):
 Calls Tryz.prog 169 #[.string s,.string chars] w fun e w'=>e=.returned (.int .i64 (Lib.indexAny s.data.toList chars.data.toList))∧w'=((w.alloc (.cells (Lib.setCells chars.data.toList) 278)).alloc (.cells (Lib.setCells chars.data.toList) 278)):=Any.strings_IndexAny_long Tryz.lays153 hv116 (by kernel_rfl) s chars w h2 h8 hs hcs hascii
end Go.Proofs
namespace Go.Proofs.YtpfmmbbggcghiaaGreatDoor
open Go.RowKit
def SeqT {α:Type} (F:Fence) (n:Nat) (P:Program) (g:Nat) (lb:Array Value) (enc:α→Value) (xs:List α) (St Kp:World→World→Prop) (w:World):Prop:=
 ∀(l:Nat) (J:Nat→World→Prop) (W:World),Kp w W→AbidesFrom W.heap.size J→(∀ k A B,J k A→St A B→J k B)→
  (∀ k (hk:k < xs.length) A,J k A→YieldAt F (n - 1) P l #[enc xs[k]] A fun e B=>e=.returned (.bool true)∧J (k+1) B∧Kp A B)→
  J 0 W→CallsIn F n P g (#[.func (.yield l) #[] #[]]++lb) W fun e B=>(∃ v,e=.returned v)∧J xs.length B
def roundT (B:Nat) (Kp:World→World→Prop) (I:Nat→World→Prop) (k:Nat) (W:World):Exit→Act→World→Prop
 | .normal,_,W'=>KeepsFrom B W W'∧Kp W W'∧I k W'
 | _,_,_=>False
theorem zip_one (p:Tmp) (v:Value) (t:Array Value):((#[p]).zip #[v]).foldl (fun tmps (q,u)=>tmps.setIfInBounds q u) t=t.setIfInBounds p v:=by simp
variable {F:Fence} {n:Nat} {P:Program}
theorem range_inner {α:Type} {g:Operand} {p:Tmp} {assign body:Code} {Q:Exit→Act→World→Prop} {a:Act} {w:World}
 {l₀:Nat} {r₀:Loop} (hro:F.round=some l₀) (hl₀:w.heap[l₀]? =some (.loop r₀)) (h1:1≤n) {gf:Nat} {lb:Array Value} (hg:a.eval g=.func (.func gf) #[] lb) (hFg:F.fn gf) (eg:∀ args w,(callFunc gf args).run P w=.ok (.enter gf args) w)
 {enc:α→Value} {xs:List α} {St Kp:World→World→Prop} {w0:World} (hseq:SeqT F (n - 1) P gf lb enc xs St Kp w0)
 (hK0:Kp w0 w) (hKt:∀ {A B C:World},Kp A B→Kp B C→Kp A C) (hKa:∀(W:World) (o:Obj),w.heap.size≤W.heap.size→Kp W (W.alloc o)) (hKb:∀(W:World) (l:Nat) (o o':Obj),w.heap.size≤l→W.heap[l]? =some o→o.isCells=false→o.isWalk=false→Kp W (W.putObj l o'))
 (hSt:∀ A B,St A B→∀ i,w.heap.size≤i→B.heap[i]? =A.heap[i]?)
 (I:Nat→World→Prop) (hI:OwnFrom w.heap.size I) (hIs:∀ k A B,I k A→St A B→I k B) (h0:I 0 w) (Ax:Nat→Act→World→Prop) (hAx:∀ k a',OwnFrom w.heap.size (fun(_:Unit) W=>Ax k a' W))
 (hassign:∀(l k:Nat) (hk:k < xs.length) (W:World) (K:Act→World→Prop),I k W→(∀ a' W',KeepsFrom w.heap.size W W'→Kp W W'→I k W'→Ax k a' W'→K a' W')→
   assign.wpIn (F.inRound l) (n - 1 - 1) P (Exit.then K (fun _ _ _=>False)) { tmps:=a.tmps.setIfInBounds p (enc xs[k]),defers:=[] } W)
 (hbody:∀(l k:Nat) (hk:k < xs.length) (a':Act) (W:World),w.heap.size≤l→(∃ r,W.heap[l]? =some (.loop r))→I k W→Ax k a' W→body.wpIn (F.inRound l) (n - 1 - 1) P (roundT w.heap.size Kp I (k+1) W) a' W)
 (hdone:∀(W:World),I xs.length W→Q .normal a W):
 (Code.rangeFunc g #[p] assign body).wpIn F n P Q a w:=by
 refine wpIn_rangeFunc fun fn hfn=> ?_;rw[hro];obtain⟨rec,hrec⟩:∃ rec:LoopState→Loop,rec=fun st=> { state:=st,pending:=none,fn,tmps:=a.tmps,params:=#[p],assign,body,defers:=r₀.defers }:=⟨_,rfl⟩;obtain⟨W1,hW1⟩:∃ W1,w.alloc (.loop (rec .ready))=W1:=⟨_,rfl⟩;have hL1:W1.heap[w.heap.size]? =some (.loop (rec .ready)):=by rw[←hW1];exact World.alloc_heap_new w _
 have hs1:W1.heap.size=w.heap.size+1:=by rw[←hW1];simp
 have hI1:I 0 W1:=by rw[←hW1];exact hI.alloc _ h0
 have hK1:Kp w0 W1:=by rw[←hW1];exact hKt hK0 (hKa w _ (Nat.le_refl _))
 refine⟨w.heap.size,[],W1,{ target:=.fn (.func gf) lb,args:=#[.func (.yield w.heap.size) #[] #[]] },W1,gf,#[.func (.yield w.heap.size) #[] #[]]++lb,W1,?_,?_,?_,?_,fun _=>h1,?_⟩
 ·rw[←hW1,hrec];exact run_enterLoop_inner hl₀ _ _ _ _ _
 ·simp only[resolve,hg];simp[go_sem]
 ·intro f' hf';simp[Target.leads]at hf';subst hf';exact hFg
 ·simp[invoke,go_sem,eg]
 ·refine(hseq w.heap.size (fun k W=>I k W∧W.heap[w.heap.size]? =some (.loop (rec .ready))) W1 hK1 ?_ ?_ ?_ ⟨hI1,hL1⟩).mono ?_
  ·rintro k A B row ⟨hi,hl⟩ hgr hr;have hr':∀ r,row=some r→w.heap.size≤r∧∃ o:Obj,A.heap[r]? =some o∧o.isCells=false:=fun r e=>by
    obtain⟨hB,o,ho,hw⟩:=hr r e;exact⟨by omega,o,ho,Obj.not_cells_of_walk hw⟩
   exact⟨hI k A B row hi hgr hr',(grownBy_keeps hgr (fun r e=>(hr r e).2) hl rfl).trans hl⟩
  ·rintro k A B ⟨hi,hl⟩ hst;exact⟨hIs k A B hi hst,(hSt A B hst _ (Nat.le_refl _)).trans hl⟩
  ·rintro k hk W ⟨hi,hl⟩;have hy:=run_yield (P:=P) (args:=#[enc xs[k]]) hl (by rw[hrec];rfl)
   rw[hrec]at hy
   replace hy:=hy.trans (congrArg (fun t=>Result.ok (Next.round _ fn t assign body) W) (zip_one p (enc xs[k]) a.tmps))
   refine⟨fn,_,assign,body,hy,roundIn_of_wpIn hfn (hassign _ k hk W _ hi ?_)⟩;clear hy;intro a' Wa hkf hkp hia hax;have hla:=hkf.same _ _ (Nat.le_refl _) hl rfl;have hlt:w.heap.size < Wa.heap.size:=(Array.getElem?_eq_some_iff.1 hla).1;refine⟨_,run_beginRound hla (by rw[hrec]),?_⟩
   have hl2:(Wa.putObj w.heap.size (.loop { rec .ready with state:=.busy })).heap[w.heap.size]? =some (.loop { rec .ready with state:=.busy }):=World.putObj_heap_same hlt;have hkp2:Kp Wa (Wa.putObj w.heap.size (.loop { rec .ready with state:=.busy })):=hKb _ _ _ _ (Nat.le_refl _) hla rfl rfl;refine wpIn_mono (hbody _ k hk a' _ (Nat.le_refl _) ⟨_,hl2⟩ (hI.putObj _ hia (Nat.le_refl _) hla rfl) ((hAx k a').putObj (s:=()) _ hax (Nat.le_refl _) hla rfl)) ?_;rintro e a3 W3 hp;cases e with
   | normal=>
     obtain⟨hk3,hkp3,hi3⟩:=hp;have hl3:=hk3.same _ _ (Nat.le_refl _) hl2 rfl;have hend:=run_endRound (P:=P) none hl3;have hl4:(W3.putObj w.heap.size (.loop (rec .ready))).heap[w.heap.size]? =some (.loop (rec .ready)):=World.putObj_heap_same (Array.getElem?_eq_some_iff.1 hl3).1;rw[hrec]at hend hl4 hl3;refine⟨_,_,hend,rfl,⟨hI.putObj _ hi3 (Nat.le_refl _) hl3 rfl,?_⟩,hKt hkp (hKt (hKt hkp2 hkp3) (hKb _ _ _ _ (Nat.le_refl _) hl3 rfl rfl))⟩;rw[hrec];exact hl4
   | ret=>exact hp.elim
   | exit id=>exact hp.elim
   | goto t=>exact hp.elim
   | panic ch=>exact hp.elim
   | outgrown=>exact hp.elim
  ·rintro e W2 ⟨⟨v,rfl⟩,hi,hl⟩;exact⟨none,_,by have:=run_endLoop (P:=P) hl (by rw[hrec];simp);rw[hrec]at this;exact this,hdone _ (hI.putObj _ hi (Nat.le_refl _) hl rfl)⟩
theorem range_outer {α:Type} {g:Operand} {p:Tmp} {assign body:Code} {Q:Exit→Act→World→Prop} {a:Act} {w:World}
 (hro:F.round=none) (h1:1≤n) {gf:Nat} {lb:Array Value} (hg:a.eval g=.func (.func gf) #[] lb) (hFg:F.fn gf) (eg:∀ args w,(callFunc gf args).run P w=.ok (.enter gf args) w)
 {enc:α→Value} {xs:List α} {St Kp:World→World→Prop} {w0:World} (hseq:SeqT F (n - 1) P gf lb enc xs St Kp w0)
 (hK0:Kp w0 w) (hKt:∀ {A B C:World},Kp A B→Kp B C→Kp A C) (hKa:∀(W:World) (o:Obj),w.heap.size≤W.heap.size→Kp W (W.alloc o)) (hKb:∀(W:World) (l:Nat) (o o':Obj),w.heap.size≤l→W.heap[l]? =some o→o.isCells=false→o.isWalk=false→Kp W (W.putObj l o'))
 (hSt:∀ A B,St A B→∀ i,w.heap.size≤i→B.heap[i]? =A.heap[i]?)
 (I:Nat→World→Prop) (hI:OwnFrom w.heap.size I) (hIs:∀ k A B,I k A→St A B→I k B) (h0:I 0 w) (Ax:Nat→Act→World→Prop) (hAx:∀ k a',OwnFrom w.heap.size (fun(_:Unit) W=>Ax k a' W))
 (hassign:∀(l k:Nat) (hk:k < xs.length) (W:World) (K:Act→World→Prop),I k W→(∀ a' W',KeepsFrom w.heap.size W W'→Kp W W'→I k W'→Ax k a' W'→K a' W')→
   assign.wpIn (F.inRound l) (n - 1 - 1) P (Exit.then K (fun _ _ _=>False)) { tmps:=a.tmps.setIfInBounds p (enc xs[k]),defers:=[] } W)
 (hbody:∀(l k:Nat) (hk:k < xs.length) (a':Act) (W:World),w.heap.size≤l→(∃ r,W.heap[l]? =some (.loop r))→I k W→Ax k a' W→body.wpIn (F.inRound l) (n - 1 - 1) P (roundT w.heap.size Kp I (k+1) W) a' W)
 (hdone:∀(D:Nat) (W:World),w.heap.size≤D→I xs.length W→W.heap[D]? =some (.deferred (some []))→Q .normal { a with defers:= { target:=.collected D,args:=#[] }::a.defers } W):
 (Code.rangeFunc g #[p] assign body).wpIn F n P Q a w:=by
 refine wpIn_rangeFunc fun fn hfn=> ?_;rw[hro];obtain⟨rec,hrec⟩:∃ rec:LoopState→Loop,rec=fun st=> { state:=st,pending:=none,fn,tmps:=a.tmps,params:=#[p],assign,body,defers:=w.heap.size }:=⟨_,rfl⟩;obtain⟨W1,hW1⟩:∃ W1,(w.alloc (.deferred (some []))).alloc (.loop (rec .ready))=W1:=⟨_,rfl⟩;have hs1:W1.heap.size=w.heap.size+2:=by rw[←hW1];simp
 have hL1:W1.heap[w.heap.size+1]? =some (.loop (rec .ready)):=by
  rw[←hW1];have:=World.alloc_heap_new (w.alloc (.deferred (some []))) (.loop (rec .ready));rwa[World.size_alloc]at this
 have hD1:W1.heap[w.heap.size]? =some (.deferred (some [])):=by
  rw[←hW1];exact(Below.heap_alloc _ _ _ (by simp)).trans (World.alloc_heap_new w _)
 have hI1:I 0 W1:=by rw[←hW1];exact hI.alloc _ (hI.alloc _ h0)
 have hK1:Kp w0 W1:=by rw[←hW1];exact hKt hK0 (hKt (hKa w _ (Nat.le_refl _)) (hKa _ _ (by simp)))
 refine⟨w.heap.size+1,[{ target:=.collected w.heap.size,args:=#[] }],W1,{ target:=.fn (.func gf) lb,args:=#[.func (.yield (w.heap.size+1)) #[] #[]] },W1,gf,#[.func (.yield (w.heap.size+1)) #[] #[]]++lb,W1,?_,?_,?_,?_,fun _=>h1,?_⟩
 ·rw[←hW1,hrec];exact run_enterLoop_outer _ _ _ _ _
 ·simp only[resolve,hg];simp[go_sem]
 ·intro f' hf';simp[Target.leads]at hf';subst hf';exact hFg
 ·simp[invoke,go_sem,eg]
 ·refine(hseq (w.heap.size+1) (fun k W=>I k W∧W.heap[w.heap.size+1]? =some (.loop (rec .ready))∧W.heap[w.heap.size]? =some (.deferred (some []))) W1 hK1 ?_ ?_ ?_ ⟨hI1,hL1,hD1⟩).mono ?_
  ·rintro k A B row ⟨hi,hl,hd⟩ hgr hr;have hr':∀ r,row=some r→w.heap.size≤r∧∃ o:Obj,A.heap[r]? =some o∧o.isCells=false:=fun r e=>by
    obtain⟨hB,o,ho,hw⟩:=hr r e;exact⟨by omega,o,ho,Obj.not_cells_of_walk hw⟩
   exact⟨hI k A B row hi hgr hr',(grownBy_keeps hgr (fun r e=>(hr r e).2) hl rfl).trans hl,(grownBy_keeps hgr (fun r e=>(hr r e).2) hd rfl).trans hd⟩
  ·rintro k A B ⟨hi,hl,hd⟩ hst;exact⟨hIs k A B hi hst,(hSt A B hst _ (by omega)).trans hl,(hSt A B hst _ (Nat.le_refl _)).trans hd⟩
  ·rintro k hk W ⟨hi,hl,hd⟩;have hy:=run_yield (P:=P) (args:=#[enc xs[k]]) hl (by rw[hrec];rfl)
   rw[hrec]at hy
   replace hy:=hy.trans (congrArg (fun t=>Result.ok (Next.round _ fn t assign body) W) (zip_one p (enc xs[k]) a.tmps))
   refine⟨fn,_,assign,body,hy,roundIn_of_wpIn hfn (hassign _ k hk W _ hi ?_)⟩;clear hy;intro a' Wa hkf hkp hia hax;have hla:=hkf.same _ _ (by omega) hl rfl
   have hda:=hkf.same _ _ (Nat.le_refl _) hd rfl;have hlt:w.heap.size+1 < Wa.heap.size:=(Array.getElem?_eq_some_iff.1 hla).1;refine⟨_,run_beginRound hla (by rw[hrec]),?_⟩
   have hl2:(Wa.putObj (w.heap.size+1) (.loop { rec .ready with state:=.busy })).heap[w.heap.size+1]? =some (.loop { rec .ready with state:=.busy }):=World.putObj_heap_same hlt;have hd2:(Wa.putObj (w.heap.size+1) (.loop { rec .ready with state:=.busy })).heap[w.heap.size]? =some (.deferred (some [])):=(World.putObj_heap_other (by omega)).trans hda
   have hkp2:Kp Wa (Wa.putObj (w.heap.size+1) (.loop { rec .ready with state:=.busy })):=hKb _ _ _ _ (by omega) hla rfl rfl
   refine wpIn_mono (hbody _ k hk a' _ (by omega) ⟨_,hl2⟩ (hI.putObj _ hia (by omega) hla rfl) ((hAx k a').putObj (s:=()) _ hax (by omega) hla rfl)) ?_
   rintro e a3 W3 hp;cases e with
   | normal=>
     obtain⟨hk3,hkp3,hi3⟩:=hp;have hl3:=hk3.same _ _ (by omega) hl2 rfl
     have hd3:=hk3.same _ _ (Nat.le_refl _) hd2 rfl;have hend:=run_endRound (P:=P) none hl3;have hl4:(W3.putObj (w.heap.size+1) (.loop (rec .ready))).heap[w.heap.size+1]? =some (.loop (rec .ready)):=World.putObj_heap_same (Array.getElem?_eq_some_iff.1 hl3).1;rw[hrec]at hend hl4 hl3;refine⟨_,_,hend,rfl,⟨hI.putObj _ hi3 (by omega) hl3 rfl,?_,(World.putObj_heap_other (by omega)).trans hd3⟩,hKt hkp (hKt (hKt hkp2 hkp3) (hKb _ _ _ _ (by omega) hl3 rfl rfl))⟩
     rw[hrec];exact hl4
   | ret=>exact hp.elim
   | exit id=>exact hp.elim
   | goto t=>exact hp.elim
   | panic ch=>exact hp.elim
   | outgrown=>exact hp.elim
  ·rintro e W2 ⟨⟨v,rfl⟩,hi,hl,hd⟩;exact⟨none,_,by have:=run_endLoop (P:=P) hl (by rw[hrec];simp);rw[hrec]at this;exact this,hdone _ _ (Nat.le_refl _) (hI.putObj _ hi (by omega) hl rfl) ((World.putObj_heap_other (by omega)).trans hd)⟩
end Go.Proofs.YtpfmmbbggcghiaaGreatDoor
