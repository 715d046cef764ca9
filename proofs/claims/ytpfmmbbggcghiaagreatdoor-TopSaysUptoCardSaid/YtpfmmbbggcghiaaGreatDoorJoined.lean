/- strings.SplitSeq: the iterator's promise. -/
import Derived.OwnWalkIn
import Derived.LoopNIn
import Derived.LoopIn
import Derived.Shelf.RegionOpen
import Derived.Test.YtpfmmbbggcghiaaGreatDoorSeqT
set_option linter.unusedSimpArgs false
set_option linter.unusedVariables false
set_option maxHeartbeats 3200000
set_option maxRecDepth 100000
namespace Go.Proofs.YtpfmmbbggcghiaaGreatDoor
open Go.RowKit Go.Shelf
open Lib (hid)
attribute [local go_sem] Oper.semAt_some
def pcsF (sep:List UInt8):Nat→List UInt8→List (List UInt8)
 | 0,s=>[s]
 | k+1,s=>if Lib.index s sep= -1 then [s]else s.take (Lib.index s sep).toNat::pcsF sep k (s.drop ((Lib.index s sep).toNat+sep.length))
def pcsS (sep s:List UInt8):List (List UInt8):=pcsF sep s.length s
theorem index_pos {s sep:List UInt8} (h:Lib.index s sep≠ -1):0≤Lib.index s sep:=by have:=Lib.index_ge s sep;omega
theorem pcsF_fuel (sep:List UInt8) (hs:1≤sep.length):∀(f g:Nat) (s:List UInt8),s.length≤f→s.length≤g→pcsF sep f s=pcsF sep g s
 | 0,0,_,_,_=>rfl
 | 0,g+1,s,hf,_=>by
   have e:Lib.index s sep= -1:=by
    refine Decidable.byContradiction fun h=> ?_;have h1:=Lib.index_room s sep (index_pos h);have:=index_pos h;omega
   unfold pcsF;rw[if_pos e]
 | f+1,0,s,_,hg=>by
   have e:Lib.index s sep= -1:=by
    refine Decidable.byContradiction fun h=> ?_;have h1:=Lib.index_room s sep (index_pos h);have:=index_pos h;omega
   unfold pcsF;rw[if_pos e]
 | f+1,g+1,s,hf,hg=>by
   unfold pcsF
   by_cases e:Lib.index s sep= -1
   ·rw[if_pos e,if_pos e]
   ·have h1:=Lib.index_room s sep (index_pos e);have h0:=index_pos e;rw[if_neg e,if_neg e,pcsF_fuel sep hs f g _ (by rw[List.length_drop];omega) (by rw[List.length_drop];omega)]
theorem pcs_end {sep s:List UInt8} (h:Lib.index s sep= -1):pcsS sep s=[s]:=by
 unfold pcsS;cases s with
 | nil=>rfl
 | cons a s=>rw[List.length_cons];unfold pcsF;rw[if_pos h]
theorem pcs_step {sep s:List UInt8} (hs:1≤sep.length) (h:Lib.index s sep≠ -1):pcsS sep s=s.take (Lib.index s sep).toNat::pcsS sep (s.drop ((Lib.index s sep).toNat+sep.length)):=by
 have h1:=Lib.index_room s sep (index_pos h);have h0:=index_pos h;unfold pcsS;cases s with
 | nil=>exact absurd h1 (by simp;omega)
 | cons a s=>
   rw[List.length_cons,show pcsF sep (s.length+1) (a::s)=(if Lib.index (a::s) sep= -1 then [a::s]else(a::s).take (Lib.index (a::s) sep).toNat::pcsF sep s.length ((a::s).drop ((Lib.index (a::s) sep).toNat+sep.length)))from rfl,if_neg h]
   congr 1
   exact pcsF_fuel sep hs _ _ _ (by rw[List.length_drop,List.length_cons];omega) (Nat.le_refl _)
theorem pcs_ne (sep s:List UInt8):0 < (pcsS sep s).length:=by
 unfold pcsS;cases s.length with
 | zero=>simp[pcsF]
 | succ n=>unfold pcsF;split <;> simp
theorem pcs_len {sep:List UInt8} (hs:1≤sep.length):∀(n:Nat) (s:List UInt8),s.length≤n→∀ x∈pcsS sep s,x.length≤s.length
 | n,s,hn,x,hx=>by
   by_cases h:Lib.index s sep= -1
   ·rw[pcs_end h,List.mem_singleton]at hx;rw[hx];exact Nat.le_refl _
   ·have h1:=Lib.index_room s sep (index_pos h);have h0:=index_pos h;rw[pcs_step hs h]at hx;rcases List.mem_cons.1 hx with rfl|hx
    ·rw[List.length_take];omega
    ·cases n with
     | zero=>omega
     | succ n=>
       have:=pcs_len hs n _ (by rw[List.length_drop];omega) x hx
       rw[List.length_drop]at this;omega
theorem pcs_count {sep:List UInt8} (hs:1≤sep.length):∀(n:Nat) (s:List UInt8),s.length≤n→(pcsS sep s).length≤s.length+1
 | n,s,hn=>by
   by_cases h:Lib.index s sep= -1
   ·rw[pcs_end h];simp
   ·have h1:=Lib.index_room s sep (index_pos h);have h0:=index_pos h;rw[pcs_step hs h,List.length_cons];cases n with
    | zero=>omega
    | succ n=>
      have:=pcs_count hs n (s.drop ((Lib.index s sep).toNat+sep.length)) (by rw[List.length_drop];omega)
      rw[List.length_drop]at this;omega
def encS (x:List UInt8):Value:=.string (str x)
structure SqB (W:World) (B:Nat) (s sep:List UInt8):Prop where
 text:Blk W B 9 #[.string (str s)]
 sep:Blk W (B+1) 9 #[.string (str sep)]
 save:Blk W (B+2) 3 #[.int .i64 0]
 max:∃ m:Int,W.cell? ⟨4,0,none⟩=some (.int .i64 m)
structure SqK (B:Nat) (X Y:World):Prop where
 size:X.heap.size≤Y.heap.size
 same:∀ i,i=4∨(B≤i∧i < B+3)→i < X.heap.size→Y.heap[i]? =X.heap[i]?
theorem SqK.refl (B:Nat) (X:World):SqK B X X:=⟨Nat.le_refl _,fun _ _ _=>rfl⟩
theorem SqK.trans {B:Nat} {X Y Z:World} (h:SqK B X Y) (k:SqK B Y Z):SqK B X Z:=⟨Nat.le_trans h.size k.size,fun i hi hl=>(k.same i hi (Nat.lt_of_lt_of_le hl h.size)).trans (h.same i hi hl)⟩
theorem SqB.keep {B:Nat} {s sep:List UInt8} {X Y:World} (h:SqB X B s sep) (k:SqK B X Y):SqB Y B s sep:=by
 refine⟨(k.same B (.inr ⟨Nat.le_refl _,by omega⟩) h.text.lt).trans h.text,(k.same (B+1) (.inr ⟨by omega,by omega⟩) h.sep.lt).trans h.sep,(k.same (B+2) (.inr ⟨by omega,by omega⟩) h.save.lt).trans h.save,?_⟩
 obtain⟨m,hm⟩:=h.max;refine⟨m,?_⟩;have hlt:4 < X.heap.size:=by
  unfold World.cell? at hm;cases ho:X.heap[4]? with
  | none=>simp[ho]at hm
  | some o=>exact(Array.getElem?_eq_some_iff.1 ho).1
 have e:=k.same _ (.inl rfl) hlt;unfold World.cell? at hm ⊢;simp only at hm ⊢;rw[e];exact hm
def SqS (B:Nat) (X Y:World):Prop:=∃ v,Y=X.setCell ⟨B,0,none⟩ v
def leftS (B:Nat) (W:World):Nat:=match W.cell? ⟨B,0,none⟩with|some (.string s)=>s.size|_=>0
theorem left_eq {B:Nat} {W:World} {s sep:List UInt8} (h:SqB W B s sep):leftS B W=s.length:=by
 unfold leftS;rw[(h.text.cell 0).trans (show _=some (.string (str s))from rfl)];exact str_size s
theorem SqB.set {B:Nat} {s sep r:List UInt8} {W:World} (h:SqB W B s sep) (hB:4 < B):SqB (W.setCell ⟨B,0,none⟩ (.string (str r))) B r sep:=by
 refine⟨h.text.set_ 0 _,h.sep.far (by show B+1≠B;omega) _,h.save.far (by show B+2≠B;omega) _,?_⟩
 obtain⟨m,hm⟩:=h.max;refine⟨m,?_⟩;have e:=Below.heap_setCell W ⟨B,0,none⟩ (.string (str r)) 4 (by show 4≠B;omega)
 unfold World.cell? at hm ⊢;simp only at hm ⊢;rw[e];exact hm
theorem bts_ext (a:ByteArray) (i j:Nat):bts (a.extract i j)=((bts a).take j).drop i:=by
 unfold bts;rw[ByteArray.data_extract,Array.toList_extract];simp[List.drop_take]
theorem str_take (s:List UInt8) (i:Nat):(str s).extract 0 i=str (s.take i):=bts_inj (by rw[bts_ext,bts_str,bts_str,List.drop_zero])
theorem str_drop (s:List UInt8) (i:Nat):(str s).extract i (str s).size=str (s.drop i):=bts_inj (by rw[bts_ext,bts_str,bts_str,str_size,List.take_length])
theorem splitSeq_in (n:Nat) (hn:1≤n) (l B:Nat) (hB:4 < B) (s sep:List UInt8) (hsep:1≤sep.length) (hsl:sep.length≤1000) (hs:s.length≤1000000000) (J:Nat→World→Prop) (W:World)
 (hJs:∀ k X Y,J k X→SqS B X Y→J k Y)
 (hY:∀ k (hk:k < (pcsS sep s).length) X,J k X→YieldAt Fence.wide (n - 1) Tryz.prog l #[encS (pcsS sep s)[k]] X fun e Y=>e=.returned (.bool true)∧J (k+1) Y∧SqK B X Y)
 (hb:SqB W B s sep) (h0:J 0 W):
 CallsIn Fence.wide n Tryz.prog 230 #[.func (.yield l) #[] #[],.pointer (some ⟨B+1,0,none⟩),.pointer (some ⟨B,0,none⟩),.pointer (some ⟨B+2,0,none⟩)] W fun e Y=>(∃ v,e=.returned v)∧J (pcsS sep s).length Y:=by
 have hY':=hid hY;have HJs:=hid hJs;have HB:=hid hb;have HS:=hid hs;have hne:(sep.length:Int)≠0:=by omega
 have hz:((sep.length:Int) == 0)=false:=by rw[beq_eq_false_iff_ne];exact hne
 have hss:(str sep).size=sep.length:=str_size _;have q1:W.cell? ⟨B+1,0,none⟩=some (.string (str sep)):=(hb.sep.cell 0).trans rfl;clear hY hJs hb;refine callsIn_of_wp Tryz.func230 rfl trivial ?_ rfl;simp only[Tryz.ntmps230,List.size_toArray,List.length_cons,List.length_nil,Nat.reduceAdd,Nat.reduceSub,Array.replicate_succ,Array.replicate_zero,List.push_toArray,List.append_toArray,List.nil_append,List.cons_append]
 gi_wp2
 gi_loopw [7,8] (fun _ _ wr=>∃(k:Nat) (rest:List UInt8),(pcsS sep s).drop k=pcsS sep rest∧J k wr∧SqB wr B rest sep∧rest.length≤s.length) (fun _ _ wr=>leftS B wr)
 case atStart=>exact⟨0,s,rfl,h0,HB.out,Nat.le_refl _⟩
 case round=>
  obtain⟨k,rest,hd,hJ,hb,hrl⟩:=hrel;have hk:k < (pcsS sep s).length:=by
   refine Decidable.byContradiction fun h=> ?_;rw[List.drop_of_length_le (by omega)]at hd
   have:=pcs_ne sep rest;rw[←hd]at this;exact absurd this (by simp)
  have hx:(pcsS sep s)[k]=(pcsS sep rest).headD []:=by
   have:=List.drop_eq_getElem_cons hk;rw[this]at hd;rw[←hd];rfl
  have ht:(pcsS sep s).drop (k+1)=(pcsS sep rest).tail:=by rw[←hd,List.tail_drop]
  obtain⟨mx,hm⟩:=hb.max;have r0:wr.cell? ⟨B,0,none⟩=some (.string (str rest)):=(hb.text.cell 0).trans rfl;have r1:wr.cell? ⟨B+1,0,none⟩=some (.string (str sep)):=(hb.sep.cell 0).trans rfl;have r2:wr.cell? ⟨B+2,0,none⟩=some (.int .i64 0):=(hb.save.cell 0).trans rfl;have hrs:(str rest).size=rest.length:=str_size _;have HBr:=hid hb;have HIx:=hid (Tryz.strings_Index (str rest) (str sep) mx wr (by rw[hrs];have:=HS.out;omega) hm)
  have hIe:(str rest).data.toList=rest:=bts_str rest;have hIs:(str sep).data.toList=sep:=bts_str sep;rw[hIe,hIs]at HIx;obtain⟨I,hI⟩:∃ I,I=Lib.index rest sep:=⟨_,rfl⟩;rw[←hI]at HIx;obtain⟨fn,tmps,assign,body,hy,hR⟩:=hY'.out k hk wr hJ;rw[hx]at hy
  by_cases hi:I= -1
  ·have he:=pcs_end (hI.symm.trans hi);rw[he]at hy ht;simp only[encS,List.headD_cons]at hy;have hk1:k+1=(pcsS sep s).length:=by
    have:=congrArg List.length ht;rw[List.length_drop,List.tail_cons,List.length_nil]at this;omega
   have hi0:decide (I < 0)=true:=decide_eq_true (by omega)
   have hi1:I < 0:=by omega
   have HK1:=hid hk1;clear hI hx hd hJ hb hm ht hk1 he hi
   gi_wp2
   refine⟨trivial,(callsIn_wide.2 HIx.out).mono ?_⟩;rintro e w' ⟨rfl,rfl⟩
   gi_wp2
   refine hR.mono ?_;rintro e W3 ⟨rfl,hJ3,_⟩;rw[HK1.out]at hJ3
   gi_wp2
   go_end0
   exact⟨⟨_,rfl⟩,hJ3⟩
  ·have hi':Lib.index rest sep≠ -1:=by rw[←hI];exact hi
   have hp:=index_pos hi';have hroom:=Lib.index_room rest sep hp;rw[←hI]at hp hroom;obtain⟨q,rfl⟩:=Int.eq_ofNat_of_zero_le hp;rw[pcs_step hsep hi',←hI]at hy ht;simp only[encS,List.headD_cons,Int.toNat_natCast]at hy;rw[←str_take]at hy;rw[List.tail_cons,Int.toNat_natCast]at ht;have hqs:q+sep.length≤rest.length:=by omega
   have hl3:=HS.out;have hi0:decide ((q:Int) < 0)=false:=decide_eq_false (by omega)
   have hi1:¬((q:Int) < 0):=by omega
   have hi2:(0:Int)≤(q:Int):=by omega
   have hi3:(q:Int)≤(rest.length:Int):=by omega
   have hi4:(q:Int)+(sep.length:Int)≤(rest.length:Int):=by omega
   have hi5:(0:Int)≤(q:Int)+(sep.length:Int):=by omega
   have E1:=hid (str_take rest q);have E2:=hid (str_drop rest (q+sep.length));have HT:=hid ht;clear hI hx hd hJ hb hm ht hi hi' hp hroom hl3
   gi_wp2
   refine⟨trivial,(callsIn_wide.2 HIx.out).mono ?_⟩;rintro e w' ⟨rfl,rfl⟩
   gi_wp2
   refine hR.mono ?_;rintro e W3 ⟨rfl,hJ3,hk3⟩;have hb3:=HBr.out.keep hk3;have s0:W3.cell? ⟨B,0,none⟩=some (.string (str rest)):=(hb3.text.cell 0).trans rfl;have s1:W3.cell? ⟨B+1,0,none⟩=some (.string (str sep)):=(hb3.sep.cell 0).trans rfl;have sf:=hb3.text.frozen 0;have HB3:=hid hb3;have hJ4:=HJs.out _ _ _ hJ3 ⟨.string (str (rest.drop (q+sep.length))),rfl⟩;have HJ4:=hid hJ4;have hrr:=HS.out;have hw1:¬(9223372036854775807 < (q:Int)+(sep.length:Int)):=by omega
   clear hJ3 hk3 hb3 hJ4 hR hy
   gi_wp2
   have e2:=E2.out;rw[hrs]at e2;rw[e2];have hset:=HB3.out.set (r:=rest.drop (q+sep.length)) hB;refine⟨⟨k+1,_,HT.out,HJ4.out,hset,by rw[List.length_drop];omega⟩,?_⟩
   rw[left_eq hset,left_eq HBr.out,List.length_drop];omega
theorem splitSeq_seq (n:Nat) (hn:1≤n) (B:Nat) (hB:4 < B) (s sep:List UInt8) (hsep:1≤sep.length) (hsl:sep.length≤1000) (hs:s.length≤1000000000) (w:World) (hb:SqB w B s sep):
 SeqT Fence.wide n Tryz.prog 230 #[.pointer (some ⟨B+1,0,none⟩),.pointer (some ⟨B,0,none⟩),.pointer (some ⟨B+2,0,none⟩)] encS (pcsS sep s) (SqS B) (SqK B) w:=fun l J W hW _ hJs hY h0=>
 splitSeq_in n hn l B hB s sep hsep hsl hs J W hJs hY (hb.keep hW) h0
end Go.Proofs.YtpfmmbbggcghiaaGreatDoor
namespace Go.Proofs.YtpfmmbbggcghiaaGreatDoor
open Go.RowKit
open Lib (hid)
structure Rl where
 op:UInt8
 mod:Int
 neg:Bool
 rng:List (Int×Int)
def numR (l:List UInt8):Int:=match Lib.atoiAll l with| .ok v=>v|_=> -1
def rngOk (p:Int×Int):Bool:= !(decide (p.1 < 0) || decide (p.2 < p.1) || decide (1000000 < p.2))
def opsR:List UInt8:=[110,105,118,119,102,116]
def fineR (r:Rl):Bool:=opsR.contains r.op && decide (0≤r.mod) && decide (r.mod≤1000000) && !r.rng.isEmpty && r.rng.all rngOk
def Enc.pair:Enc (Int×Int):=⟨2,16,fun _ _ _ cs p=>cs=[.int .i64 p.1,.int .i64 p.2],fun _ _=>True,fun _=>1⟩
theorem Enc.pair_laws:Enc.pair.Laws:=⟨fun h=>by cases h;rfl,fun h _=>h,fun h _ _=>h⟩
def Enc.rl:Enc Rl:=⟨4,48,fun w lo hi cs r=>∃ v,cs=[.int .u8 r.op.toNat,.int .i64 r.mod,.bool r.neg,v]∧ListOk Enc.pair w lo hi v r.rng,fun _ _=>True,fun _=>1⟩
theorem Enc.rl_laws:Enc.rl.Laws:=
 ⟨fun⟨_,h,_⟩=>by cases h;rfl,fun⟨v,h,k⟩ ha=>⟨v,h,k.keep Enc.pair_laws ha⟩,fun⟨v,h,k⟩ h1 h2=>⟨v,h,k.mono Enc.pair_laws h1 h2⟩⟩
structure RV (w:World):Prop where
 max:∃ m:Int,w.cell? ⟨4,0,none⟩=some (.int .i64 m)
 syn:∃ tp p,w.var? Tryz.prog "strconv.ErrSyntax" =some #[.iface tp p]
 rng:∃ tp p,w.var? Tryz.prog "strconv.ErrRange" =some #[.iface tp p]
 tab:Lib.TabIs Tryz.prog w "internal/strconv.uint64pow10" .u64 Lib.pow10Tab
theorem cell_lt {w:World} {g:Nat} {v:Value} (h:w.cell? ⟨g,0,none⟩=some v):g < w.heap.size:=by
 unfold World.cell? at h;cases ho:w.heap[g]? with
 | none=>simp[ho]at h
 | some o=>exact(Array.getElem?_eq_some_iff.1 ho).1
theorem RV.below {w w':World} (h:RV w) (hb:Below w.heap.size w w'):RV w':=by
 obtain⟨m,hm⟩:=h.max;obtain⟨t1,p1,h1⟩:=h.syn;obtain⟨t2,p2,h2⟩:=h.rng;refine⟨⟨m,(hb.cell (p:=⟨4,0,none⟩) (cell_lt hm)).trans hm⟩,⟨t1,p1,Joins.var_stays (g:=9) (by kernel_rfl) h1 hb (Nat.le_refl _)⟩,⟨t2,p2,Joins.var_stays (g:=10) (by kernel_rfl) h2 hb (Nat.le_refl _)⟩,Joins.tab_stays (g:=6) (by kernel_rfl) h.tab hb (Nat.le_refl _)⟩
theorem number_any (s:ByteArray) (w:World) (hs:s.size≤1000000000) (hv:RV w):
 Calls Tryz.prog 211 #[.string s] w fun e w'=>e=.returned (.int .i64 (numR (bts s)))∧Below w.heap.size w w':=by
 have HA:Hid (Calls Tryz.prog 194 #[.string s] w fun e w'=>(∃ v,e=.returned (.tuple #[.int .i64 v,.nilIface])∧numR (bts s)=v∨∃ t p,e=.returned (.tuple #[.int .i64 v,.iface t p])∧numR (bts s)= -1)∧Below w.heap.size w w'):=hid (by
  obtain⟨t1,p1,h1⟩:=hv.syn;obtain⟨t2,p2,h2⟩:=hv.rng;cases h:Lib.atoiAll s.data.toList with
  | ok v=>
    refine(Tryz.strconv_Atoi_ok s (by omega) v h w).mono ?_
    rintro e w' ⟨rfl,hw⟩;refine⟨⟨v,.inl ⟨rfl,by unfold numR bts;rw[h]⟩⟩,?_⟩
    rcases hw with rfl|⟨t,rfl⟩
    ·exact Below.refl _ _
    ·exact Lib.bytesWorld_below _ _ _
  | range=>
    refine(Tryz.strconv_Atoi_range_var s (by omega) h t2 p2 w h2).mono ?_
    rintro e w' ⟨N,rfl,_,_,hb⟩;exact⟨⟨_,.inr ⟨_,_,rfl,by unfold numR bts;rw[h]⟩⟩,hb⟩
  | _ =>
    refine(Tryz.strconv_Atoi_syntax_var s (by omega) h t1 p1 w h1).mono ?_
    rintro e w' ⟨N,rfl,_,_,hb⟩;exact⟨⟨0,.inr ⟨_,_,rfl,by unfold numR bts;rw[h]⟩⟩,hb⟩)
 clear hv hs
 go_enter Tryz.func211,Tryz.ntmps211
 go_wp2_with fail
 refine HA.out.mono ?_;clear HA;rintro e w1 ⟨⟨v,⟨rfl,hn⟩|⟨t,p,rfl,hn⟩⟩,hb⟩
 ·have HB:=hid hb;have HN:=hid hn;clear hb hn
  go_wp2_with fail
  go_ret
  exact⟨by rw[HN.out];rfl,HB.out⟩
 ·have HB:=hid hb;have HN:=hid hn;clear hb hn
  go_wp2_with fail
  go_ret
  exact⟨by rw[HN.out];rfl,HB.out⟩
end Go.Proofs.YtpfmmbbggcghiaaGreatDoor
namespace Go.Proofs.YtpfmmbbggcghiaaGreatDoor
open Go.RowKit Go.Sort
open Lib (hid)
theorem strR_app (a b:List UInt8):str (a++b)=str a++str b:=bts_inj (by simp[bts,str,ByteArray.data_append])
def rangedR (p:Int×Int):List UInt8:=if p.1=p.2 then Lib.itoa p.1 else Lib.itoa p.1++[46,46]++Lib.itoa p.2
theorem itoa_any (n:Int) (w:World) (h0:0≤n) (h1:n≤1000000) (hv:RV w):Calls Tryz.prog 61 #[.int .i64 n] w fun e w'=>e=.returned (.string (str (Lib.itoa n)))∧Below w.heap.size w w':=
 (Tryz.strconv_Itoa n (by omega) (by omega) w hv.tab).mono fun e w' ⟨he,k,os,hw⟩=>⟨he,by rw[hw];exact⟨rfl,rfl,rfl,by simp[grow,World.drewN],fun i hi=>heap_grow_old (w.drewN k) os hi⟩⟩
theorem itoa_small (n:Int) (h0:0≤n) (h1:n≤1000000):(Lib.itoa n).length≤21:=Lib.itoa_length_le n (by omega) (by omega)
structure RgSt (w:World) (a b:Int) (W:World):Prop where
 below:Below w.heap.size w W
 fst:W.cell? ⟨w.heap.size,0,none⟩=some (.int .i64 a)
 snd:W.cell? ⟨w.heap.size,1,none⟩=some (.int .i64 b)
theorem RgSt.on {w:World} {a b:Int} {W W':World} (h:RgSt w a b W) (hb:Below W.heap.size W W'):RgSt w a b W':=
 ⟨h.below.trans (hb.mono h.below.size),(hb.cell (p:=⟨w.heap.size,0,none⟩) (cell_lt h.fst)).trans h.fst,(hb.cell (p:=⟨w.heap.size,1,none⟩) (cell_lt h.fst)).trans h.snd⟩
theorem RgSt.drew {w:World} {a b:Int} {W:World} (h:RgSt w a b W):RgSt w a b W.drew:=⟨below_drewN h.below 1,h.fst,h.snd⟩
theorem ranged_any (p:Int×Int) (w:World) (hp:rngOk p=true) (hv:RV w):
 Calls Tryz.prog 232 #[.agg #[.int .i64 p.1,.int .i64 p.2]] w fun e w'=>e=.returned (.string (str (rangedR p)))∧Below w.heap.size w w':=by
 obtain⟨a,b⟩:=p;have hp':0≤a∧a≤b∧b≤1000000:=by
  unfold rngOk at hp;simp at hp;omega
 obtain⟨h0,h1,h2⟩:=hp';have HIa:Hid (∀ W,Below w.heap.size w W→Calls Tryz.prog 61 #[.int .i64 a] W fun e w'=>e=.returned (.string (str (Lib.itoa a)))∧Below W.heap.size W w'):=hid fun W hW=>itoa_any a W h0 (by omega) (hv.below hW)
 have HIb:Hid (∀ W,Below w.heap.size w W→Calls Tryz.prog 61 #[.int .i64 b] W fun e w'=>e=.returned (.string (str (Lib.itoa b)))∧Below W.heap.size W w'):=hid fun W hW=>itoa_any b W (by omega) h2 (hv.below hW)
 have la:=itoa_small a h0 (by omega)
 have lb:=itoa_small b (by omega) h2
 have hR:Hid (rangedR (a,b)=if a=b then Lib.itoa a else Lib.itoa a++[46,46]++Lib.itoa b):=hid rfl
 clear hv hp;generalize hIa:Lib.itoa a=ia at *;generalize hIb:Lib.itoa b=ib at *;have sa:(str ia).size=ia.length:=str_size _;have sb:(str ib).size=ib.length:=str_size _;clear hIa hIb;dsimp only;obtain⟨W1,eW1⟩:∃ W1,W1=w.alloc (.cells #[.int .i64 a,.int .i64 b] 327):=⟨_,rfl⟩;have hb1:Below w.heap.size w W1:=by rw[eW1];exact(Below.refl _ _).alloc (Nat.le_refl _) _
 have m1:Blk W1 w.heap.size 327 #[.int .i64 a,.int .i64 b]:=by rw[eW1];exact Blk.new _ _ _
 have HB1:=hid hb1;have M1:=hid m1;have HW1:=hid eW1;have k0:W1.cell? ⟨w.heap.size,0,none⟩=some (.int .i64 a):=(m1.cell 0).trans rfl;have k1:W1.cell? ⟨w.heap.size,1,none⟩=some (.int .i64 b):=(m1.cell 1).trans rfl;clear eW1 hb1 m1
 go_enter Tryz.func232,Tryz.ntmps232
 go_upto_region 1 with fail
 rw[←HW1.out];clear HW1
 by_cases hab:a=b
 ·have hq:(a == b)=true:=by simp[hab]
  have C:=hid (HIa.out _ HB1.out);have HRs:=hid (hR.out.trans (if_pos hab));clear hR hab HIb
  go_wp2_with fail
  refine C.out.mono ?_;rintro e w2 ⟨rfl,hb2⟩;have HB2:=hid (HB1.out.trans (hb2.mono HB1.out.size));clear hb2
  go_wp2_with fail
  go_ret
  exact⟨by rw[HRs.out];rfl,HB2.out⟩
 ·have hq:(a == b)=false:=by simp[hab]
  have HRs:=hid (hR.out.trans (if_neg hab));have z1:¬(9223372036854775807 < ia.length+2):=by omega
  have z2:¬(9223372036854775807 < ia.length+2+ib.length):=by omega
  have hst:str ia++(⟨#[46,46]⟩:ByteArray)++str ib=str (ia++[46,46]++ib):=by rw[strR_app,strR_app];rfl
  clear hR hab;have HCa:Hid (∀ W,RgSt w a b W→Calls Tryz.prog 61 #[.int .i64 a] W fun e w'=>e=.returned (.string (str ia))∧RgSt w a b w'):=hid fun W hW=>(HIa.out W hW.below).mono fun e w' ⟨he,hb⟩=>⟨he,hW.on hb⟩;have HCb:Hid (∀ W,RgSt w a b W→Calls Tryz.prog 61 #[.int .i64 b] W fun e w'=>e=.returned (.string (str ib))∧RgSt w a b w'):=hid fun W hW=>(HIb.out W hW.below).mono fun e w' ⟨he,hb⟩=>⟨he,hW.on hb⟩;have hrs:RgSt w a b W1:=⟨HB1.out,k0,k1⟩;clear HIa HIb HB1 M1;have HST:=hid hst;clear hst
  go_wp2_with fail
  go_region_with ((go_at_call 61;first|with_reducible refine(HCa.out _ hrs).mono ?_|with_reducible refine(HCb.out _ hrs).mono ?_|with_reducible refine(HCa.out _ hrs.drew).mono ?_|with_reducible refine(HCb.out _ hrs.drew).mono ?_);rintro e wx ⟨rfl,hrs⟩;have k0:=hrs.fst;have k1:=hrs.snd)
  all_goals (clear HCa HCb;go_wp2_with fail;go_ret;exact⟨by rw[HRs.out,←HST.out];rfl,hrs.below⟩)
end Go.Proofs.YtpfmmbbggcghiaaGreatDoor
namespace Go.Proofs.YtpfmmbbggcghiaaGreatDoor
open Go.RowKit
open Lib (hid)
theorem one_newsJ (w:World) (X:ByteArray) (t:TypeId):∀ q u,([Value.string X]:List Value)[q]? =some u→(w.alloc (.cells #[.string X] t)).cell? ⟨w.heap.size,0+q,none⟩=some u:=fun q u hq=>by
 rw[Nat.zero_add,(Blk.new w t #[.string X]).cell q];simpa using hq
theorem own_ltJ {w:World} {base:Nat} {e:TypeId} {size:Nat} {v:Value} {n:Nat} {xs:List Value} (h:w.ownsRow base e size v n xs):∀ k,v.ownBlock=some k→base≤k:=fun _ hk=>(own_lt h hk).1
theorem info_strJ:(Tryz.prog.info? 9).map (fun i=>(i.zero,i.size,i.bytes))=some (some (.string ByteArray.empty),1,16):=by kernel_rfl
theorem ListOk.pairAt {w:World} {lo hi:Nat} {A:Option Addr} {n c:Nat} {l:List (Int×Int)} (h:ListOk Enc.pair w lo hi (.slice A n c) l) (i:Nat) (hl:i < l.length):
 ∃ b o,A=some ⟨b,o,none⟩∧lo≤b∧b < hi∧w.cell? ⟨b,o+i*2,none⟩=some (.int .i64 l[i].1)∧w.cell? ⟨b,o+i*2+1,none⟩=some (.int .i64 l[i].2):=by
 obtain⟨A',c',hv,_,hi'⟩:=h;injection hv with hv1 _ _;subst hv1;obtain⟨b,o,cs,hA,h1,h2,h3,h4⟩:=hi' i hl;have h4':cs=[.int .i64 l[i].1,.int .i64 l[i].2]:=h4;subst h4';exact⟨b,o,hA,h1,h2,h3 0 _ rfl,h3 1 _ rfl⟩
theorem ListOk.rlAt {w:World} {lo hi:Nat} {A:Option Addr} {n c:Nat} {l:List Rl} (h:ListOk Enc.rl w lo hi (.slice A n c) l) (i:Nat) (hl:i < l.length):
 ∃ b o v,A=some ⟨b,o,none⟩∧lo≤b∧b < hi∧w.cell? ⟨b,o+i*4,none⟩=some (.int .u8 l[i].op.toNat)∧w.cell? ⟨b,o+i*4+1,none⟩=some (.int .i64 l[i].mod)∧w.cell? ⟨b,o+i*4+2,none⟩=some (.bool l[i].neg)∧w.cell? ⟨b,o+i*4+3,none⟩=some v∧ListOk Enc.pair w lo hi v l[i].rng:=by
 obtain⟨A',c',hv,_,hi'⟩:=h;injection hv with hv1 _ _;subst hv1;obtain⟨b,o,cs,hA,h1,h2,h3,v,h4,h5⟩:=hi' i hl;subst h4;exact⟨b,o,v,hA,h1,h2,h3 0 _ rfl,h3 1 _ rfl,h3 2 _ rfl,h3 3 _ rfl,h5⟩
theorem ListOk.listAt {α:Type} {E:Enc α} {w:World} {lo hi:Nat} {A:Option Addr} {n c:Nat} {l:List (List α)} (h:ListOk (Enc.list E) w lo hi (.slice A n c) l) (i:Nat) (hl:i < l.length):
 ∃ b o v,A=some ⟨b,o,none⟩∧lo≤b∧b < hi∧w.cell? ⟨b,o+i,none⟩=some v∧ListOk E w lo hi v l[i]:=by
 obtain⟨A',c',hv,_,hi'⟩:=h;injection hv with hv1 _ _;subst hv1;obtain⟨b,o,cs,hA,h1,h2,h3,v,h4,h5⟩:=hi' i hl;subst h4;have e:Enc.sz (Enc.list E)=1:=rfl;have:=h3 0 _ rfl;rw[e,Nat.mul_one,Nat.add_zero]at this;exact⟨b,o,v,hA,h1,h2,this,h5⟩
def joinT {α:Type} (T:α→List UInt8) (l:List α) (sep:List UInt8):List UInt8:=Lib.join (l.map T) sep
theorem join_anyJ (v:Value) (ls:List (List UInt8)) (sep:List UInt8) (base:Nat) (w:World) (h:w.ownsRow base 9 1 v ls.length (ls.map fun x=>Value.string (str x))) (hn:ls.length≤10000000) (hj:(Lib.join ls sep).length≤1000000000):
 Calls Tryz.prog 70 #[v,.string (str sep)] w fun e w'=>e=.returned (.string (str (Lib.join ls sep)))∧Below w.heap.size w w':=by
 have hs:(ls.map str).map (·.data.toList)=ls:=by
  rw[List.map_map]
  conv=>rhs;rw[←List.map_id ls]
  exact List.map_congr_left fun x _=>bts_str x
 by_cases h0:ls.length=0
 ·obtain rfl:ls=[]:=List.length_eq_zero_iff.1 h0;obtain⟨A,c,rfl,_⟩:=own_slice h;refine(Tryz.strings_Join_none A c (str sep) w).mono ?_;rintro e w' ⟨rfl,rfl⟩;exact⟨rfl,Below.refl _ _⟩
 ·have hl:=ListOk.strs_of_own (l:=ls.map str) (lo:=base) (hi:=w.heap.size) (by rw[List.length_map,List.map_map];exact h) (Nat.le_refl _) (Nat.le_refl _)
  obtain⟨A,c,rfl,hc⟩:=hl.form;obtain⟨b,o,rfl,_,hb,_⟩:=hl.strAt 0 (by rw[List.length_map];omega)
  have h1:=Tryz.strings_Join b o c (ls.map str) (str sep) w (fun j x hx=>by
   have hj:j < (ls.map str).length:=(List.getElem?_eq_some_iff.1 hx).1;obtain⟨b',o',hA,_,_,x0⟩:=hl.strAt j hj;injection hA with hA;injection hA with e1 e2;subst e1;subst e2;rw[x0];rw[List.getElem?_eq_getElem hj]at hx;injection hx with hx;rw[hx]) hb (by rw[List.length_map];omega) hc (by rw[hs];exact Nat.le_trans hj (by decide))
  rw[hs]at h1;exact h1
theorem joinedP_any (l:List (Int×Int)) (v:Value) (sep:List UInt8) (T:(Int×Int)→List UInt8) (lo:Nat) (w:World) (hv:ListOk Enc.pair w lo w.heap.size v l) (hn:l.length≤10000000) (hj:(joinT T l sep).length≤1000000000)
 (HT:Hid (∀ x∈l,∀ W,Below w.heap.size w W→Calls Tryz.prog 232 #[.agg #[.int .i64 x.1,.int .i64 x.2]] W fun e w'=>e=.returned (.string (str (T x)))∧Below W.heap.size W w')):
 Calls Tryz.prog 231 #[v,.string (str sep),.func (.func 232) #[] #[]] w fun e w'=>e=.returned (.string (str (joinT T l sep)))∧Below w.heap.size w w':=by
 obtain⟨A,c,rfl,hc⟩:=hv.form;have HV:Hid (∀ W,Below w.heap.size w W→ListOk Enc.pair W lo w.heap.size (.slice A l.length c) l):=hid fun W hW=>hv.below Enc.pair_laws hW;have HJ:=hid hj;clear hv hj
 go_enter Tryz.func231,Tryz.ntmps231
 go_wp2_with fail
 go_loopw [7,9,12] (fun o _ i wr=>∃ j:Nat,j≤l.length∧i=.int .i64 (j:Int)∧wr.ownsRow w.heap.size 9 1 o ((l.take j).map T).length (((l.take j).map T).map fun x=>Value.string (str x))∧Below w.heap.size w wr) (fun _ _ i _=>l.length - (intOf i).toNat)
 case atStart=>exact⟨0,Nat.zero_le _,rfl,own_nil,Below.refl _ _⟩
 case round=>
  obtain⟨j,hj,rfl,hown,hb⟩:=hrel;have HO:=hid hown;have HB:=hid hb;have hbs:=hb.size;have htl:((l.take j).map T).length=j:=by rw[List.length_map,List.length_take];omega
  obtain⟨B,cc,rfl,_⟩:=own_slice hown
  by_cases hlt:j < l.length
  ·have hx:l[j]∈l:=List.getElem_mem hlt;have htk:(l.take (j+1)).map T=(l.take j).map T++[T l[j]]:=by rw[List.take_succ_eq_append_getElem hlt,List.map_append];rfl
   have HTk:=hid htk;have HTj:=hid (HT.out l[j] hx);rw[htl]at hown ⊢;have HO:=hid hown;obtain⟨b0,o0,rfl,hb1,hb2,x0,x1⟩:=(HV.out _ hb).pairAt j hlt;generalize l[j]=e at *;obtain⟨e0,e1⟩:=e;dsimp only at x0 x1 HTj HTk;have HTw:=hid (HTj.out (wr.alloc (.cells #[.int .i64 e0,.int .i64 e1] 327)) (hb.alloc hbs _));clear hown hb htk hx;have i1:(0:Int)≤(j:Int):=Int.natCast_nonneg j;have i2:(j:Int) < (l.length:Int):=by omega
   clear HTj HT
   go_wp2_with fail
   refine HTw.out.mono ?_;clear HTw;rintro e w1 ⟨rfl,hb1'⟩;have HB1:=hid ((HB.out.alloc hbs _).trans (hb1'.mono (by simp;omega)))
   have HO1:=hid (own_below HO.out ((Below.refl _ _).alloc (Nat.le_refl _) _ |>.trans (hb1'.mono (by simp))) (Nat.le_refl _))
   have hbs1:=HB1.out.size;clear hb1'
   go_wp2_with (at_builtin;refine wpList_append_any rfl _ _ 42 rfl w.heap.size 9 Tryz.underlying42 info_strJ rfl (by decide) (((l.take j).map T).map fun x=>Value.string (str x)) rfl (HO1.out.alloc _) [.string (str (T (e0,e1)))] rfl rfl (.inr ⟨_,_,rfl,one_newsJ _ _ _⟩) (by simp[Value.oneCell']) (by unfold maxLen;omega) (by omega) (by simp;omega) ?_)
   intro v3 w3 hown3 hgrow3 _;have hle:((l.take (j+1)).map T).length=j+1:=by rw[List.length_map,List.length_take];omega
   have HO3:Hid (w3.ownsRow w.heap.size 9 1 v3 ((l.take (j+1)).map T).length (((l.take (j+1)).map T).map fun x=>Value.string (str x))):=hid (by
    rw[hle,HTk.out,List.map_append];simpa[List.map_take,Function.comp_def]using hown3)
   have HB3:=hid ((HB1.out.alloc hbs1 _).grown hgrow3 (by simp;omega) (own_ltJ HO1.out))
   clear hown3 hgrow3 hle
   go_wp2_with fail
   go_roundw
   case rel=>exact⟨j+1,by omega,by go_num,HO3.out,HB3.out⟩
   case measure=>simp[intOf];omega
  ·obtain rfl:j=l.length:=by omega
   rw[List.take_length]at HO htl;have HJo:=hid (join_anyJ _ (l.map T) sep w.heap.size wr HO.out (by rw[List.length_map];exact hn) HJ.out)
   rw[htl]at HJo;rw[List.take_length,htl];clear hown hb HO htl
   go_wp2_with fail
   refine HJo.out.mono ?_;clear HJo;rintro e w2 ⟨rfl,hb2⟩;have HB2:=hid (HB.out.trans (hb2.mono HB.out.size));clear hb2
   go_wp2_with fail
   go_ret
   exact⟨rfl,HB2.out⟩
theorem joinedR_any (l:List Rl) (v:Value) (sep:List UInt8) (T:Rl→List UInt8) (lo:Nat) (w:World) (hv:ListOk Enc.rl w lo w.heap.size v l) (hn:l.length≤10000000) (hj:(joinT T l sep).length≤1000000000)
 (HT:Hid (∀ x∈l,∀ W,Below w.heap.size w W→∀ V,ListOk Enc.pair W lo W.heap.size V x.rng→Calls Tryz.prog 215 #[.agg #[.int .u8 x.op.toNat,.int .i64 x.mod,.bool x.neg,V]] W fun e w'=>e=.returned (.string (str (T x)))∧Below W.heap.size W w')):
 Calls Tryz.prog 214 #[v,.string (str sep),.func (.func 215) #[] #[]] w fun e w'=>e=.returned (.string (str (joinT T l sep)))∧Below w.heap.size w w':=by
 obtain⟨A,c,rfl,hc⟩:=hv.form;have HV:Hid (∀ W,Below w.heap.size w W→ListOk Enc.rl W lo w.heap.size (.slice A l.length c) l):=hid fun W hW=>hv.below Enc.rl_laws hW;have HJ:=hid hj;clear hv hj
 go_enter Tryz.func214,Tryz.ntmps214
 go_wp2_with fail
 go_loopw [7,9,12] (fun o _ i wr=>∃ j:Nat,j≤l.length∧i=.int .i64 (j:Int)∧wr.ownsRow w.heap.size 9 1 o ((l.take j).map T).length (((l.take j).map T).map fun x=>Value.string (str x))∧Below w.heap.size w wr) (fun _ _ i _=>l.length - (intOf i).toNat)
 case atStart=>exact⟨0,Nat.zero_le _,rfl,own_nil,Below.refl _ _⟩
 case round=>
  obtain⟨j,hj,rfl,hown,hb⟩:=hrel;have HO:=hid hown;have HB:=hid hb;have hbs:=hb.size;have htl:((l.take j).map T).length=j:=by rw[List.length_map,List.length_take];omega
  obtain⟨B,cc,rfl,_⟩:=own_slice hown
  by_cases hlt:j < l.length
  ·have hx:l[j]∈l:=List.getElem_mem hlt;have htk:(l.take (j+1)).map T=(l.take j).map T++[T l[j]]:=by rw[List.take_succ_eq_append_getElem hlt,List.map_append];rfl
   have HTk:=hid htk;have HTj:=hid (HT.out l[j] hx);rw[htl]at hown ⊢;have HO:=hid hown;obtain⟨b0,o0,V,rfl,hb1,hb2,x0,x1,x2,x3,hV⟩:=(HV.out _ hb).rlAt j hlt;generalize l[j]=e at *;obtain⟨e0,e1,e2,e3⟩:=e;dsimp only at x0 x1 x2 x3 hV HTj HTk;obtain⟨VA,Vc,rfl,_⟩:=hV.form;have HTw:=hid (HTj.out (wr.alloc (.cells #[.int .u8 e0.toNat,.int .i64 e1,.bool e2,.slice VA e3.length Vc] 307)) (hb.alloc hbs _) _ ((hV.keep Enc.pair_laws (Alk.of_below ((Below.refl _ wr).alloc (Nat.le_refl _) _) |>.mono (Nat.zero_le _) hbs)).mono Enc.pair_laws (Nat.le_refl _) (by simp;omega)))
   clear hV;clear hown hb htk hx;have i1:(0:Int)≤(j:Int):=Int.natCast_nonneg j;have i2:(j:Int) < (l.length:Int):=by omega
   clear HTj HT
   go_wp2_with fail
   refine HTw.out.mono ?_;clear HTw;rintro e w1 ⟨rfl,hb1'⟩;have HB1:=hid ((HB.out.alloc hbs _).trans (hb1'.mono (by simp;omega)))
   have HO1:=hid (own_below HO.out ((Below.refl _ _).alloc (Nat.le_refl _) _ |>.trans (hb1'.mono (by simp))) (Nat.le_refl _))
   have hbs1:=HB1.out.size;clear hb1'
   go_wp2_with (at_builtin;refine wpList_append_any rfl _ _ 42 rfl w.heap.size 9 Tryz.underlying42 info_strJ rfl (by decide) (((l.take j).map T).map fun x=>Value.string (str x)) rfl (HO1.out.alloc _) [.string (str (T ⟨e0,e1,e2,e3⟩))] rfl rfl (.inr ⟨_,_,rfl,one_newsJ _ _ _⟩) (by simp[Value.oneCell']) (by unfold maxLen;omega) (by omega) (by simp;omega) ?_)
   intro v3 w3 hown3 hgrow3 _;have hle:((l.take (j+1)).map T).length=j+1:=by rw[List.length_map,List.length_take];omega
   have HO3:Hid (w3.ownsRow w.heap.size 9 1 v3 ((l.take (j+1)).map T).length (((l.take (j+1)).map T).map fun x=>Value.string (str x))):=hid (by
    rw[hle,HTk.out,List.map_append];simpa[List.map_take,Function.comp_def]using hown3)
   have HB3:=hid ((HB1.out.alloc hbs1 _).grown hgrow3 (by simp;omega) (own_ltJ HO1.out))
   clear hown3 hgrow3 hle
   go_wp2_with fail
   go_roundw
   case rel=>exact⟨j+1,by omega,by go_num,HO3.out,HB3.out⟩
   case measure=>simp[intOf];omega
  ·obtain rfl:j=l.length:=by omega
   rw[List.take_length]at HO htl;have HJo:=hid (join_anyJ _ (l.map T) sep w.heap.size wr HO.out (by rw[List.length_map];exact hn) HJ.out)
   rw[htl]at HJo;rw[List.take_length,htl];clear hown hb HO htl
   go_wp2_with fail
   refine HJo.out.mono ?_;clear HJo;rintro e w2 ⟨rfl,hb2⟩;have HB2:=hid (HB.out.trans (hb2.mono HB.out.size));clear hb2
   go_wp2_with fail
   go_ret
   exact⟨rfl,HB2.out⟩
theorem joinedL_any (l:List (List Rl)) (v:Value) (sep:List UInt8) (T:(List Rl)→List UInt8) (lo:Nat) (w:World) (hv:ListOk (Enc.list Enc.rl) w lo w.heap.size v l) (hn:l.length≤10000000) (hj:(joinT T l sep).length≤1000000000)
 (HT:Hid (∀ x∈l,∀ W,Below w.heap.size w W→∀ V,ListOk Enc.rl W lo W.heap.size V x→Calls Tryz.prog 213 #[V] W fun e w'=>e=.returned (.string (str (T x)))∧Below W.heap.size W w')):
 Calls Tryz.prog 212 #[v,.string (str sep),.func (.func 213) #[] #[]] w fun e w'=>e=.returned (.string (str (joinT T l sep)))∧Below w.heap.size w w':=by
 obtain⟨A,c,rfl,hc⟩:=hv.form;have HV:Hid (∀ W,Below w.heap.size w W→ListOk (Enc.list Enc.rl) W lo w.heap.size (.slice A l.length c) l):=hid fun W hW=>hv.below (Enc.list_laws Enc.rl_laws) hW;have HJ:=hid hj;clear hv hj
 go_enter Tryz.func212,Tryz.ntmps212
 go_wp2_with fail
 go_loopw [7,9,12] (fun o _ i wr=>∃ j:Nat,j≤l.length∧i=.int .i64 (j:Int)∧wr.ownsRow w.heap.size 9 1 o ((l.take j).map T).length (((l.take j).map T).map fun x=>Value.string (str x))∧Below w.heap.size w wr) (fun _ _ i _=>l.length - (intOf i).toNat)
 case atStart=>exact⟨0,Nat.zero_le _,rfl,own_nil,Below.refl _ _⟩
 case round=>
  obtain⟨j,hj,rfl,hown,hb⟩:=hrel;have HO:=hid hown;have HB:=hid hb;have hbs:=hb.size;have htl:((l.take j).map T).length=j:=by rw[List.length_map,List.length_take];omega
  obtain⟨B,cc,rfl,_⟩:=own_slice hown
  by_cases hlt:j < l.length
  ·have hx:l[j]∈l:=List.getElem_mem hlt;have htk:(l.take (j+1)).map T=(l.take j).map T++[T l[j]]:=by rw[List.take_succ_eq_append_getElem hlt,List.map_append];rfl
   have HTk:=hid htk;have HTj:=hid (HT.out l[j] hx);rw[htl]at hown ⊢;have HO:=hid hown;obtain⟨b0,o0,V,rfl,hb1,hb2,x0,hV⟩:=(HV.out _ hb).listAt j hlt;generalize l[j]=e at *;obtain⟨VA,Vc,rfl,_⟩:=hV.form;have HTw:=hid (HTj.out wr hb _ (hV.mono Enc.rl_laws (Nat.le_refl _) hbs));clear hV;clear hown hb htk hx;have i1:(0:Int)≤(j:Int):=Int.natCast_nonneg j;have i2:(j:Int) < (l.length:Int):=by omega
   clear HTj HT
   go_wp2_with fail
   refine HTw.out.mono ?_;clear HTw;rintro e w1 ⟨rfl,hb1'⟩;have HB1:=hid (HB.out.trans (hb1'.mono hbs));have HO1:=hid (own_below HO.out hb1' (Nat.le_refl _));have hbs1:=HB1.out.size;clear hb1'
   go_wp2_with (at_builtin;refine wpList_append_any rfl _ _ 42 rfl w.heap.size 9 Tryz.underlying42 info_strJ rfl (by decide) (((l.take j).map T).map fun x=>Value.string (str x)) rfl (HO1.out.alloc _) [.string (str (T e))] rfl rfl (.inr ⟨_,_,rfl,one_newsJ _ _ _⟩) (by simp[Value.oneCell']) (by unfold maxLen;omega) (by omega) (by simp;omega) ?_)
   intro v3 w3 hown3 hgrow3 _;have hle:((l.take (j+1)).map T).length=j+1:=by rw[List.length_map,List.length_take];omega
   have HO3:Hid (w3.ownsRow w.heap.size 9 1 v3 ((l.take (j+1)).map T).length (((l.take (j+1)).map T).map fun x=>Value.string (str x))):=hid (by
    rw[hle,HTk.out,List.map_append];simpa[List.map_take,Function.comp_def]using hown3)
   have HB3:=hid ((HB1.out.alloc hbs1 _).grown hgrow3 (by simp;omega) (own_ltJ HO1.out))
   clear hown3 hgrow3 hle
   go_wp2_with fail
   go_roundw
   case rel=>exact⟨j+1,by omega,by go_num,HO3.out,HB3.out⟩
   case measure=>simp[intOf];omega
  ·obtain rfl:j=l.length:=by omega
   rw[List.take_length]at HO htl;have HJo:=hid (join_anyJ _ (l.map T) sep w.heap.size wr HO.out (by rw[List.length_map];exact hn) HJ.out)
   rw[htl]at HJo;rw[List.take_length,htl];clear hown hb HO htl
   go_wp2_with fail
   refine HJo.out.mono ?_;clear HJo;rintro e w2 ⟨rfl,hb2⟩;have HB2:=hid (HB.out.trans (hb2.mono HB.out.size));clear hb2
   go_wp2_with fail
   go_ret
   exact⟨rfl,HB2.out⟩
end Go.Proofs.YtpfmmbbggcghiaaGreatDoor
