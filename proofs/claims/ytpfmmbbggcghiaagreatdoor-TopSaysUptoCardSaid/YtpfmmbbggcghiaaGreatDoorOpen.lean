/- The variables that a message reads; numbers of a key; names. -/
import Derived.Lib.SmallJoins
import Derived.Lib.ItoaLen
import Derived.Test.YtpfmmbbggcghiaaGreatDoorTrim
import Derived.Test.YtpfmmbbggcghiaaGreatDoorShelf
set_option linter.unusedSimpArgs false
set_option linter.unusedVariables false
namespace Go.Proofs.YtpfmmbbggcghiaaGreatDoor
open Go.RowKit Go.Sort
def kindsB:List ByteArray:=[⟨#[122,101,114,111]⟩,⟨#[111,110,101]⟩,⟨#[116,119,111]⟩,⟨#[102,101,119]⟩,⟨#[109,97,110,121]⟩,⟨#[111,116,104,101,114]⟩]
structure MV (w:World):Prop where
 syn:∃ tp p,w.var? Tryz.prog "strconv.ErrSyntax" =some #[.iface tp p]
 rng:∃ tp p,w.var? Tryz.prog "strconv.ErrRange" =some #[.iface tp p]
 tab:Lib.TabIs Tryz.prog w "internal/strconv.uint64pow10" .u64 Lib.pow10Tab
 kin:∃ b o c,6≤c∧b < w.heap.size∧w.cell? ⟨5,0,none⟩=some (.slice (some ⟨b,o,none⟩) 6 c)∧∀ j (h:j < kindsB.length),w.cell? ⟨b,o+j,none⟩=some (.string kindsB[j])
theorem cellLt {w:World} {g o:Nat} {v:Value} (h:w.cell? ⟨g,o,none⟩=some v):g < w.heap.size:=by
 unfold World.cell? at h;cases ho:w.heap[g]? with
 | none=>simp[ho]at h
 | some o=>exact(Array.getElem?_eq_some_iff.1 ho).1
theorem MV.below {w w':World} (h:MV w) (hb:Below w.heap.size w w'):MV w':=by
 obtain⟨t1,p1,h1⟩:=h.syn;obtain⟨t2,p2,h2⟩:=h.rng;obtain⟨b,o,c,k1,k2,k3,k4⟩:=h.kin;exact⟨⟨t1,p1,Joins.var_stays (g:=9) (by kernel_rfl) h1 hb (Nat.le_refl _)⟩,⟨t2,p2,Joins.var_stays (g:=10) (by kernel_rfl) h2 hb (Nat.le_refl _)⟩,Joins.tab_stays (g:=6) (by kernel_rfl) h.tab hb (Nat.le_refl _),
  b,o,c,k1,Nat.lt_of_lt_of_le k2 hb.size,(hb.cell (p:=⟨_,0,none⟩) (cellLt k3)).trans k3,fun j hj=>(hb.cell (p:=⟨b,o+j,none⟩) k2).trans (k4 j hj)⟩
def atoiO (l:List UInt8):Option Int:=match Lib.atoiAll l with| .ok v=>some v|_=>none
theorem atoi_any (s:ByteArray) (w:World) (hs:s.size≤1000000000) (hv:MV w):
 Calls Tryz.prog 194 #[.string s] w fun e w'=>((∃ v,e=.returned (.tuple #[.int .i64 v,.nilIface])∧atoiO (bts s)=some v)∨∃ v t p,e=.returned (.tuple #[.int .i64 v,.iface t p])∧atoiO (bts s)=none)∧Below w.heap.size w w':=by
 obtain⟨t1,p1,h1⟩:=hv.syn;obtain⟨t2,p2,h2⟩:=hv.rng;cases h:Lib.atoiAll s.data.toList with
 | ok v=>
   refine(Tryz.strconv_Atoi_ok s (by omega) v h w).mono ?_
   rintro e w' ⟨rfl,hw⟩;refine⟨.inl ⟨v,rfl,by unfold atoiO bts;rw[h]⟩,?_⟩
   rcases hw with rfl|⟨t,rfl⟩
   ·exact Below.refl _ _
   ·exact Lib.bytesWorld_below _ _ _
 | range=>
   refine(Tryz.strconv_Atoi_range_var s (by omega) h t2 p2 w h2).mono ?_
   rintro e w' ⟨N,rfl,_,_,hb⟩;exact⟨.inr ⟨_,_,_,rfl,by unfold atoiO bts;rw[h]⟩,hb⟩
 | _ =>
   refine(Tryz.strconv_Atoi_syntax_var s (by omega) h t1 p1 w h1).mono ?_
   rintro e w' ⟨N,rfl,_,_,hb⟩;exact⟨.inr ⟨0,_,_,rfl,by unfold atoiO bts;rw[h]⟩,hb⟩
theorem itoaM_any (n:Int) (w:World) (h0:0≤n) (h1:n≤1000000) (hv:MV w):Calls Tryz.prog 61 #[.int .i64 n] w fun e w'=>e=.returned (.string (str (Lib.itoa n)))∧Below w.heap.size w w':=
 (Tryz.strconv_Itoa n (by omega) (by omega) w hv.tab).mono fun e w' ⟨he,k,os,hw⟩=>⟨he,by rw[hw];exact⟨rfl,rfl,rfl,by simp[grow,World.drewN],fun i hi=>heap_grow_old (w.drewN k) os hi⟩⟩
theorem containsS_any (l:List ByteArray) (v:Value) (x:ByteArray) (lo hi:Nat) (w:World) (hl:ListOk Enc.str w lo hi v l) (hn:l.length≤1000000000):
 Calls Tryz.prog 85 #[v,.string x] w fun e w'=>e=.returned (.bool (l.any (eqs · x)))∧w'=w:=by
 obtain⟨A,c,rfl,_⟩:=hl.form
 by_cases h0:l.length=0
 ·obtain rfl:=List.length_eq_zero_iff.1 h0;exact Tryz.slices_Contains_string_empty A c x w
 ·obtain⟨b,o,rfl,_,_,_⟩:=hl.strAt 0 (by omega)
  have hcs:∀ q,q < l.length→w.cell? ⟨b,o+q,none⟩=some (.string (l.getD q ByteArray.empty)):=fun q hq=>by
   obtain⟨b',o',he,_,_,hc'⟩:=hl.strAt q hq;injection he with he;injection he with e1 e2;subst e1;subst e2;rw[hc',List.getD_eq_getElem?_getD,List.getElem?_eq_getElem hq];rfl
  have h:=Tryz.slices_Contains_string b o l.length c l x w (Nat.le_refl _) (by omega) hcs
  rw[List.take_length]at h;have:l.any (eqs · x)=Lib.containsS l x:=by
   rw[Bool.eq_iff_iff,List.any_eq_true,Lib.containsS_iff]
   constructor
   ·rintro⟨y,hy,he⟩;rw[←(eqs_iff _ _).1 he];exact hy
   ·intro hx;exact⟨_,hx,eqs_self _⟩
  rw[this];exact h
def nameChars:ByteArray:=⟨#[97,98,99,100,101,102,103,104,105,106,107,108,109,110,111,112,113,114,115,116,117,118,119,120,121,122,48,49,50,51,52,53,54,55,56,57,95]⟩
def firstChars:ByteArray:=⟨#[97,98,99,100,101,102,103,104,105,106,107,108,109,110,111,112,113,114,115,116,117,118,119,120,121,122]⟩
def trimName (s:ByteArray):ByteArray:=⟨(Lib.trimS s.data.toList nameChars.data.toList).toArray⟩
def headOf (s:ByteArray):Int:=Lib.indexByte firstChars.data.toList ((bts s).headD 0)
def nameR (s:ByteArray):Bool:= !(s.size == 0) && decide (s.size≤20) && (trimName s).toList.isEmpty && decide (0≤headOf s)
theorem asciiName:∀(j:Nat) b,nameChars.data.toList[j]? =some b→b.toNat < 128:=by
 intro j b h;have h1:nameChars.data.toList.all (fun b=>decide (b.toNat < 128))=true:=by decide +kernel
 exact of_decide_eq_true (List.all_eq_true.1 h1 b (List.mem_of_getElem? h))
theorem head_of {s:ByteArray} (h:0 < s.size):(s[0]'h)=(bts s).headD 0:=by
 obtain⟨⟨l⟩⟩:=s;cases l with
 | nil=>exact absurd h (by decide)
 | cons a l=>rfl
theorem head_byte (c:UInt8):((c.toNat:Nat):Int).toNat.toUInt8=c:=by simp
set_option maxHeartbeats 1600000 in
theorem name_any (s:ByteArray) (w:World):Calls Tryz.prog 87 #[.string s] w fun e w'=>e=.returned (.bool (nameR s))∧Below w.heap.size w w':=by
 have HR:Hid (nameR s=(!(s.size == 0) && decide (s.size≤20) && (trimName s).toList.isEmpty && decide (0≤headOf s))):=Lib.hid rfl
 by_cases h0:s.size=0
 ·obtain rfl:s=ByteArray.empty:=ByteArray.size_eq_zero_iff.1 h0;have HE:Hid (nameR ByteArray.empty=false):=Lib.hid (by rw[HR.out];rfl)
  clear HR h0
  go_enter Tryz.func87,Tryz.ntmps87
  go_wp2_with fail
  go_ret
  exact⟨by rw[HE.out];rfl,Below.refl _ _⟩
 have hq:s.toList.isEmpty=false:=by
  rw[List.isEmpty_eq_false_iff];intro e;rw[ByteArray.toList_eq]at e;exact h0 (by have:=congrArg List.length e;simpa using this)
 by_cases h1:s.size≤20
 ·have HT:Hid (∀ W,Calls Tryz.prog 110 #[.string s,.string nameChars] W fun e w'=>e=.returned (.string (trimName s))∧Below W.heap.size W w'):=Lib.hid fun W=>trim_any s nameChars W (by omega) (by decide) asciiName
  have hi:(0:Int) < (s.size:Int):=by omega
  have hpos:0 < s.size:=by omega
  have hhd:=head_of hpos;have HIx:Hid (∀ W,Calls Tryz.prog 115 #[.string firstChars,.int .u8 (s[0]'hpos).toNat] W fun e w'=>e=.returned (.int .i64 (headOf s))∧w'=W):=Lib.hid fun W=>by
   have h:=Tryz.strings_IndexByte firstChars ((s[0]'hpos).toNat:Int) W;rw[head_byte,hhd]at h;rw[hhd];exact h
  have h1':decide (s.size≤20)=true:=decide_eq_true h1;have h0':(s.size == 0)=false:=by rw[beq_eq_false_iff_ne];exact h0
  rw[h0',h1']at HR;have h20:(s.size:Int)≤20:=by omega
  have HT1:=Lib.hid (HT.out w);clear h0' h1' HT hhd;obtain⟨X,hX⟩:∃ X,X=(trimName s).toList.isEmpty:=⟨_,rfl⟩;have hX':(trimName s).toList.isEmpty=X:=hX.symm;rw[←hX]at HR;generalize trimName s=T at *;unfold nameChars firstChars at*
  go_enter Tryz.func87,Tryz.ntmps87
  go_wp2_with fail
  refine HT1.out.mono ?_;clear HT1;rintro e w1 ⟨rfl,hb1⟩;have HB1:=Lib.hid hb1;have HI1:=Lib.hid (HIx.out w1);clear hb1 HIx hX;cases X with
  | false=>
    have HE:Hid (nameR s=false):=Lib.hid (by rw[HR.out];simp)
    clear HR
    go_wp2_with fail
    go_ret
    exact⟨by rw[HE.out];rfl,HB1.out⟩
  | true=>
    have HE:Hid (nameR s=decide (0≤headOf s)):=Lib.hid (by rw[HR.out];simp)
    clear HR
    go_wp2_with fail
    refine HI1.out.mono ?_;clear HI1;rintro e w2 ⟨rfl,rfl⟩
    go_wp2_with fail
    go_ret
    exact⟨by rw[HE.out];rfl,HB1.out⟩
 ·have h20:¬((s.size:Int)≤20):=by omega
  have h1':decide (s.size≤20)=false:=decide_eq_false h1;have HE:Hid (nameR s=false):=Lib.hid (by rw[HR.out,h1'];simp)
  clear HR h1'
  go_enter Tryz.func87,Tryz.ntmps87
  go_wp2_with fail
  go_ret
  exact⟨by rw[HE.out];rfl,Below.refl _ _⟩
end Go.Proofs.YtpfmmbbggcghiaaGreatDoor
namespace Go.Proofs.YtpfmmbbggcghiaaGreatDoor
open Go.RowKit Go.ChangeShapes Go.WideShapes Go.ChangeAt
def Opens {α:Type} (P:Program) (E:Enc α) (t:TypeId):Prop:=
 ∀ {H:Type} (enc:TypeId×Value→H) (w:World) (sp:Nat→Bool) (held:Bool) (fuel:Nat) (cs:List Value) (x:DataW H×List MemPlace) (hi:Nat),
  DataW.trod enc P w 0 sp held fuel t cs=some x→(∀ p∈x.2,p.block < hi)→
  ∃ a,E.ok w 0 hi cs a∧(∀ B,(∀ n∈x.1.weights P t,n≤B)→E.fits B a)∧E.bulk a≤Rows.uptoBulk x.1
section
variable {P:Program} {t e:TypeId}
theorem opens_str (ht:P.underlying t=some .string):Opens P Enc.str t:=by
 intro H enc w sp held fuel cs x hi h _;obtain⟨s,rfl,rfl,_⟩:=DataW.trod_string ht h;refine⟨s,rfl,fun B hB=> ?_,?_⟩
 ·have:=hB s.data.toList.length (by simp[DataW.weights])
  have e:s.data.toList.length=s.size:=by rw[Array.length_toList];rfl
  show s.size≤B;omega
 ·have e:s.data.toList.length=s.size:=by rw[Array.length_toList];rfl
  simp[Enc.str,Rows.uptoBulk,e]
theorem opens_int (ht:P.underlying t=some (.int .i64)):Opens P Enc.int t:=by
 intro H enc w sp held fuel cs x hi h _;obtain⟨n,rfl,rfl,hn⟩:=DataW.trod_int ht h;exact⟨n,rfl,fun _ _=>hn,by simp[Enc.int,Rows.uptoBulk]⟩
theorem bulkAll_sum {H:Type} (l:List (DataW H)):Rows.uptoBulkAll l=(l.map Rows.uptoBulk).sum:=by
 induction l with
 | nil=>rfl
 | cons x l ih=>simp only[Rows.uptoBulkAll,List.map_cons,List.sum_cons,ih]
theorem sum_le_sum {α β:Type} (f:α→Nat) (g:β→Nat):∀(l:List α) (r:List β),l.length=r.length→(∀(i:Nat) (h:i < l.length) (h2:i < r.length),f l[i]≤g r[i])→(l.map f).sum≤(r.map g).sum
 | [],[],_,_=>by simp
 | a::l,b::r,hl,h=>by
   have h0:=h 0 (by simp) (by simp)
   have:=sum_le_sum f g l r (by simpa using hl) (fun i h1 h2=>h (i+1) (by simp only[List.length_cons];omega) (by simp only[List.length_cons];omega))
   simp only[List.map_cons,List.sum_cons];simp at h0;omega
 | [],_::_,hl,_=>by simp at hl
 | _::_,[],hl,_=>by simp at hl
theorem weightsAll_mem {H:Type} {d:DataW H} {l:List (DataW H)} (h:d∈l) {n:Nat} (hn:n∈d.weights P e):n∈DataW.weightsAll P e l:=by
 induction l with
 | nil=>cases h
 | cons x r ih=>
   simp only[DataW.weightsAll,List.mem_append];cases List.mem_cons.1 h with
   | inl e=>subst e;exact .inl hn
   | inr e=>exact .inr (ih e)
theorem choose_list {α:Type} (n:Nat) (R:Nat→α→Prop) (h:∀ i,i < n→∃ a,R i a):∃ l:List α,l.length=n∧∀(i:Nat) (hi:i < l.length),R i l[i]:=by
 induction n with
 | zero=>exact⟨[],rfl,fun i hi=>absurd hi (by simp)⟩
 | succ n ih=>
   obtain⟨l,hl,hr⟩:=ih fun i hi=>h i (by omega)
   obtain⟨a,ha⟩:=h n (by omega)
   refine⟨l++[a],by simp[hl],fun i hi=> ?_⟩
   rw[List.getElem_append];split
   ·exact hr i (by omega)
   ·have:i=n:=by simp at hi;omega
    subst this;simpa using ha
theorem opens_list {α:Type} {E:Enc α} (hE:Opens P E e) (ht:P.underlying t=some (.slice e)) (hC:P.cellsOf e=E.sz) (hB':P.bytesOf e=E.bytes) (hsz:0 < E.sz):Opens P E.list t:=by
 intro H enc w sp held fuel cs x hi h hx;rcases DataW.trod_slice ht h with⟨rfl,rfl⟩|⟨a,len,cap,elems,rest,n,_,rfl,rfl,hb,hl,hm,hlen,hel,hsp,hns⟩
 ·exact⟨[],⟨_,rfl,ListOk.nil 0 none⟩,fun B _=>⟨by simp,fun a ha=>by cases ha⟩,by simp[Enc.list,Rows.uptoBulk]⟩
 ·have key:∀ i,i < len→∃ y:α,(a.spot=none∨0 < i)∧a.block < hi∧(∃ cs,CellsAt w a.block (a.off+i*E.sz) cs∧E.ok w 0 hi cs y)∧∃ z,elems[i]? =some z∧(∀ B,(∀ n∈z.1.weights P e,n≤B)→E.fits B y)∧E.bulk y≤Rows.uptoBulk z.1:=by
   intro i hil;have h1:=hel i hil;have hz:elems[i]? =some (elems[i]'(by omega)):=List.getElem?_eq_getElem (by omega)
   rw[hz,Option.bind_eq_some_iff]at h1;obtain⟨cs,hcs,htr⟩:=h1;obtain⟨_,hcl,hat⟩:=World.cells?_some hcs;have hin:∀ p∈(elems[i]'(by omega)).2,p.block < hi:=fun p hp=>hx p (by
    simp only[List.mem_append,List.mem_flatMap];exact .inr ⟨_,.inl (List.getElem_mem (by omega)),hp⟩)
   obtain⟨y,hy,hf,hbk⟩:=hE enc w sp held n cs _ hi htr hin;rw[hC]at hcl hat;have h0:=hat 0 hsz;obtain⟨u0,hsome⟩:∃ u0,w.cell? ((a.add (i*E.sz)).add 0)=some u0:=⟨_,by rw[h0];exact List.getElem?_eq_getElem (by omega)⟩
   have hspot:a.spot=none∨0 < i:=by
    rcases Nat.eq_zero_or_pos i with h2|h2
    ·rw[h2,Nat.zero_mul]at hsome;simp only[Addr.add,if_true]at hsome
     left
     unfold World.cell? at hsome;split at hsome
     ·split at hsome
      ·cases hsome
      ·cases hs:a.spot with
       | none=>rfl
       | some q=>simp_all
     ·cases hsome
    ·exact .inr h2
   have hblk:a.block < hi:=by
    have:=hx (.cell a.block a.off) (by
     simp only[List.mem_append]
     left
     unfold MemPlace.row;simp only[List.mem_map,List.mem_range];exact⟨0,by rw[hC];exact Nat.mul_pos (by omega) hsz,by simp⟩)
    exact this
   refine⟨y,hspot,hblk,⟨cs,?_,hy⟩,_,hz,hf,hbk⟩;intro j u hj;have hjl:j < E.sz:=by rw[←hcl];exact(List.getElem?_eq_some_iff.1 hj).1
   have h2:=hat j hjl;rw[hj]at h2;have hadd:(a.add (i*E.sz)).add j=⟨a.block,a.off+i*E.sz+j,none⟩:=by
    have hs:i*E.sz=0→a.spot=none:=fun h=>by
     rcases hspot with h3|h3
     ·exact h3
     ·have:=Nat.mul_pos h3 hsz;omega
    unfold Addr.add
    by_cases g1:i*E.sz=0
    ·rw[if_pos g1]
     by_cases g2:j=0
     ·rw[if_pos g2,g1,g2,←hs g1];rfl
     ·rw[if_neg g2,g1];rfl
    ·rw[if_neg g1]
     by_cases g2:j=0
     ·rw[if_pos g2,g2];rfl
     ·rw[if_neg g2]
   rw[hadd]at h2;exact h2
  obtain⟨l,hll,hR⟩:=choose_list len _ key;refine⟨l,⟨_,rfl,some a,cap,by rw[hll],by omega,fun i hi'=> ?_⟩,fun B hB=>⟨?_,fun y hy=> ?_⟩,?_⟩
  ·obtain⟨hspot,hblk,⟨cs,hc,hok⟩,_⟩:=hR i hi';have hs:a.spot=none:=by
    obtain⟨h0,_⟩:=hR 0 (by omega)
    rcases h0 with h0|h0
    ·exact h0
    ·omega
   exact⟨a.block,a.off,cs,by rw[←hs],Nat.zero_le _,hblk,hc,hok⟩
  ·have:=hB ((elems.length+rest.length)*P.bytesOf e) (by simp[DataW.weights,ht])
   rw[hB']at this;refine Nat.le_trans (Nat.mul_le_mul_right _ ?_) this;omega
  ·obtain⟨i,hi',rfl⟩:=List.getElem_of_mem hy;obtain⟨_,_,_,z,hz,hf,_⟩:=hR i hi';refine hf B fun n hn=>hB n ?_;simp only[DataW.weights,ht,List.mem_cons,List.mem_append];refine .inr (.inl (weightsAll_mem ?_ hn));exact List.mem_map.2 ⟨z,List.mem_of_getElem? hz,rfl⟩
  ·show(l.map E.bulk).sum+1≤_;simp only[Rows.uptoBulk];have h1:(l.map E.bulk).sum≤((elems.map (·.1)).map Rows.uptoBulk).sum:=by
    refine sum_le_sum _ _ _ _ (by simp;omega) fun i h1 h2=> ?_
    obtain⟨_,_,_,z,hz,_,hbk⟩:=hR i h1;have:(elems.map (·.1))[i]=z.1:=by
     rw[List.getElem_map];have:=(List.getElem?_eq_some_iff.1 hz).2;rw[this]
    rw[this];exact hbk
   rw[←bulkAll_sum]at h1;omega
end
section
variable {H:Type} {enc:TypeId×Value→H} {P:Program} {W:World} {base:Nat} {t e:TypeId} {v:Value} {d:DataW H} {p:List MemPlace} {hi:Nat}
theorem arg_list {α:Type} {E:Enc α} (hE:Opens P E.list t) (ht:P.underlying t=some (.slice e)) (hv:Value.okWide P W .any base t v) (h:DataW.Trod enc P W 0 (fun _=>true) true t v d p) (hlt:∀ x∈p,x.block < hi):
 ∃ l,ListOk E W 0 hi v l∧(∀ B,(∀ n∈d.weights P t,n≤B)→E.list.fits B l)∧E.list.bulk l≤Rows.uptoBulk d:=by
 obtain⟨A,n,c,rfl⟩:=okWide_slice ht hv;obtain⟨fuel,hf⟩:=h;obtain⟨l,⟨v',hv',hl⟩,hb⟩:=hE enc W _ _ _ _ _ hi hf hlt;have e1:[Value.slice A n c]=[v']:=hv';injection e1 with e1;subst e1;exact⟨l,hl,hb⟩
theorem arg_str (ht:P.underlying t=some .string) (hv:Value.okWide P W .any base t v) (h:DataW.Trod enc P W 0 (fun _=>true) true t v d p):
 ∃ s:ByteArray,v=.string s∧(∀ B,(∀ n∈d.weights P t,n≤B)→s.size≤B)∧s.size+1≤Rows.uptoBulk d:=by
 obtain⟨s,rfl⟩:=okWide_string ht hv;obtain⟨fuel,hf⟩:=h;obtain⟨a,ha,hb⟩:=opens_str ht enc W _ _ _ _ (d,p) (p.foldr (fun x m=>max (x.block+1) m) 0) hf (fun x hx=>by
  clear hf;show x.block < _
  induction p with
  | nil=>cases hx
  | cons y r ih=>
    simp only[List.foldr_cons];cases List.mem_cons.1 hx with
    | inl e=>subst e;omega
    | inr e=>have:=ih e;omega)
 have e1:[Value.string s]=[Value.string a]:=ha;injection e1 with e1;injection e1 with e1;subst e1;exact⟨s,rfl,hb⟩
theorem arg_int (ht:P.underlying t=some (.int .i64)) (hv:Value.okWide P W .any base t v) (h:DataW.Trod enc P W 0 (fun _=>true) true t v d p):
 ∃ n:Int,v=.int .i64 n∧ -9223372036854775808≤n∧n≤9223372036854775807:=by
 obtain⟨n,rfl,rfl,rfl,w0⟩:=open_int ht hv h;have: -9223372036854775808≤n∧n≤9223372036854775807:=by simpa[Lit.wf,IntKind.min,IntKind.max,IntKind.signed,IntKind.bits]using w0
 exact⟨n,rfl,this⟩
end
section
variable {H:Type} {enc:TypeId×Value→H} {P:Program}
theorem trodAll_below (hl:laidOutB P=true) {W W':World} (hb:Below W.heap.size W W') {sp:Nat→Bool}:∀ {ts:List TypeId} {vs:List Value} {ds:List (DataW H)} {ps:List MemPlace},
 (∀ t∈ts,P.readableRec t=true∧t < P.types.size)→DataW.TrodAll enc P W 0 (fun _=>true) true ts vs ds ps→(∀ p∈ps,p.block < W.heap.size)→(∀ p∈ps,sp p.block=true)→DataW.TrodAll enc P W' 0 sp true ts vs ds ps
 | [],[],[],_,_,h,_,_=>h
 | t::ts,v::vs,d::ds,ps,hts,h,hlt,hsp=>by
   obtain⟨p,q,h1,h2,rfl⟩:=h;obtain⟨hr,hrow⟩:=hts t (by simp)
   refine⟨p,q,WideElems.Trod_stays hl hr hrow h1 (fun x hx=>hb.same (hlt x (by simp[hx]))) (fun x hx=>hsp x (by simp[hx])),?_,rfl⟩
   exact trodAll_below hl hb (fun t ht=>hts t (by simp[ht])) h2 (fun x hx=>hlt x (by simp[hx])) (fun x hx=>hsp x (by simp[hx]))
 | [],[],_::_,_,_,h,_,_=>h.elim
 | [],_::_,_,_,_,h,_,_=>h.elim
 | _::_,[],_,_,_,h,_,_=>h.elim
 | _::_,_::_,[],_,_,h,_,_=>h.elim
theorem law_post {f:Func} {s:ChangeSpec} {apart fresh handsOn again:Bool} {W W':World} {args:Array Value} {ds gs:List (DataW H)} {before:List MemPlace} {tb:TypeId}
 (hW:DataW.Whole enc P f.params.toList s.vars apart W args.toList ds gs before) (hs:s.vars=[]) (hrt:f.resultTypes=#[tb]) (htb:P.underlying tb=some .bool)
 (hfn:s.fn H (ds++gs)= { results:=[.lit (.bool true)],args:=ds }) (hl:laidOutB P=true) (hts:∀ t∈f.params.toList,P.readableRec t=true∧t < P.types.size)
 (hb:Below W.heap.size W W'):s.post enc P f apart fresh handsOn again W args (.bool true) W':=by
 have hW':=hW;obtain⟨p,q,hA,hV,hpq,hz,hn⟩:=hW';rw[hs]at hV;obtain⟨rfl,rfl⟩:=trodVars_none hV;rw[List.append_nil]at hpq;subst hpq;have hlt:∀ x∈before,x.block < W.heap.size:=fun x hx=>hW.lt x hx;have hold:∀ x∈before,(fun b=>decide (b < W.heap.size)) x.block=true:=fun x hx=>by simpa using hlt x hx
 have hres:∀(b:Nat) (sp:Nat→Bool) (hd:Bool),DataW.TrodAll enc P W' b sp hd f.resultTypes.toList ((Value.bool true).resultList f.resultTypes.size) (s.fn H (ds++[])).results []:=fun b sp hd=>by
  rw[hfn,hrt];exact trodAll_cons_mk (shut_bool htb _) trodAll_mk0
 have hargs:∀ sp:Nat→Bool,(∀ x∈before,sp x.block=true)→DataW.TrodAll enc P W' 0 sp true f.params.toList args.toList (s.fn H (ds++[])).args before:=fun sp hsp=>by
  rw[hfn];exact trodAll_below hl hb hts hA hlt hsp
 have hvars:∀ sp:Nat→Bool,DataW.TrodVars enc P W' sp s.vars (s.fn H (ds++[])).vars []:=fun sp=>by rw[hfn,hs];rfl
 have hok:∀(j:Nat) (t:TypeId) (r:Value),f.resultTypes[j]? =some t→((Value.bool true).resultList f.resultTypes.size)[j]? =some r→Value.okWide P W' .any 0 t r:=by
  exact ok_one hrt rfl (okWide_bool_mk htb _)
 refine⟨ds,[],before,[],before,[],hW,hres _ _ _,hargs _ hold,hvars _,World.keptBut_mono (fun x hx=>⟨hx,?_⟩) (hb.frame (· ∈before)),fun _=> ?_⟩
 ·exact .inr (.inl hx)
 ·refine⟨hok,_,_,([]++before)++[],⟨[]++before,[],trodAll_append (hargs _ (fun _ _=>rfl)) (hres _ _ _),hvars _,rfl,?_,?_⟩,?_⟩
  ·intro b off hp;have hin:MemPlace.cell b off∈before:=by simpa using hp
   rw[hb.frozen (hlt _ hin)];exact hz b off hin
  ·intro ha;have:=hn ha;simpa using this
  ·intro x hx _;simpa using hx
end
def TyOk (P:Program) (t:TypeId):Prop:=P.readableRec t=true∧t < P.types.size
theorem tys_nil {P:Program}:∀ t∈([]:List TypeId),TyOk P t:=fun _ h=>by cases h
theorem tys_cons {P:Program} {t:TypeId} {ts:List TypeId} (h:TyOk P t) (hs:∀ x∈ts,TyOk P x):∀ x∈t::ts,TyOk P x:=fun x hx=>by
 cases List.mem_cons.1 hx with
 | inl e=>subst e;exact h
 | inr e=>exact hs x e
theorem own_knob:ownKnob Tryz.prog.godebug=none:=by kernel_rfl
theorem laid_out:laidOutB Tryz.prog=true:=by kernel_rfl
end Go.Proofs.YtpfmmbbggcghiaaGreatDoor
