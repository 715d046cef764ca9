/- Messages in one row: what a row is, plainly; the row that is being made. -/
import Derived.Test.YtpfmmbbggcghiaaGreatDoorCpyW
set_option linter.unusedSimpArgs false
set_option linter.unusedVariables false
namespace Go.Proofs.YtpfmmbbggcghiaaGreatDoor
open Go.RowKit
structure StpV where
 kind:Int
 text:ByteArray
 off:Int
 keys:List ByteArray
 begin:List Nat
 fin:Nat
def stp0:StpV:=⟨0,ByteArray.empty,0,[],[],0⟩
section
variable {β:Type} (f:Nat→List β→List StpV)
def bodF:Nat→List (ByteArray×List β)→List StpV
 | _,[]=>[]
 | b,c::r=>f b c.2++bodF (b+(f b c.2).length) r
def begF:Nat→List (ByteArray×List β)→List Nat
 | _,[]=>[]
 | b,c::r=>b::begF (b+(f b c.2).length) r
def oneF (b:Nat) (x:NdF β):List StpV:=
 ⟨x.kind,x.text,x.off,(casesR x).map Prod.fst,begF f (b+1) (casesR x)++[b+1+(bodF f (b+1) (casesR x)).length],b+1+(bodF f (b+1) (casesR x)).length⟩::bodF f (b+1) (casesR x)
def rowF:Nat→List (NdF β)→List StpV
 | _,[]=>[]
 | b,x::r=>oneF f b x++rowF (b+(oneF f b x).length) r
theorem bodF_snoc:∀(l:List (ByteArray×List β)) (b:Nat) (c:ByteArray×List β),bodF f b (l++[c])=bodF f b l++f (b+(bodF f b l).length) c.2
 | [],b,c=>by simp[bodF]
 | d::l,b,c=>by
   show f b d.2++bodF f (b+(f b d.2).length) (l++[c])=_;rw[bodF_snoc l];simp[bodF,Nat.add_assoc]
theorem begF_snoc:∀(l:List (ByteArray×List β)) (b:Nat) (c:ByteArray×List β),begF f b (l++[c])=begF f b l++[b+(bodF f b l).length]
 | [],b,c=>by simp[bodF,begF]
 | d::l,b,c=>by
   show b::begF f (b+(f b d.2).length) (l++[c])=_;rw[begF_snoc l];simp[bodF,begF,Nat.add_assoc]
theorem begF_len:∀(l:List (ByteArray×List β)) (b:Nat),(begF f b l).length=l.length
 | [],_=>rfl
 | d::l,b=>by show(begF f _ l).length+1=l.length+1;rw[begF_len l]
theorem rowF_snoc:∀(l:List (NdF β)) (b:Nat) (x:NdF β),rowF f b (l++[x])=rowF f b l++oneF f (b+(rowF f b l).length) x
 | [],b,x=>by simp[rowF]
 | d::l,b,x=>by
   show oneF f b d++rowF f (b+(oneF f b d).length) (l++[x])=_;rw[rowF_snoc l];simp[rowF,Nat.add_assoc]
end
def stpN:(n:Nat)→Nat→List (Nd n)→List StpV
 | 0,_,_=>[]
 | n+1,b,m=>rowF (stpN n) b (m:List (NdF (Nd n)))
structure SU where
 x:StpV
 v:Value
 u:Value
def SU.row (s:SU):List Value:=[.int .i64 s.x.kind,.string s.x.text,.int .i64 s.x.off,s.v,s.u,.int .i64 s.x.fin]
def flatU (l:List SU):List Value:=l.flatMap SU.row
def keyC (ks:List ByteArray):List Value:=ks.flatMap fun k=>[.string k,.slice none 0 0]
def natC (l:List Nat):List Value:=l.map fun n:Nat=>Value.int .i64 (n:Int)
theorem flatU_append (l r:List SU):flatU (l++r)=flatU l++flatU r:=by simp[flatU]
theorem flatU_len:∀ l:List SU,(flatU l).length=l.length*6
 | []=>rfl
 | s::l=>by show(SU.row s++flatU l).length=_;rw[List.length_append,flatU_len l,List.length_cons];show 6+_=_;omega
theorem keyC_snoc (l:List ByteArray) (k:ByteArray):keyC (l++[k])=keyC l++[.string k,.slice none 0 0]:=by simp[keyC]
theorem natC_snoc (l:List Nat) (k:Nat):natC (l++[k])=natC l++[.int .i64 (k:Int)]:=by simp[natC]
def apartU (v:Value) (zs:List SU):Prop:=∀ s∈zs,∀ r,v.ownBlock=some r→s.v.ownBlock≠some r∧s.u.ownBlock≠some r
structure PartU (B:Nat) (W:World) (s:SU):Prop where
 key:W.ownsRow B 189 2 s.v s.x.keys.length (keyC s.x.keys)
 beg:W.ownsRow B 3 1 s.u s.x.begin.length (natC s.x.begin)
structure SRow (B:Nat) (W:World) (out:Value) (zs:List SU):Prop where
 row:W.ownsRow B 129 6 out zs.length (flatU zs)
 part:∀ s∈zs,PartU B W s
theorem SRow.nil {B:Nat} {W:World}:SRow B W (.slice none 0 0) []:=⟨own_nil,fun s hs=>(by cases hs)⟩
theorem PartU.keep {B:Nat} {W W':World} {s:SU} (h:PartU B W s) (k1:∀ g,s.v.ownBlock=some g→g < W.heap.size→W'.heap[g]? =W.heap[g]?) (k2:∀ g,s.u.ownBlock=some g→g < W.heap.size→W'.heap[g]? =W.heap[g]?):PartU B W' s:=
 ⟨own_keep h.key k1,own_keep h.beg k2⟩
theorem SRow.below {B:Nat} {W W':World} {out:Value} {zs:List SU} (h:SRow B W out zs) (hb:Below W.heap.size W W'):SRow B W' out zs:=
 ⟨own_below h.row hb (Nat.le_refl _),fun s hs=>(h.part s hs).keep (fun g _ hg=>hb.block g hg) (fun g _ hg=>hb.block g hg)⟩
theorem SRow.grown {B b z n:Nat} {t:TypeId} {W W':World} {out v:Value} {l:List Value} {zs:List SU} (h:SRow B W out zs) (hv:W.ownsRow b t z v n l) (ht:t≠129) (ha:apartU v zs) (hg:W.grownBy W' v.ownBlock):SRow B W' out zs:=
 ⟨own_keep h.row fun g e hlt=>hg.block g hlt fun e2=>own_type hv h.row ht e2.symm e,
  fun s hs=>(h.part s hs).keep (fun g e hlt=>hg.block g hlt fun e2=>(ha s hs g e2.symm).1 e) (fun g e hlt=>hg.block g hlt fun e2=>(ha s hs g e2.symm).2 e)⟩
theorem SRow.push {B:Nat} {W W':World} {out out':Value} {zs:List SU} {s:SU} (h:SRow B W out zs) (hg:W.grownBy W' out.ownBlock) (hown:W'.ownsRow B 129 6 out' (zs.length+1) (flatU zs++SU.row s)) (hs:PartU B W s):SRow B W' out' (zs++[s]):=by
 have hk:∀ s,PartU B W s→PartU B W' s:=fun s hs=>hs.keep (fun g e hlt=>hg.block g hlt fun e2=>own_type h.row hs.key (by decide) e2.symm e) (fun g e hlt=>hg.block g hlt fun e2=>own_type h.row hs.beg (by decide) e2.symm e)
 refine⟨?_,fun y hy=> ?_⟩
 ·rw[flatU_append,List.length_append];simpa[flatU]using hown
 ·rcases List.mem_append.1 hy with hy|hy
  ·exact hk y (h.part y hy)
  ·obtain rfl:=List.mem_singleton.1 hy;exact hk _ hs
theorem SRow.far {B:Nat} {W:World} {out:Value} {zs:List SU} (h:SRow B W out zs) {g:Nat} {t:TypeId} {cs:Array Value} (hb:Blk W g t cs) (h1:t≠129) (h2:t≠189) (h3:t≠3) (j:Nat) (v:Value):SRow B (W.setCell ⟨g,j,none⟩ v) out zs:=by
 have hne:∀ {b z n:Nat} {t':TypeId} {x:Value} {l:List Value},W.ownsRow b t' z x n l→t≠t'→∀ k,x.ownBlock=some k→k < W.heap.size→(W.setCell ⟨g,j,none⟩ v).heap[k]? =W.heap[k]? :=fun {b z n t' x l} hx ht k hk _=>by
  refine Below.heap_setCell _ _ _ _ ?_;intro e;have e:k=g:=e;subst e;obtain⟨_,⟨k2,_⟩|⟨g',cap,cur,hv,_,hh,_⟩⟩:=hx
  ·rw[k2]at hk;cases hk
  ·rw[hv]at hk;injection hk with hk;have hk:g'=k:=hk;subst hk;unfold Blk at hb;rw[hb]at hh;injection hh with hh;injection hh with _ hh;exact ht hh
 exact⟨own_keep h.row (hne h.row h1),fun s hs=>(h.part s hs).keep (hne (h.part s hs).key h2) (hne (h.part s hs).beg h3)⟩
structure AdK (B k:Nat) (w w':World):Prop where
 below:Below B w w'
 kept:∀ g,g < w.heap.size→g≠k→(∀ cs f,w.heap[g]? ≠some (.cells cs 129 f))→w'.heap[g]? =w.heap[g]?
section
variable {B k:Nat} {w w1 w':World}
theorem AdK.refl (B k:Nat) (w:World):AdK B k w w:=⟨Below.refl _ _,fun _ _ _ _=>rfl⟩
theorem AdK.trans (h:AdK B k w w1) (h2:AdK B k w1 w'):AdK B k w w':=
 ⟨h.below.trans h2.below,fun g hg hk hn=>by
   have h3:=h.kept g hg hk hn;exact(h2.kept g (Nat.lt_of_lt_of_le hg h.below.size) hk (fun cs f=>by rw[h3];exact hn cs f)).trans h3⟩
theorem AdK.of (h:Below w.heap.size w w') (hB:B≤w.heap.size):AdK B k w w':=⟨h.mono hB,fun g hg _ _=>h.block g hg⟩
theorem AdK.setCell (h:AdK B k w w1) (hB:B≤k) (j:Nat) (v:Value):AdK B k w (w1.setCell ⟨k,j,none⟩ v):=
 h.trans ⟨(Below.refl _ _).setCell (p:=⟨k,j,none⟩) hB v,fun g _ hk _=>Below.heap_setCell _ _ _ _ hk⟩
theorem AdK.blk (h:AdK B k w w') {g:Nat} {t:TypeId} {cs:Array Value} (hb:Blk w g t cs) (hk:g≠k) (ht:t≠129):Blk w' g t cs:=
 (h.kept g hb.lt hk (fun cs' f e=>by
   unfold Blk at hb;rw[hb]at e;injection e with e;injection e with _ e;exact ht e)).trans hb
theorem AdK.own (h:AdK B k w w') {b z n:Nat} {t:TypeId} {v:Value} {l:List Value} (hv:w.ownsRow b t z v n l) (ht:t≠129) {cs:Array Value} (hk:Blk w k 53 cs) (ht2:t≠53):w'.ownsRow b t z v n l:=
 own_keep hv fun g hg hlt=>h.kept g hlt (fun e=>by
  subst e;obtain⟨_,⟨h2,_⟩|⟨g',cap,cur,hv',_,hh,_⟩⟩:=hv
  ·rw[h2]at hg;cases hg
  ·rw[hv']at hg;injection hg with hg;have hg:g'=g:=hg;subst hg;unfold Blk at hk;rw[hk]at hh;injection hh with hh;injection hh with _ hh;exact ht2 hh.symm) (fun cs f e=>by
  obtain⟨_,⟨h2,_⟩|⟨g',cap,cur,hv',_,hh,_⟩⟩:=hv
  ·rw[h2]at hg;cases hg
  ·rw[hv']at hg;injection hg with hg;have hg:g'=g:=hg;subst hg;rw[hh]at e;injection e with e;injection e with _ e;exact ht e)
theorem AdK.grown {v:Value} {n z:Nat} {xs:List Value} (h:AdK B k w w1) (hown:w1.ownsRow B 129 z v n xs) (hg:w1.grownBy w' v.ownBlock) (hB:B≤w1.heap.size):AdK B k w w':=
 h.trans ⟨(Below.refl B w1).grown hg hB (fun k hk=>(own_lt hown hk).1),fun g hgl _ hn=>hg.block g hgl (fun e=>by
  obtain⟨_,⟨h2,_⟩|⟨g',cap,cur,hv,_,hh,_⟩⟩:=hown
  ·rw[h2]at e;cases e
  ·rw[hv]at e;injection e with e;subst e;exact hn _ _ hh)⟩
theorem AdK.young {b:Nat} {row:Option Nat} (h:AdK B k w w1) (hr:∀ r,row=some r→w.heap.size≤r) (hg:w1.grownBy w' row) (hB:B≤w.heap.size):AdK B k w w':=
 ⟨h.below.grown hg (Nat.le_trans hB h.below.size) (fun r e=>Nat.le_trans hB (hr r e)),fun g hgl hk hn=>(hg.block g (Nat.lt_of_lt_of_le hgl h.below.size) (fun e=>by have:=hr g e.symm;omega)).trans (h.kept g hgl hk hn)⟩
end
def CodeAt (B k:Nat) (W:World) (zs:List SU):Prop:=B≤k∧∃ out,Blk W k 53 #[out,.slice none 0 0]∧SRow B W out zs
section
variable {β:Type} (f:Nat→List β→List StpV)
theorem bodF_app (l r:List (ByteArray×List β)) (b:Nat):bodF f b (l++r)=bodF f b l++bodF f (b+(bodF f b l).length) r:=by
 induction l generalizing b with
 | nil=>simp[bodF]
 | cons d l ih=>show f b d.2++bodF f (b+(f b d.2).length) (l++r)=_;rw[ih];simp[bodF,Nat.add_assoc]
theorem rowF_app (l r:List (NdF β)) (b:Nat):rowF f b (l++r)=rowF f b l++rowF f (b+(rowF f b l).length) r:=by
 induction l generalizing b with
 | nil=>simp[rowF]
 | cons d l ih=>show oneF f b d++rowF f (b+(oneF f b d).length) (l++r)=_;rw[ih];simp[rowF,Nat.add_assoc]
theorem bodF_take (l:List (ByteArray×List β)) (b q:Nat) (h:q < l.length):bodF f b (l.take (q+1))=bodF f b (l.take q)++f (b+(bodF f b (l.take q)).length) l[q].2:=by
 rw[List.take_succ_eq_append_getElem h,bodF_snoc]
theorem begF_take (l:List (ByteArray×List β)) (b q:Nat) (h:q < l.length):begF f b (l.take (q+1))=begF f b (l.take q)++[b+(bodF f b (l.take q)).length]:=by
 rw[List.take_succ_eq_append_getElem h,begF_snoc]
theorem rowF_take (l:List (NdF β)) (b q:Nat) (h:q < l.length):rowF f b (l.take (q+1))=rowF f b (l.take q)++oneF f (b+(rowF f b (l.take q)).length) l[q]:=by
 rw[List.take_succ_eq_append_getElem h,rowF_snoc]
theorem bodF_le (l:List (ByteArray×List β)) (b q:Nat):(bodF f b (l.take q)).length≤(bodF f b l).length:=by
 have h:=bodF_app f (l.take q) (l.drop q) b;rw[List.take_append_drop]at h;rw[h,List.length_append];omega
theorem rowF_le (l:List (NdF β)) (b q:Nat):(rowF f b (l.take q)).length≤(rowF f b l).length:=by
 have h:=rowF_app f (l.take q) (l.drop q) b;rw[List.take_append_drop]at h;rw[h,List.length_append];omega
theorem oneF_len (b:Nat) (x:NdF β):(oneF f b x).length=1+(bodF f (b+1) (casesR x)).length:=by unfold oneF;rw[List.length_cons];omega
end
theorem own_ne {w:World} {b z n k:Nat} {t t':TypeId} {v:Value} {l:List Value} {cs:Array Value} (hv:w.ownsRow b t z v n l) (hk:Blk w k t' cs) (ht:t≠t'):v.ownBlock≠some k:=by
 intro e;obtain⟨_,⟨h2,_⟩|⟨g',cap,cur,hv',_,hh,_⟩⟩:=hv
 ·rw[h2]at e;cases e
 ·rw[hv']at e;injection e with e;have e:g'=k:=e;subst e;unfold Blk at hk;rw[hk]at hh;injection hh with hh;injection hh with _ hh;exact ht hh.symm
theorem blk_ne {w:World} {g k:Nat} {t t':TypeId} {cs cs':Array Value} (h1:Blk w g t cs) (h2:Blk w k t' cs') (ht:t≠t'):g≠k:=by
 intro e;subst e;unfold Blk at h1 h2;rw[h1]at h2;injection h2 with h2;injection h2 with _ h2;exact ht h2
theorem CodeAt.below {B k:Nat} {W W':World} {zs:List SU} (h:CodeAt B k W zs) (hb:Below W.heap.size W W'):CodeAt B k W' zs:=by
 obtain⟨h0,out,h1,h2⟩:=h;exact⟨h0,out,h1.below hb h1.lt,h2.below hb⟩
theorem AdK.setYoung {B k:Nat} {w w1:World} (h:AdK B k w w1) {g:Nat} (hg:w.heap.size≤g) (hB:B≤w.heap.size) (j:Nat) (v:Value):AdK B k w (w1.setCell ⟨g,j,none⟩ v):=
 ⟨h.below.setCell (p:=⟨g,j,none⟩) (Nat.le_trans hB hg) v,fun q hq hk hn=>(Below.heap_setCell _ _ _ _ (by show q≠g;omega)).trans (h.kept q hq hk hn)⟩
def fresh (N:Nat) (ys:List SU):Prop:=∀ s∈ys,∀ r,s.v.ownBlock=some r∨s.u.ownBlock=some r→N≤r
theorem fresh.mono {N N':Nat} {ys:List SU} (h:fresh N ys) (hn:N'≤N):fresh N' ys:=fun s hs r hr=>Nat.le_trans hn (h s hs r hr)
theorem fresh.append {N:Nat} {ys zs:List SU} (h:fresh N ys) (h2:fresh N zs):fresh N (ys++zs):=fun s hs r hr=>by
 rcases List.mem_append.1 hs with hs|hs
 ·exact h s hs r hr
 ·exact h2 s hs r hr
theorem fresh.nil {N:Nat}:fresh N []:=fun s hs=>(by cases hs)
theorem SRow.lt {B:Nat} {W:World} {out:Value} {zs:List SU} (h:SRow B W out zs):∀ s∈zs,∀ r,s.v.ownBlock=some r∨s.u.ownBlock=some r→r < W.heap.size:=fun s hs r hr=>by
 rcases hr with hr|hr
 ·exact(own_lt (h.part s hs).key hr).2
 ·exact(own_lt (h.part s hs).beg hr).2
theorem apartU.next {W:World} {B:Nat} {out v v':Value} {zs:List SU} (h:apartU v zs) (hs:SRow B W out zs) (ho:v'.ownBlock=v.ownBlock∨v'.ownBlock=some W.heap.size):apartU v' zs:=fun s hm r hr=>by
 rcases ho with ho|ho
 ·exact h s hm r (by rw[←ho];exact hr)
 ·rw[ho]at hr;injection hr with hr;subst hr;exact⟨fun e=>by have:=hs.lt s hm _ (.inl e);omega,fun e=>by have:=hs.lt s hm _ (.inr e);omega⟩
structure AIn (B k:Nat) (W0:World) (Yb:Nat) (kind:Int) (text:ByteArray) (off:Int) (zs:List SU) (keys:List ByteArray) (bg:List Nat) (V U:Value) (W:World):Prop where
 ad:AdK B k W0 W
 code:CodeAt B k W zs
 box:Blk W Yb 126 #[.int .i64 kind,.string text,.int .i64 off,V]
 kr:W.ownsRow (Yb+1) 189 2 V keys.length (keyC keys)
 br:W.ownsRow (Yb+1) 3 1 U bg.length (natC bg)
 av:apartU V zs
 au:apartU U zs
 ge:W0.heap.size≤Yb
 bw:B≤W0.heap.size
section
variable {B k Yb:Nat} {W0 W W':World} {kind off:Int} {text:ByteArray} {zs:List SU} {keys:List ByteArray} {bg:List Nat} {V U:Value}
theorem AIn.on (h:AIn B k W0 Yb kind text off zs keys bg V U W) (hb:Below W.heap.size W W'):AIn B k W0 Yb kind text off zs keys bg V U W':=
 ⟨h.ad.trans (AdK.of hb (Nat.le_trans h.bw h.ad.below.size)),h.code.below hb,h.box.below hb h.box.lt,own_below h.kr hb (Nat.le_refl _),own_below h.br hb (Nat.le_refl _),h.av,h.au,h.ge,h.bw⟩
theorem AIn.key {V7:Value} {key:ByteArray} (h:AIn B k W0 Yb kind text off zs keys bg V U W) (hg:W.grownBy W' V.ownBlock) (hown:W'.ownsRow (Yb+1) 189 2 V7 (keys.length+1) (keyC keys++[.string key,.slice none 0 0]))
 (ho:V7.ownBlock=V.ownBlock∨V7.ownBlock=some W.heap.size):AIn B k W0 Yb kind text off zs (keys++[key]) bg V7 U (W'.setCell ⟨Yb,3,none⟩ V7):=by
 obtain⟨hk0,out,hk1,hk2⟩:=h.code;have hge:=h.ge;have hbox:Blk W' Yb 126 #[.int .i64 kind,.string text,.int .i64 off,V]:=(hg.block Yb h.box.lt fun e=>own_box h.kr (Nat.lt_succ_self _) e.symm).trans h.box;have hcode:Blk W' k 53 #[out,.slice none 0 0]:=(hg.block k hk1.lt fun e=>own_ne h.kr hk1 (by decide) e.symm).trans hk1
 have hrow:SRow B W' out zs:=hk2.grown h.kr (by decide) h.av hg
 have hbr:W'.ownsRow (Yb+1) 3 1 U bg.length (natC bg):=own_keep h.br fun g e hlt=>hg.block g hlt fun e2=>own_type h.kr h.br (by decide) e2.symm e
 have hfar:∀ {t:TypeId} {z n:Nat} {x:Value} {l:List Value},W'.ownsRow (Yb+1) t z x n l→(W'.setCell ⟨Yb,3,none⟩ V7).ownsRow (Yb+1) t z x n l:=fun hx=>own_keep hx fun g e _=>Below.heap_setCell _ _ _ _ (by have:=(own_lt hx e).1;show g≠Yb;omega)
 refine⟨(h.ad.young (b:=0) (fun r e=>by have:=(own_lt h.kr e).1;omega) hg h.bw).setYoung h.ge h.bw 3 V7,⟨hk0,out,hcode.far (by exact(blk_ne hcode hbox (by decide))) _,hrow.far hbox (by decide) (by decide) (by decide) 3 V7⟩,hbox.set_ 3 V7,?_,hfar hbr,h.av.next hk2 ho,h.au,h.ge,h.bw⟩
 rw[keyC_snoc,List.length_append];exact hfar hown
theorem AIn.beg {U7:Value} {n:Nat} (h:AIn B k W0 Yb kind text off zs keys bg V U W) (hg:W.grownBy W' U.ownBlock) (hown:W'.ownsRow (Yb+1) 3 1 U7 (bg.length+1) (natC bg++[.int .i64 (n:Int)]))
 (ho:U7.ownBlock=U.ownBlock∨U7.ownBlock=some W.heap.size):AIn B k W0 Yb kind text off zs keys (bg++[n]) V U7 W':=by
 obtain⟨hk0,out,hk1,hk2⟩:=h.code;have hge:=h.ge;have hbox:Blk W' Yb 126 #[.int .i64 kind,.string text,.int .i64 off,V]:=(hg.block Yb h.box.lt fun e=>own_box h.br (Nat.lt_succ_self _) e.symm).trans h.box;have hcode:Blk W' k 53 #[out,.slice none 0 0]:=(hg.block k hk1.lt fun e=>own_ne h.br hk1 (by decide) e.symm).trans hk1
 have hrow:SRow B W' out zs:=hk2.grown h.br (by decide) h.au hg
 have hkr:W'.ownsRow (Yb+1) 189 2 V keys.length (keyC keys):=own_keep h.kr fun g e hlt=>hg.block g hlt fun e2=>own_type h.br h.kr (by decide) e2.symm e
 refine⟨h.ad.young (b:=0) (fun r e=>by have:=(own_lt h.br e).1;omega) hg h.bw,⟨hk0,out,hcode,hrow⟩,hbox,hkr,?_,h.av,h.au.next hk2 ho,h.ge,h.bw⟩
 rw[natC_snoc,List.length_append];exact hown
theorem AIn.call {ys:List SU} (h:AIn B k W0 Yb kind text off zs keys bg V U W) (hA:AdK B k W W') (hC:CodeAt B k W' (zs++ys)) (hf:fresh W.heap.size ys):AIn B k W0 Yb kind text off (zs++ys) keys bg V U W':=by
 obtain⟨hk0,out,hk1,hk2⟩:=h.code;have ap:∀ {b z n:Nat} {t:TypeId} {x:Value} {l:List Value},W.ownsRow b t z x n l→apartU x zs→apartU x (zs++ys):=fun hx ha s hs r hr=>by
  rcases List.mem_append.1 hs with hs|hs
  ·exact ha s hs r hr
  ·have h1:=(own_lt hx hr).2;exact⟨fun e=>by have:=hf s hs r (.inl e);omega,fun e=>by have:=hf s hs r (.inr e);omega⟩
 exact⟨h.ad.trans hA,hC,hA.blk h.box (blk_ne h.box hk1 (by decide)) (by decide),hA.own h.kr (by decide) hk1 (by decide),hA.own h.br (by decide) hk1 (by decide),ap h.kr h.av,ap h.br h.au,h.ge,h.bw⟩
end
theorem own_setAt {base g c:Nat} {e:TypeId} {z:Nat}:∀(vs:List Value) (o n:Nat) (w:World) (xs:List Value),w.ownsRow base e z (.slice (some ⟨g,0,none⟩) n c) n xs→o+vs.length≤n*z→
 (w.setCells g o vs).ownsRow base e z (.slice (some ⟨g,0,none⟩) n c) n (xs.take o++vs++xs.drop (o+vs.length))
 | [],o,n,w,xs,h,_=>by
   show w.ownsRow _ _ _ _ _ _;rw[List.append_nil,List.length_nil,Nat.add_zero,List.take_append_drop];exact h
 | v::vs,o,n,w,xs,h,hl=>by
   have hlen:xs.length=n*z:=h.1;rw[List.length_cons]at hl;have h1:=own_setN h o v (by omega)
   have h2:=own_setAt vs (o+1) n (w.setCell ⟨g,o,none⟩ v) (xs.set o v) h1 (by omega)
   have e:(xs.set o v).take (o+1)++vs++(xs.set o v).drop (o+1+vs.length)=xs.take o++(v::vs)++xs.drop (o+(v::vs).length):=by
    rw[List.take_succ_eq_append_getElem (by rw[List.length_set];omega),List.getElem_set_self,List.take_set_of_le (Nat.le_refl _),List.drop_set_of_lt (by omega),List.length_cons]
    simp[Nat.add_comm,Nat.add_left_comm,Nat.add_assoc]
   rw[e]at h2;exact h2
theorem flatU_set:∀(zs:List SU) (i:Nat) (s:SU),i < zs.length→flatU (zs.set i s)=(flatU zs).take (i*6)++SU.row s++(flatU zs).drop (i*6+6)
 | [],i,s,h=>by cases h
 | y::zs,0,s,_=>by
   show SU.row s++flatU zs=(SU.row y++flatU zs).take (0*6)++SU.row s++(SU.row y++flatU zs).drop (0*6+6);rw[Nat.zero_mul,List.take_zero,List.nil_append,Nat.zero_add,List.drop_append,show(6:Nat) - (SU.row y).length=0 from rfl,List.drop_zero,List.drop_eq_nil_of_le (by exact Nat.le_refl _)]
   rfl
 | y::zs,i+1,s,h=>by
   have ih:=flatU_set zs i s (by simpa using h)
   show SU.row y++flatU (zs.set i s)=(SU.row y++flatU zs).take ((i+1)*6)++SU.row s++(SU.row y++flatU zs).drop ((i+1)*6+6);have hl:(SU.row y).length=6:=rfl;rw[ih,show(i+1)*6=(SU.row y).length+i*6 from by rw[hl];omega,List.take_append,List.take_of_length_le (l:=SU.row y) (Nat.le_add_right _ _),Nat.add_sub_cancel_left,Nat.add_assoc,List.drop_append,@List.drop_eq_nil_of_le _ (SU.row y) _ (Nat.le_add_right _ _),Nat.add_sub_cancel_left,List.nil_append,List.append_assoc,List.append_assoc,List.append_assoc]
theorem setCells_far {g k:Nat} (hk:k≠g):∀(vs:List Value) (o:Nat) (w:World),(w.setCells g o vs).heap[k]? =w.heap[k]?
 | [],_,_=>rfl
 | v::vs,o,w=>by
   show((w.setCell ⟨g,o,none⟩ v).setCells g (o+1) vs).heap[k]? =_;rw[setCells_far hk vs];exact Below.heap_setCell _ _ _ _ hk
theorem setCells_below {B g:Nat} (hg:B≤g):∀(vs:List Value) (o:Nat) (w w':World),Below B w w'→Below B w (w'.setCells g o vs)
 | [],_,_,_,h=>h
 | v::vs,o,w,w',h=>setCells_below hg vs (o+1) w _ (h.setCell (p:=⟨g,o,none⟩) hg v)
theorem AIn.fin {B k Yb:Nat} {W0 W:World} {kind off:Int} {text:ByteArray} {zs:List SU} {keys:List ByteArray} {bg:List Nat} {V U:Value} (h:AIn B k W0 Yb kind text off zs keys bg V U W) {g c i e:Nat} (hi:i < zs.length)
 (hg:W.cell? ⟨k,0,none⟩=some (.slice (some ⟨g,0,none⟩) zs.length c)):
 AdK B k W0 (W.setCells g (i*6) [.int .i64 kind,.string text,.int .i64 off,V,U,.int .i64 (e:Int)])∧CodeAt B k (W.setCells g (i*6) [.int .i64 kind,.string text,.int .i64 off,V,U,.int .i64 (e:Int)]) (zs.set i ⟨⟨kind,text,off,keys,bg,e⟩,V,U⟩):=by
 obtain⟨hk0,out,hk1,hk2⟩:=h.code;obtain rfl:out=.slice (some ⟨g,0,none⟩) zs.length c:=by
  have:=hk1.cell 0;rw[hg]at this;exact(Option.some.inj this).symm
 have hgb:B≤g:=(own_lt hk2.row rfl).1;have hst:∀ cs t f,W.heap[g]? =some (.cells cs t f)→t=129:=fun cs t f e=>by
  obtain⟨_,⟨h2,_⟩|⟨g',cap,cur,hv',_,hh,_⟩⟩:=hk2.row
  ·cases h2
  ·injection hv' with hv';injection hv' with hv';injection hv' with hv';subst hv';rw[hh]at e;injection e with e;injection e with _ e;exact e.symm
 have hrow:=own_setAt [.int .i64 kind,.string text,.int .i64 off,V,U,.int .i64 (e:Int)] (i*6) zs.length W (flatU zs) hk2.row (by show i*6+6≤_;omega)
 have hpk:∀ s,PartU B W s→PartU B (W.setCells g (i*6) [.int .i64 kind,.string text,.int .i64 off,V,U,.int .i64 (e:Int)]) s:=fun s hs=>hs.keep
  (fun q hq hl=>setCells_far (fun e=>by subst e;exact own_type hk2.row hs.key (by decide) rfl hq) _ _ _) (fun q hq hl=>setCells_far (fun e=>by subst e;exact own_type hk2.row hs.beg (by decide) rfl hq) _ _ _)
 refine⟨h.ad.trans ⟨setCells_below hgb _ _ _ _ (Below.refl _ _),fun q hq hkq hn=>setCells_far (fun e=>by
  subst e;have hlt:q < W.heap.size:=hq;cases hh:W.heap[q]? with
  | none=>rw[Array.getElem?_eq_none_iff]at hh;omega
  | some o=>
    cases o with
    | cells cs t f=>obtain rfl:=hst cs t f hh;exact hn cs f hh
    | _=> 
      obtain⟨_,⟨h2,_⟩|⟨g',cap,cur,hv',_,hh2,_⟩⟩:=hk2.row
      ·cases h2
      ·injection hv' with hv';injection hv' with hv';injection hv' with hv';subst hv';rw[hh2]at hh;injection hh with hh;cases hh) _ _ _⟩,hk0,.slice (some ⟨g,0,none⟩) zs.length c,?_,?_,?_⟩
 ·exact(setCells_far (fun e=>by subst e;exact own_ne hk2.row hk1 (by decide) rfl) _ _ _).trans hk1
 ·rw[List.length_set,flatU_set zs i _ hi];exact hrow
 ·intro s hs;rcases List.mem_or_eq_of_mem_set hs with hs|rfl
  ·exact hpk s (hk2.part s hs)
  ·have hyb:B≤Yb+1:=by have:=h.ge;have:=h.bw;omega
   exact hpk _ ⟨own_mono h.kr hyb,own_mono h.br hyb⟩
def su0:SU:=⟨stp0,.slice none 0 0,.slice none 0 0⟩
theorem AIn.start {B k Yb:Nat} {W0 W w7:World} {kind off:Int} {text:ByteArray} {zs:List SU} {out v7:Value} (hk:B≤k) (hc:Blk W k 53 #[out,.slice none 0 0]) (hs:SRow B W out zs) (had:AdK B k W0 W)
 (hb:Blk W Yb 126 #[.int .i64 kind,.string text,.int .i64 off,.slice none 0 0]) (hge:W0.heap.size≤Yb) (hbw:B≤W0.heap.size) (hg:W.grownBy w7 out.ownBlock)
 (hown:w7.ownsRow B 129 6 v7 (zs.length+1) (flatU zs++SU.row su0)):AIn B k W0 Yb kind text off (zs++[su0]) [] [] (.slice none 0 0) (.slice none 0 0) (w7.setCell ⟨k,0,none⟩ v7):=by
 have hc7:Blk w7 k 53 #[out,.slice none 0 0]:=(hg.block k hc.lt fun e=>own_ne hs.row hc (by decide) e.symm).trans hc
 have hb7:Blk w7 Yb 126 #[.int .i64 kind,.string text,.int .i64 off,.slice none 0 0]:=(hg.block Yb hb.lt fun e=>own_ne hs.row hb (by decide) e.symm).trans hb
 have hs7:SRow B w7 v7 (zs++[su0]):=hs.push hg hown ⟨own_nil,own_nil⟩;have hB:B≤W.heap.size:=Nat.le_trans hbw had.below.size;exact⟨(had.grown hs.row hg hB).setCell hk 0 v7,⟨hk,v7,hc7.set_ 0 v7,hs7.far hc7 (by decide) (by decide) (by decide) 0 v7⟩,hb7.far (by exact(blk_ne hb7 hc7 (by decide))) _,own_nil,own_nil,(fun s _ r hr=>by cases hr),(fun s _ r hr=>by cases hr),hge,hbw⟩
theorem blk_start {B k g:Nat} {t:TypeId} {cs:Array Value} {W w7:World} {zs:List SU} {out v7:Value} (hc:Blk W k 53 #[out,.slice none 0 0]) (hs:SRow B W out zs) (hg:W.grownBy w7 out.ownBlock)
 (hb:Blk W g t cs) (h1:129≠t) (h2:t≠53):Blk (w7.setCell ⟨k,0,none⟩ v7) g t cs:=by
 have h7:Blk w7 g t cs:=(hg.block g hb.lt fun e=>own_ne hs.row hb h1 e.symm).trans hb;exact h7.far (by exact(blk_ne hb hc h2)) v7
theorem AIn.at_ {B k Yb:Nat} {W0 W:World} {kind off:Int} {text:ByteArray} {zs:List SU} {keys:List ByteArray} {bg:List Nat} {V U:Value} (h:AIn B k W0 Yb kind text off zs keys bg V U W) {g c i:Nat} (hi:i < zs.length)
 (hg:W.cell? ⟨k,0,none⟩=some (.slice (some ⟨g,0,none⟩) zs.length c)) (j:Nat) (hj:j < 6):(∃ u,W.cell? ⟨g,i*6+j,none⟩=some u)∧W.frozen? ⟨g,i*6+j,none⟩=false:=by
 obtain⟨hk0,out,hk1,hk2⟩:=h.code;obtain rfl:out=.slice (some ⟨g,0,none⟩) zs.length c:=by
  have:=hk1.cell 0;rw[hg]at this;exact(Option.some.inj this).symm
 have hx:i*6+j < zs.length*6:=by omega
 obtain⟨g',hA,_,_,h3,h4⟩:=own_at hk2.row (i*6+j) hx;injection hA with hA;injection hA with hA;subst hA;refine⟨⟨(flatU zs)[i*6+j]'(by rw[flatU_len];exact hx),?_⟩,h4⟩
 rw[h3];exact List.getElem?_eq_getElem _
end Go.Proofs.YtpfmmbbggcghiaaGreatDoor
