/- The machine of code.Say: its frames in memory; what one step says, plainly. -/
import Derived.Test.YtpfmmbbggcghiaaGreatDoorBldQ
namespace Go.Proofs.YtpfmmbbggcghiaaGreatDoor
open Go.RowKit
theorem addr0 (g j:Nat):(⟨g,0,none⟩:Addr).add j=⟨g,j,none⟩:=by simp[Addr.add];exact fun h=>h.symm
def kindF {β:Type} (G:List β→Prop) (x:NdF β):Prop:=(1≤x.kind∧x.kind≤6)∧(x.kind=4∨x.kind=5→∀ c∈x.cases,G c.2)
def KindN:(n:Nat)→List (Nd n)→Prop
 | 0,_=>True
 | n+1,m=>∀ x∈(m:List (NdF (Nd n))),kindF (KindN n) x
theorem fineM_kind {k:Int} {t:ByteArray} {last:Option Int} {mark:Bool} (h:fineM k t last mark=true):1≤k∧k≤6:=by
 unfold fineM at h;split at h
 ·omega
 ·split at h
  ·omega
  ·have h1:(k == 6)=true:=(Bool.and_eq_true_iff.1 h).1;have h2:k=6:=by simpa using h1
   omega
theorem checkM_kind {β:Type} {chk:List β→Bool→Int} {mark:Bool} {G:List β→Prop} (hG:∀ b mk,chk b mk=0→G b):∀(m:List (NdF β)) (last:Option Int),checkM chk mark last m=0→∀ x∈m,kindF G x
 | [],_,_,x,hx=>by cases hx
 | y::r,last,h,x,hx=>by
   rw[checkM_cons]at h;split at h
   ·exact absurd h (by decide)
   rename_i h3
   split at h
   ·exact absurd h (by decide)
   split at h
   ·rename_i h1;exact absurd h h1.2
   rename_i h5
   rcases List.mem_cons.1 hx with rfl|hx
   ·refine⟨fineM_kind (by simpa using h3),fun hk=> ?_⟩
    have hc:hasCases x.kind=true:=by
     unfold hasCases;rcases hk with hk|hk <;> rw[hk] <;> decide
    have h7:casesM chk x.kind mark x.cases []=0:=Classical.not_not.1 fun hh=>h5 ⟨hc,hh⟩;exact fun c hcm=>hG _ _ (casesM_good _ _ h7 c hcm)
   ·exact checkM_kind hG r _ h x hx
theorem kind_of_check:(n:Nat)→(m:List (Nd n))→(mark:Bool)→checkN n m mark=0→KindN n m
 | 0,_,_,_=>trivial
 | n+1,m,_,h=>checkM_kind (fun b mk hb=>kind_of_check n b mk hb) (m:List (NdF (Nd n))) none h
theorem check_of_fits {n:Nat} {m:List (Nd n)} {args:List ArgV} (h:fitsR n m args=0):checkN n m false=0:=by
 unfold fitsR at h;split at h
 ·rename_i h1;exact absurd h h1
 rename_i h1
 have h2:(ofR n m).1=0:=Classical.not_not.1 h1;unfold ofR at h2;split at h2
 ·rename_i h3;exact absurd h2 h3
 rename_i h3
 have h4:checkAll n m=0:=Classical.not_not.1 h3;unfold checkAll at h4;split at h4
 ·exact absurd h4 (by decide)
 ·exact h4
structure KGo (C:Nat) (k:Kt):Prop where
 ok:KOk C k
 kind:KindN k.d k.l
theorem KGo.rest {C d:Nat} {x:NdF (Nd d)} {r:List (NdF (Nd d))} {mk:DecV} (h:KGo C ⟨d+1,(x::r:List (NdF (Nd d))),mk⟩) (mk':DecV):KGo C ⟨d+1,r,mk'⟩:=
 ⟨h.ok.rest mk',fun y hy=>h.kind y (List.mem_cons_of_mem _ hy)⟩
theorem KGo.head {C d:Nat} {x:NdF (Nd d)} {r:List (NdF (Nd d))} {mk:DecV} (h:KGo C ⟨d+1,(x::r:List (NdF (Nd d))),mk⟩):1≤x.kind∧x.kind≤6:=(h.kind x (List.mem_cons_self ..)).1
theorem KGo.body {C d:Nat} {x:NdF (Nd d)} {r:List (NdF (Nd d))} {mk:DecV} (h:KGo C ⟨d+1,(x::r:List (NdF (Nd d))),mk⟩) (hk:x.kind=4∨x.kind=5) {c:ByteArray×List (Nd d)} (hc:c∈x.cases) (mk':DecV):KGo C ⟨d,c.2,mk'⟩:=
 ⟨h.ok.body hk hc mk',(h.kind x (List.mem_cons_self ..)).2 hk c hc⟩
section
variable (s:SetV) (kind:Int) (text:ByteArray) (off:Int) (keys:List ByteArray) (a:ArgV) (mark:DecV)
def swT:List UInt8:=if kind=6 then numT mark else if kind=3 then numT a.num else if kind=2 then showT a else if kind=4 then []else if kind=5 then []else bts text
def swE:Int:=if kind=6 then numE mark else if kind=3 then numE a.num else if kind=4 then caseE s off a.num else 0
def swI:Int:=if kind=4 then(caseB s off a.num keys:Nat)else if kind=5 then(choF a.text keys 0 0:Nat)else -1
def swM:DecV:=if kind=4 then caseL s off a.num else mark
end
theorem sw_bad {β:Type} {rec:List β→DecV→List UInt8×Int} {s:SetV} {f:ByteArray→Option ArgV} {x:NdF β} {mark:DecV} (h:swE s x.kind x.off (argOf f x.text) mark≠0):(oneO rec s f x mark).2=swE s x.kind x.off (argOf f x.text) mark:=by
 unfold swE at *;unfold oneO
 by_cases h6:x.kind=6
 ·have h1:x.kind≠1:=by omega
  rw[if_pos h6,if_neg h1,if_pos h6]
 ·rw[if_neg h6]at*
  by_cases h3:x.kind=3
  ·have h1:x.kind≠1:=by omega
   rw[if_pos h3,if_neg h1,if_neg h6,if_pos h3]
  ·rw[if_neg h3]at*
   by_cases h4:x.kind=4
   ·rw[if_pos h4]at *;have h1:x.kind≠1:=by omega
    rw[if_neg h1,if_neg h6,if_neg h3,if_pos h4,if_neg h]
   ·rw[if_neg h4]at h;exact absurd rfl h
theorem sw_flat {β:Type} {rec:List β→DecV→List UInt8×Int} {s:SetV} {f:ByteArray→Option ArgV} {x:NdF β} {mark:DecV} (hk:1≤x.kind∧x.kind≤6) (h:swE s x.kind x.off (argOf f x.text) mark=0) (h4:x.kind≠4) (h5:x.kind≠5):
 oneO rec s f x mark=(swT x.kind x.text (argOf f x.text) mark,0)∧swI s x.kind x.off (casesR x |>.map Prod.fst) (argOf f x.text)= -1∧casesR x=[]:=by
 refine⟨?_,?_,?_⟩
 ·unfold swE at h;unfold oneO swT
  by_cases h6:x.kind=6
  ·have h1:x.kind≠1:=by omega
   rw[if_pos h6]at h;rw[if_neg h1,if_pos h6,if_pos h6,h]
  ·rw[if_neg h6]at h
   by_cases h3:x.kind=3
   ·have h1:x.kind≠1:=by omega
    rw[if_pos h3]at h;rw[if_neg h1,if_neg h6,if_pos h3,if_neg h6,if_pos h3,h]
   ·by_cases h2:x.kind=2
    ·have h1:x.kind≠1:=by omega
     rw[if_neg h1,if_neg h6,if_neg h3,if_neg h4,if_neg h5,if_neg h6,if_neg h3,if_pos h2]
    ·have h1:x.kind=1:=by omega
     rw[if_pos h1,if_neg h6,if_neg h3,if_neg h2,if_neg h4,if_neg h5]
 ·unfold swI;rw[if_neg h4,if_neg h5]
 ·unfold casesR hasCases;have e4:(x.kind == 4)=false:=by simpa using h4
  have e5:(x.kind == 5)=false:=by simpa using h5
  rw[e4,e5]
  rfl
theorem casesR_yes {β:Type} {x:NdF β} (h:x.kind=4∨x.kind=5):casesR x=x.cases:=by
 unfold casesR hasCases;rcases h with h|h <;> rw[h] <;> rfl
theorem sw_push {β:Type} {rec:List β→DecV→List UInt8×Int} {s:SetV} {f:ByteArray→Option ArgV} {x:NdF β} {mark:DecV} (h:swE s x.kind x.off (argOf f x.text) mark=0) (hk:x.kind=4∨x.kind=5) (hn:x.cases≠[]):
 ∃ i,∃ hi:i < (casesR x).length,swI s x.kind x.off (casesR x |>.map Prod.fst) (argOf f x.text)=(i:Int)∧swT x.kind x.text (argOf f x.text) mark=[]∧oneO rec s f x mark=rec (casesR x)[i].2 (swM s x.kind x.off (argOf f x.text) mark):=by
 have hc:=casesR_yes hk;have hne:x.cases.map Prod.fst≠[]:=fun hh=>hn (List.map_eq_nil_iff.1 hh);have hpos:=List.length_pos_iff.2 hne;rcases hk with h4|h5
 ·have h6:x.kind≠6:=by omega
  have h3:x.kind≠3:=by omega
  have h2:x.kind≠2:=by omega
  have h1:x.kind≠1:=by omega
  have hi:=caseB_lt s x.off (argOf f x.text).num (x.cases.map Prod.fst) hne;rw[List.length_map]at hi;have he:caseE s x.off (argOf f x.text).num=0:=by
   unfold swE at h;rwa[if_neg h6,if_neg h3,if_pos h4]at h
  refine⟨caseB s x.off (argOf f x.text).num (x.cases.map Prod.fst),by rw[hc];exact hi,?_,?_,?_⟩
  ·unfold swI;rw[if_pos h4,hc]
  ·unfold swT;rw[if_neg h6,if_neg h3,if_neg h2,if_pos h4]
  ·unfold oneO swM;rw[if_neg h1,if_neg h6,if_neg h3,if_pos h4,if_pos he,if_pos h4,bodyAt_get _ _ hi];simp only[hc]
 ·have h6:x.kind≠6:=by omega
  have h3:x.kind≠3:=by omega
  have h2:x.kind≠2:=by omega
  have h1:x.kind≠1:=by omega
  have h4:x.kind≠4:=by omega
  have hi:=choF_lt (argOf f x.text).text (x.cases.map Prod.fst) 0 0 (x.cases.map Prod.fst).length hpos (by omega)
  rw[List.length_map]at hi;refine⟨choF (argOf f x.text).text (x.cases.map Prod.fst) 0 0,by rw[hc];exact hi,?_,?_,?_⟩
  ·unfold swI;rw[if_neg h4,if_pos h5,hc]
  ·unfold swT;rw[if_neg h6,if_neg h3,if_neg h2,if_neg h4,if_pos h5]
  ·unfold oneO swM;rw[if_neg h1,if_neg h6,if_neg h3,if_neg h4,if_pos h5,if_neg h4,bodyAt_get _ _ hi];simp only[hc]
theorem swT_len {C:Nat} {kind:Int} {text:ByteArray} {f:ByteArray→Option ArgV} {mark:DecV} (hC:400≤C) (hf:ArgIn C f) (ht:text.size≤C):(swT kind text (argOf f text) mark).length≤C:=by
 unfold swT;split
 ·have:=numT_len mark;omega
 ·split
  ·have:=numT_len (argOf f text).num;omega
  ·split
   ·unfold showT;split
    ·rename_i hn
     have:=textD_len _ (hf.ok text hn);omega
    ·rw[bts_len];have:=hf.size text;omega
   ·split
    ·exact Nat.zero_le _
    ·split
     ·exact Nat.zero_le _
     ·rw[bts_len];exact ht
def Frm.row (q:Frm):List Value:=[.int .i64 q.til,.int .i64 q.next,.int .i64 q.mark.coef,.int .i64 q.mark.scale]
def flatFr (l:List Frm):List Value:=l.flatMap Frm.row
theorem flatFr_snoc (l:List Frm) (q:Frm):flatFr (l++[q])=flatFr l++Frm.row q:=by simp[flatFr]
theorem flatFr_len:∀ l:List Frm,(flatFr l).length=l.length*4
 | []=>rfl
 | q::l=>by show(Frm.row q++flatFr l).length=_;rw[List.length_append,flatFr_len l,List.length_cons (a:=q)];show 4+_=_;omega
def FRow (B:Nat) (W:World) (v:Value) (F:List Frm):Prop:=W.ownsRow B 122 4 v F.length (flatFr F.reverse)
theorem FRow.top {B:Nat} {W:World} {v:Value} {q:Frm} {F:List Frm} (h:FRow B W v (q::F)):∃ g cap,v=.slice (some ⟨g,0,none⟩) (F.length+1) cap∧B≤g∧g < W.heap.size∧FRow B W (.slice (some ⟨g,0,none⟩) F.length cap) F∧
 W.cell? ⟨g,F.length*4,none⟩=some (.int .i64 q.til)∧W.cell? ⟨g,F.length*4+1,none⟩=some (.int .i64 q.next)∧W.cell? ⟨g,F.length*4+2,none⟩=some (.int .i64 q.mark.coef)∧W.cell? ⟨g,F.length*4+3,none⟩=some (.int .i64 q.mark.scale):=by
 have h0:=h;obtain⟨hl,⟨_,h2⟩|⟨g,cap,cur,hv,hb,hh,hc,hm,hcs,ht⟩⟩:=h
 ·rw[List.length_cons]at h2;omega
 ·have hrev:flatFr (q::F).reverse=flatFr F.reverse++Frm.row q:=by rw[List.reverse_cons,flatFr_snoc]
  have hfl:(flatFr F.reverse).length=F.length*4:=by rw[flatFr_len,List.length_reverse]
  rw[List.length_cons]at hv hc ht;subst hv;have hcell:∀ j u,(Frm.row q)[j]? =some u→W.cell? ⟨g,F.length*4+j,none⟩=some u:=fun j u hj=>by
   have h1:=World.ownsRow.cells h0 (g:=g) rfl (F.length*4+j) u (by rw[hrev,List.getElem?_append_right (by omega),hfl,Nat.add_sub_cancel_left];exact hj)
   have e:(⟨g,0,none⟩:Addr).add (F.length*4+j)=⟨g,F.length*4+j,none⟩:=addr0 g _;rwa[e]at h1
  refine⟨g,cap,rfl,hb,Blk.lt (t:=122) hh,⟨hfl,.inr ⟨g,cap,cur,rfl,hb,hh,by omega,hm,hcs,?_⟩⟩,hcell 0 _ rfl,hcell 1 _ rfl,hcell 2 _ rfl,hcell 3 _ rfl⟩
  rw[hrev]at ht;have h2:=congrArg (List.take (F.length*4)) ht;rw[List.take_take,show min (F.length*4) ((F.length+1)*4)=F.length*4 from by omega]at h2
  rw[h2,←hfl,List.take_left]
theorem FRow.push {B:Nat} {W:World} {v:Value} {q:Frm} {F:List Frm} (h:W.ownsRow B 122 4 v (F.length+1) (flatFr F.reverse++Frm.row q)):FRow B W v (q::F):=by
 unfold FRow;rw[List.reverse_cons,flatFr_snoc];exact h
theorem FRow.on {B:Nat} {W W':World} {v:Value} {F:List Frm} (h:FRow B W v F) (hb:Below W.heap.size W W'):FRow B W' v F:=own_below h hb (Nat.le_refl _)
theorem own_wrote {B k b z n:Nat} {t:TypeId} {W W':World} {v:Value} {l:List Value} (h:W.ownsRow b t z v n l) (hb:BwK B k W W') {cs:Array Value} (hk:Blk W k 112 cs) (h1:t≠112) (h2:t≠5):W'.ownsRow b t z v n l:=by
 refine own_keep h fun g hg hlt=> ?_;obtain⟨_,⟨h2,_⟩|⟨g',cap,cur,hv,_,hh,_⟩⟩:=h
 ·rw[h2]at hg;cases hg
 ·rw[hv]at hg;injection hg with hg;have hg:g'=g:=hg;subst hg;refine hb.kept g' hlt (fun e=> ?_) (fun cs' f e=> ?_)
  ·subst e;unfold Blk at hk;rw[hk]at hh;injection hh with hh;injection hh with _ hh;exact h1 hh.symm
  ·rw[hh]at e;injection e with e;injection e with _ e;exact h2 e
theorem FRow.wrote {B k:Nat} {W W':World} {v:Value} {F:List Frm} (h:FRow B W v F) (hb:BwK B k W W') {cs:Array Value} (hk:Blk W k 112 cs):FRow B W' v F:=own_wrote h hb hk (by decide) (by decide)
theorem Bld.grew {B k:Nat} {l:List UInt8} {W W':World} {v:Value} {F:List Frm} (h:Bld B k l W) (hf:FRow B W v F) (hg:W.grownBy W' v.ownBlock):Bld B k l W':=
 h.keepQ fun g cs t f hgl ht=>hg.block g (Array.getElem?_eq_some_iff.1 hgl).1 fun e=>by
  obtain⟨_,⟨h2,_⟩|⟨g',cap,cur,hv,_,hh,_⟩⟩:=hf
  ·rw[h2]at e;cases e
  ·rw[hv]at e;injection e with e;have e:g=g':=e;subst e;rw[hh]at hgl;injection hgl with hgl;injection hgl with _ hgl;rcases ht with rfl|ht
   ·rcases h with⟨_,u,hk,_⟩|⟨_,u,hk,_⟩ <;> (rw[hh]at hk;injection hk with hk;injection hk with _ hk;exact absurd hk (by decide))
   ·exact absurd (hgl.trans ht) (by decide)
theorem Bld.blk {B k:Nat} {l:List UInt8} {W:World} (h:Bld B k l W):∃ cs,Blk W k 112 cs:=by
 rcases h with⟨_,u,hk,_⟩|⟨_,u,hk,_⟩ <;> exact⟨_,hk⟩
theorem keys_ok {B hi:Nat} {W:World} {v:Value} {ks:List ByteArray} (h:W.ownsRow B 189 2 v ks.length (keyC ks)) (hs:W.heap.size≤hi):ListOk (Enc.cas Enc.none_) W 0 hi v (ks.map fun k=>(k,([]:List Empty))):=by
 have hkc:∀(l:List ByteArray) (i:Nat) (hi:i < l.length),(keyC l)[i*2]? =some (.string l[i])∧(keyC l)[i*2+1]? =some (.slice none 0 0):=by
  intro l
  induction l with
  | nil=>intro i hi;cases hi
  | cons k l ih=>
    intro i hi;have e:keyC (k::l)=.string k :: .slice none 0 0::keyC l:=rfl;cases i with
    | zero=>exact⟨rfl,rfl⟩
    | succ i=>
      rw[e,show(i+1)*2=i*2+1+1 from by omega]
      exact ih i (by simpa using hi)
 have h0:=h;obtain⟨hl,⟨hv,h2⟩|⟨g,cap,cur,hv,hb,hh,hc,hm,hcs,ht⟩⟩:=h
 ·subst hv;have e:ks=[]:=List.length_eq_zero_iff.1 h2;subst e;exact ListOk.nil 0 none
 ·subst hv;refine⟨some ⟨g,0,none⟩,cap,by rw[List.length_map],by rw[List.length_map];exact hc,fun i hil=> ?_⟩
  rw[List.length_map]at hil;have hcell:∀ j u,(keyC ks)[j]? =some u→W.cell? ⟨g,j,none⟩=some u:=fun j u hj=>by
   have h1:=World.ownsRow.cells h0 (g:=g) rfl j u hj;have e:(⟨g,0,none⟩:Addr).add j=⟨g,j,none⟩:=addr0 g _;rwa[e]at h1
  refine⟨g,0,[.string ks[i],.slice none 0 0],rfl,Nat.zero_le _,Nat.lt_of_lt_of_le (Blk.lt (t:=189) hh) hs,fun j u hj=> ?_,.slice none 0 0,by rw[List.getElem_map],by rw[List.getElem_map];exact ListOk.nil 0 none⟩
  show W.cell? ⟨g,0+i*2+j,none⟩=some u;rw[Nat.zero_add]
  match j,hj with
  | 0,hj=>obtain rfl:=Option.some.inj hj;exact hcell _ _ (hkc ks i hil).1
  | 1,hj=>obtain rfl:=Option.some.inj hj;exact hcell _ _ (hkc ks i hil).2
theorem SRow.at {b:Nat} {W:World} {A:Option Addr} {N c:Nat} {zs:List SU} (h:SRow b W (.slice A N c) zs) (p:Nat) (hp:p < zs.length):∃ g,A=some ⟨g,0,none⟩∧g < W.heap.size∧
 W.cell? ⟨g,p*6,none⟩=some (.int .i64 zs[p].x.kind)∧W.cell? ⟨g,p*6+1,none⟩=some (.string zs[p].x.text)∧W.cell? ⟨g,p*6+2,none⟩=some (.int .i64 zs[p].x.off)∧
 W.cell? ⟨g,p*6+3,none⟩=some zs[p].v∧W.cell? ⟨g,p*6+4,none⟩=some zs[p].u∧W.cell? ⟨g,p*6+5,none⟩=some (.int .i64 zs[p].x.fin):=by
 have h0:=h.row;obtain⟨hl,⟨_,h2⟩|⟨g,cap,cur,hv,hb,hh,hc,hm,hcs,ht⟩⟩:=h.row
 ·omega
 ·injection hv with hv1 hv2 hv3;subst hv1;have hfl:∀(l:List SU) (p:Nat) (hp:p < l.length) (j:Nat) (u:Value),(SU.row l[p])[j]? =some u→(flatU l)[p*6+j]? =some u:=by
   intro l
   induction l with
   | nil=>intro p hp;cases hp
   | cons y l ih=>
     intro p hp j u hj;have e:flatU (y::l)=SU.row y++flatU l:=rfl;have e2:(SU.row y).length=6:=rfl;cases p with
     | zero=>
       rw[e,Nat.zero_mul,Nat.zero_add,List.getElem?_append_left]
       ·exact hj
       ·exact(List.getElem?_eq_some_iff.1 hj).1
     | succ p=>
       rw[e,List.getElem?_append_right (by omega),e2,show(p+1)*6+j - 6=p*6+j from by omega]
       exact ih p (by simpa using hp) j u hj
  have hcell:∀ j u,(SU.row zs[p])[j]? =some u→W.cell? ⟨g,p*6+j,none⟩=some u:=fun j u hj=>by
   have h1:=World.ownsRow.cells h0 (g:=g) rfl (p*6+j) u (hfl zs p hp j u hj);have e:(⟨g,0,none⟩:Addr).add (p*6+j)=⟨g,p*6+j,none⟩:=addr0 g _;rwa[e]at h1
  exact⟨g,rfl,Blk.lt (t:=129) hh,hcell 0 _ rfl,hcell 1 _ rfl,hcell 2 _ rfl,hcell 3 _ rfl,hcell 4 _ rfl,hcell 5 _ rfl⟩
theorem natAt {b:Nat} {W:World} {u:Value} {l:List Nat} (h:W.ownsRow b 3 1 u l.length (natC l)) {i e:Nat} (hi:l[i]? =some e):∃ g cap,u=.slice (some ⟨g,0,none⟩) l.length cap∧g < W.heap.size∧i < l.length∧W.cell? ⟨g,i,none⟩=some (.int .i64 (e:Int)):=by
 have h0:=h;have hil:=(List.getElem?_eq_some_iff.1 hi).1;obtain⟨hl,⟨_,h2⟩|⟨g,cap,cur,hv,hb,hh,hc,hm,hcs,ht⟩⟩:=h
 ·omega
 ·subst hv;refine⟨g,cap,rfl,Blk.lt (t:=3) hh,hil,?_⟩;have h1:=World.ownsRow.cells h0 (g:=g) rfl i (.int .i64 (e:Int)) (by unfold natC;rw[List.getElem?_map,hi];rfl)
  have e:(⟨g,0,none⟩:Addr).add i=⟨g,i,none⟩:=addr0 g _;rwa[e]at h1
theorem natCell {b g n c:Nat} {W:World} {l:List Nat} (h:W.ownsRow b 3 1 (.slice (some ⟨g,0,none⟩) n c) l.length (natC l)) {i e:Nat} (hi:l[i]? =some e):W.cell? ⟨g,i,none⟩=some (.int .i64 (e:Int)):=by
 obtain⟨g',cap,hv,_,_,hq⟩:=natAt h hi;injection hv with hv1 _ _;injection hv1 with hv1;injection hv1 with hv1 _;subst hv1;exact hq
theorem info_frame:(Tryz.prog.info? 122).map (fun i=>(i.zero,i.size,i.bytes))=some (some (.agg #[.int .i64 0,.int .i64 0,.int .i64 0,.int .i64 0]),4,32):=by kernel_rfl
theorem frm_news (W:World) (a b c d:Value):∀ q u,([a,b,c,d]:List Value)[q]? =some u→(W.alloc (.cells #[a,b,c,d] 122)).drew.cell? ⟨W.heap.size,0+q,none⟩=some u:=fun q u hq=>by
 have h:=(Blk.new W 122 #[a,b,c,d]).cell q;rw[Nat.zero_add];exact h.trans (by simpa using hq)
theorem keys_small {β:Type} {S:β→Prop} {x:NdF β} (h:smallF S x):((casesR x).map Prod.fst).length≤10000000∧∀ c∈((casesR x).map Prod.fst).map (fun k=>(k,([]:List Empty))),c.1.size≤1000000000:=by
 obtain⟨_,h1,h2⟩:=h
 constructor
 ·rw[List.length_map];unfold casesR;split
  ·exact h1
  ·exact Nat.zero_le _
 ·intro c hc;obtain⟨k,hk,rfl⟩:=List.mem_map.1 hc;obtain⟨y,hy,rfl⟩:=List.mem_map.1 hk;exact(h2 y (casesR_sub hy)).1
theorem frow_one (B:Nat) (W:World) (q:Frm) (hB:B≤W.heap.size):FRow B (W.alloc (.cells #[.int .i64 q.til,.int .i64 q.next,.int .i64 q.mark.coef,.int .i64 q.mark.scale] 122)) (.slice (some ⟨W.heap.size,0,none⟩) 1 1) [q]:=
 ⟨rfl,.inr ⟨W.heap.size,1,_,rfl,hB,Blk.new W 122 _,Nat.le_refl _,by unfold maxLen;omega,rfl,rfl⟩⟩
theorem own_cap {b z n:Nat} {t:TypeId} {W:World} {A:Option Addr} {k c:Nat} {l:List Value} (h:W.ownsRow b t z (.slice A k c) n l):k=n∧n≤c:=by
 obtain⟨A',c',hv,hc⟩:=own_slice h;injection hv with _ h2 h3;subst h2;subst h3;exact⟨rfl,hc⟩
def lenOf:Value→Nat
 | .slice _ n _=>n
 | _=>0
end Go.Proofs.YtpfmmbbggcghiaaGreatDoor
