/- Rows of bundles that may be written into. -/
import Derived.Test.YtpfmmbbggcghiaaGreatDoorSpoilH
set_option linter.unusedSimpArgs false
set_option linter.unusedVariables false
namespace Go.Proofs.YtpfmmbbggcghiaaGreatDoor
open Go.RowKit Go.Maps
def EntN (B:Nat) (W:World) (V:Value):Prop:=∃ A m c,V=.slice A m c∧m≤4398046511104∧(0 < m→∃ k,A=some ⟨k,0,none⟩∧B≤k∧HasN W k 70 (m*2))
structure SpIn (B:Nat) (W:World) (g:Nat) (Vs:List Value):Prop where
 lo:B≤g
 has:HasN W g 49 (Vs.length*2)
 tags:∀ i,i < Vs.length→∃ s,W.cell? ⟨g,i*2,none⟩=some (.string s)
 ents:∀ i (h:i < Vs.length),W.cell? ⟨g,i*2+1,none⟩=some Vs[i]∧EntN B W Vs[i]
theorem HasN.ne {W:World} {g k m n:Nat} {t t':TypeId} (h:HasN W g t m) (h':HasN W k t' n) (ht:t≠t'):g≠k:=fun e=>by
 subst e;obtain⟨cur,hh,_⟩:=h;obtain⟨cur',hh',_⟩:=h';rw[hh]at hh';injection hh' with hh';injection hh' with _ hh';exact ht hh'
theorem EntN.keeps {B:Nat} {W W':World} {V:Value} (h:EntN B W V) (k:Keeps W W'):EntN B W' V:=by
 obtain⟨A,m,c,h1,h2,h3⟩:=h;refine⟨A,m,c,h1,h2,fun hm=> ?_⟩;obtain⟨k',h4,h5,h6⟩:=h3 hm;exact⟨k',h4,h5,k _ _ _ h6⟩
theorem SpIn.tag {B:Nat} {W:World} {g:Nat} {Vs:List Value} (h:SpIn B W g Vs) (i:Nat) (s:ByteArray):SpIn B (W.setCell ⟨g,i*2,none⟩ (.string s)) g Vs:=
 ⟨h.lo,h.has.set _ _,fun j hj=>by
   by_cases e:j=i
   ·subst e;obtain⟨⟨u,hu⟩,_⟩:=h.has.cell (j*2) (by omega)
    exact⟨s,World.cell?_setCell_same _ _ _ hu⟩
   ·obtain⟨s',hs⟩:=h.tags j hj;exact⟨s',by rw[←hs];exact World.cell?_setCell_other _ _ _ _ (fun e'=>by injection e' with _ e';omega)⟩,
  fun j hj=>⟨by
   rw[←(h.ents j hj).1];exact World.cell?_setCell_other _ _ _ _ (fun e=>by injection e with _ e;omega),(h.ents j hj).2.keeps ((Keeps.refl _).set _ _ _)⟩⟩
theorem SpIn.fr {B:Nat} {W W':World} {X:Nat→Prop} {g:Nat} {Vs:List Value} (h:SpIn B W g Vs) (hf:Fr W W' X) (hX:¬ X g) (k:Keeps W W'):SpIn B W' g Vs:=
 ⟨h.lo,k _ _ _ h.has,fun j hj=>by
   obtain⟨s,hs⟩:=h.tags j hj;exact⟨s,(hf.cell (p:=⟨g,j*2,none⟩) h.has.lt hX).trans hs⟩,fun j hj=>⟨(hf.cell (p:=⟨g,j*2+1,none⟩) h.has.lt hX).trans (h.ents j hj).1,(h.ents j hj).2.keeps k⟩⟩
theorem SpIn.spoil {B:Nat} {W W':World} {g:Nat} {Vs:List Value} {A:Option Addr} {m c i:Nat} (h:SpIn B W g Vs) (hi:i < Vs.length) (hv:Vs[i]=.slice A m c) (hf:Fr W W' (AtB A m)) (k:Keeps W W'):SpIn B W' g Vs:=by
 refine h.fr hf (fun⟨h0,hA⟩=> ?_) k;obtain⟨A',m',c',e,_,h3⟩:=(h.ents i hi).2;rw[hv]at e;injection e with e1 e2 _;subst e1;subst e2;obtain⟨k',h4,_,h6⟩:=h3 h0;rw[hA]at h4;injection h4 with h4;injection h4 with h4;subst h4;exact h.has.ne h6 (by decide) rfl
theorem SpIn.of {B:Nat} {W:World} {A:Option Addr} {n c:Nat} {ps:List (Bun×Value)} (h:RowedB B W (.slice A n c) ps) (hn:0 < ps.length) (hl:∀ p∈ps,p.1.ents.length≤4398046511104):∃ g,A=some ⟨g,0,none⟩∧SpIn B W g (ps.map Prod.snd):=by
 have ho:=h.own;obtain⟨A',c',he,_⟩:=own_slice ho;injection he with e1 e2 e3;subst e1;subst e2;subst e3;obtain⟨g,rfl,hg,_,hN⟩:=HasN.of_own ho hn;refine⟨g,rfl,hg,by simpa using hN,fun i hi=> ?_,fun i hi=>⟨?_,?_⟩⟩
 ·have hi':i < ps.length:=by simpa using hi
  obtain⟨_,⟨h0,_⟩|⟨g',cap,cur,hv,hb,hh,hc,hm,hcs,ht⟩⟩:=ho
  ·cases h0
  ·injection hv with hv _ _;injection hv with hv;injection hv with hv;subst hv;rw[cell_of_row W g (i*2) cur 49 (0,0) hh];have hb:=congrArg (fun l:List Value=>l[0]?) (flatB_at ps i hi')
   (first|dsimp only at hb|skip)
   rw[List.getElem?_take,if_pos (by omega),List.getElem?_drop,←ht,List.getElem?_take]at hb
   split at hb
   ·rw[Array.getElem?_toList]at hb;have hb':cur[i*2]? =(bunCells ps[i])[0]? :=hb;rw[hb'];exact⟨(ps[i]).1.tag,by simp[bunCells]⟩
   ·simp[bunCells]at hb
 ·have hi':i < ps.length:=by simpa using hi
  obtain⟨_,⟨h0,_⟩|⟨g',cap,cur,hv,hb,hh,hc,hm,hcs,ht⟩⟩:=ho
  ·cases h0
  ·injection hv with hv _ _;injection hv with hv;injection hv with hv;subst hv;rw[cell_of_row W g (i*2+1) cur 49 (0,0) hh];have hb:=congrArg (fun l:List Value=>l[1]?) (flatB_at ps i hi')
   (first|dsimp only at hb|skip)
   rw[List.getElem?_take,if_pos (by omega),List.getElem?_drop,←ht,List.getElem?_take]at hb
   split at hb
   ·rw[Array.getElem?_toList]at hb;rw[hb];simp[bunCells]
   ·simp[bunCells]at hb
 ·have hi':i < ps.length:=by simpa using hi
  have hE:=h.ents _ (List.getElem_mem hi');obtain⟨A',c',he,_⟩:=own_slice hE;rw[List.getElem_map,he];refine⟨A',_,c',rfl,hl _ (List.getElem_mem hi'),fun hm=> ?_⟩;unfold EntRow at hE;rw[he]at hE;obtain⟨k,h1,h2,_,h3⟩:=HasN.of_own hE hm;exact⟨k,h1,h2,h3⟩
theorem SpIn.stay {B:Nat} {W W':World} {X:Nat→Prop} {g:Nat} {Vs:List Value} (h:SpIn B W g Vs) (hf:Fr W W' X) (hg:¬ X g) (he:∀ i (_:i < Vs.length) A m c,Vs[i]=.slice A m c→∀ k,AtB A m k→¬ X k):SpIn B W' g Vs:=by
 have hh:∀ k t m,¬ X k→HasN W k t m→HasN W' k t m:=fun k t m hk h=>h.fr hf hk;refine⟨h.lo,hh _ _ _ hg h.has,fun i hi=> ?_,fun i hi=>⟨?_,?_⟩⟩
 ·obtain⟨s,hs⟩:=h.tags i hi;exact⟨s,(hf.cell (p:=⟨g,i*2,none⟩) h.has.lt hg).trans hs⟩
 ·exact(hf.cell (p:=⟨g,i*2+1,none⟩) h.has.lt hg).trans (h.ents i hi).1
 ·obtain⟨A',m',c',e,h3,h4⟩:=(h.ents i hi).2;refine⟨A',m',c',e,h3,fun h0=> ?_⟩;obtain⟨k,h5,h6,h7⟩:=h4 h0;exact⟨k,h5,h6,hh _ _ _ (he i hi A' m' c' e k ⟨h0,h5⟩) h7⟩
end Go.Proofs.YtpfmmbbggcghiaaGreatDoor
