/- Two servers beside blocks that are written into. -/
import Derived.Test.YtpfmmbbggcghiaaGreatDoorSrvF
set_option linter.unusedSimpArgs false
set_option linter.unusedVariables false
namespace Go.Proofs.YtpfmmbbggcghiaaGreatDoor
open Go.RowKit Go.Maps
structure DuoZ (Z:Nat→Prop) (w0 W:World) (a b:SvD):Prop where
 ex:∃ T,SrvR T a W∧SrvR T b W∧(∀ k,T k→w0.heap.size≤k)∧∀ k,Z k→T k
 ab:∀ k,SX a k→¬ SX b k
 za:∀ k,Z k→¬ SX a k∧¬ SX b k
 below:Below w0.heap.size w0 W
theorem Duo.z {w0 W:World} {a b:SvD} (h:Duo w0 W a b):DuoZ (fun _=>False) w0 W a b:=by
 obtain⟨T,h1,h2,h3⟩:=h.ex;exact⟨⟨T,h1,h2,h3,fun _ hk=>hk.elim⟩,h.ab,fun _ hk=>hk.elim,h.below⟩
theorem DuoZ.swap {Z:Nat→Prop} {w0 W:World} {a b:SvD} (h:DuoZ Z w0 W a b):DuoZ Z w0 W b a:=by
 obtain⟨T,h1,h2,h3,h4⟩:=h.ex;exact⟨⟨T,h2,h1,h3,h4⟩,fun k hb ha=>h.ab k ha hb,fun k hk=>⟨(h.za k hk).2,(h.za k hk).1⟩,h.below⟩
theorem DuoZ.low {Z:Nat→Prop} {w0 W:World} {a b:SvD} (h:DuoZ Z w0 W a b) (k:Nat) (hk:SX a k):w0.heap.size≤k∧k < W.heap.size:=by
 obtain⟨T,h1,_,h3,_⟩:=h.ex;exact⟨h3 k (h1.sub k hk),h1.low k (h1.sub k hk)⟩
theorem DuoZ.add {Z Z':Nat→Prop} {w0 W W':World} {a b:SvD} (h:DuoZ Z w0 W a b) (hb:Below W.heap.size W W') (h1:∀ k,Z' k→Z k∨(W.heap.size≤k∧k < W'.heap.size)):DuoZ Z' w0 W' a b:=by
 obtain⟨T,g1,g2,g3,g4⟩:=h.ex;have hl:∀ k,T k∨Z' k→k < W'.heap.size:=fun k hk=>by
  rcases hk with hk|hk
  ·exact Nat.lt_of_lt_of_le (g1.low k hk) hb.size
  ·rcases h1 k hk with hk|hk
   ·exact Nat.lt_of_lt_of_le (g1.low k (g4 k hk)) hb.size
   ·exact hk.2
 have hn:∀ k,T k∨Z' k→T k∨W.heap.size≤k:=fun k hk=>hk.elim .inl fun hk=>(h1 k hk).imp (g4 k) And.left;refine⟨⟨fun k=>T k∨Z' k,g1.step (Fr.of_below hb fun _=>False) (fun _ hk=>hk.elim) (fun _ _ hk=>hk) (fun _ hk=>.inl hk) hn hl,g2.step (Fr.of_below hb fun _=>False) (fun _ hk=>hk.elim) (fun _ _ hk=>hk) (fun _ hk=>.inl hk) hn hl,fun k hk=> ?_,fun _ hk=>.inr hk⟩,h.ab,fun k hk=> ?_,h.below.trans (hb.mono h.below.size)⟩
 ·rcases hn k hk with hk|hk
  ·exact g3 k hk
  ·exact Nat.le_trans h.below.size hk
 ·rcases h1 k hk with hk|hk
  ·exact h.za k hk
  ·exact⟨fun hx=>by have:=g1.low k (g1.sub k hx);omega,fun hx=>by have:=g2.low k (g2.sub k hx);omega⟩
theorem DuoZ.on {Z:Nat→Prop} {w0 W W':World} {a b:SvD} (h:DuoZ Z w0 W a b) (hb:Below W.heap.size W W'):DuoZ Z w0 W' a b:=h.add hb fun _ hk=>.inl hk
theorem DuoZ.turned {Z X:Nat→Prop} {w0 W W':World} {a b:SvD} (h:DuoZ Z w0 W a b) (hf:Fr W W' X) (hX:∀ k,X k→Z k):DuoZ Z w0 W' a b:=by
 obtain⟨T,g1,g2,g3,g4⟩:=h.ex;have hl:∀ k,T k→k < W'.heap.size:=fun k hk=>Nat.lt_of_lt_of_le (g1.low k hk) hf.size;have hn:∀(s:SvD) k,k=s.p∨SY s k→SX s k:=fun s k hk=>hk.elim .inl fun hk=>hk.x;exact⟨⟨T,g1.step hf (fun k hk=>g4 k (hX k hk)) (fun k hk hx=>(h.za k (hX k hx)).1 (hn a k hk)) (fun _ hk=>hk) (fun _ hk=>.inl hk) hl,g2.step hf (fun k hk=>g4 k (hX k hk)) (fun k hk hx=>(h.za k (hX k hx)).2 (hn b k hk)) (fun _ hk=>hk) (fun _ hk=>.inl hk) hl,g3,g4⟩,h.ab,h.za,Fr.below h.below hf h.below.size fun k hk=>g3 k (g4 k (hX k hk))⟩
theorem DuoZ.say {Z:Nat→Prop} {w0 W:World} {a b:SvD} {name key:ByteArray} {args:List ArgV} {vA u:Value} {lo hi:Nat} (h:DuoZ Z w0 W a b) (hH:Hands w0 args vA) (hu:ListOk Enc.argV W lo hi u args) (hhi:hi≤W.heap.size) (hA:Away (SX a) lo hi) (hn:name.size≤1048576) (hk:key.size≤1048576) (hc:a.cnt≤1000000000):
 Calls Tryz.prog 10 #[.pointer (some ⟨a.p,0,none⟩),.string name,.string key,u] W fun e w'=>Fr W w' (SX a)∧e=SaidE a name key args∧∃ a',Asked a a'∧DuoZ Z w0 w' a' b:=by
 obtain⟨T,h1,h2,h3,h4⟩:=h.ex;refine(srvSay_any T a name key args u lo W h1 hn hk hc w0.heap.size h3 h.below.size (fun W' hW'=>hH.ev W' (h.below.trans hW')) hH.inn hi hu hhi (fun k hk=>hA k hk.x)).mono ?_;rintro e w' ⟨rfl,hand,cnt,ps,f,_,hcn,hs,hf⟩;have hsub:∀ k,SY a k→T k:=fun k hk=>h1.sub k hk.x;refine⟨hf.mono fun k hk=>hk.x,rfl,a.turn hand cnt ps f,⟨rfl,rfl,rfl,hcn⟩,⟨T,hs,h2.step hf hsub (fun k hk hy=> ?_) (fun _ hk=>hk) (fun _ hk=>.inl hk) hs.low,h3,h4⟩,h.ab,h.za,Fr.below h.below hf h.below.size fun k hk=>h3 k (hsub k hk)⟩;refine h.ab k hy.x ?_;rcases hk with hk|hk
 ·exact .inl hk
 ·exact hk.x
theorem DuoZ.load {Z:Nat→Prop} {w0 W:World} {a b:SvD} {l:List Bun} {vl u:Value} {args:List ArgV} {vA:Value} {lo hi:Nat} (h:DuoZ Z w0 W a b) (hs:StNew a W) (hL:HandsL w0 l vl) (hH:Hands w0 args vA) (hu:ListOk Enc.bun W lo hi u l) (hhi:hi≤W.heap.size) (hA:Away (SX a) lo hi):
 Calls Tryz.prog 9 #[.pointer (some ⟨a.p,0,none⟩),u] W fun e w'=>Fr W w' (SX a)∧∃ a',First l a a' w' e∧DuoZ Z w0 w' a' b:=by
 obtain⟨T,h1,h2,h3,h4⟩:=h.ex;obtain⟨B0,hso⟩:=hs.open;refine(srvLoad_any T a B0 W.heap.size l u lo W h1 hso (by rw[hs.v,hs.vs];rfl) hs.Mm (by rw[hs.vs];decide) (Nat.le_refl _) w0.heap.size h3 h.below.size (fun W' hW'=>hH.ev W' (h.below.trans hW')) hi hu hhi hA hL.each hL.len).mono ?_
 rintro e w' ⟨hf,hres⟩;refine⟨hf,?_⟩;have hbel:Below w0.heap.size w0 w':=Fr.below h.below hf h.below.size fun k hk=>h3 k (h1.sub k hk);have hdb:∀ k,k=b.p∨SY b k→¬ SX a k:=fun k hk hx=>h.ab k hx (hk.elim (fun e=>.inl e) fun e=>e.x);rcases hres with⟨g1,g2,g3,_⟩|⟨g1,g2,a',g3,_,_,g4,g5,g6,_,g7,g8,_⟩
 ·exact⟨a,⟨rfl,Nat.le_refl _,by rw[g2,if_neg g1];rfl,by rw[if_neg g1,hs.v],fun h=>absurd h g1⟩,⟨T,g3,h2.step hf (fun k hk=>h1.sub k hk) hdb (fun _ hk=>hk) (fun _ hk=>.inl hk) g3.low,h3,h4⟩,h.ab,h.za,hbel⟩
 ·have hv1:a'.v=1:=by rw[g4,hs.v]
  have g2':e=.returned (.tuple #[.int .i64 1,.nilIface]):=by rw[g2,hs.v];rfl
  refine⟨a',⟨g3,by rw[g6];exact Nat.zero_le _,by rw[g2',g1];rfl,by rw[if_pos g1,hv1],fun _=>g5⟩,⟨_,g8,?_,fun k hk=> ?_,fun k hk=>.inl (h4 k hk)⟩,fun k hk hx=> ?_,fun k hk=>⟨fun hx=> ?_,(h.za k hk).2⟩,hbel⟩
  ·refine h2.step hf (fun k hk=>h1.sub k hk) hdb (fun _ hk=>.inl hk) (fun k hk=> ?_) g8.low;rcases hk with hk|hk
   ·exact .inl hk
   ·exact(g7 k hk).imp (fun hk=>h1.sub k hk) fun hk=>hk
  ·rcases hk with hk|hk
   ·exact h3 k hk
   ·rcases g7 k hk with hk|hk
    ·exact h3 k (h1.sub k hk)
    ·exact Nat.le_trans h.below.size hk
  ·rcases g7 k hk with hk|hk
   ·exact h.ab k hk hx
   ·have:=h2.low k (h2.sub k hx);omega
  ·rcases g7 k hx with hx|hx
   ·exact(h.za k hk).1 hx
   ·have:=h1.low k (h4 k hk);omega
theorem DuoZ.version {Z:Nat→Prop} {w0 W:World} {a b:SvD} (h:DuoZ Z w0 W a b):∃ T,SrvR T a W:=by
 obtain⟨T,h1,_⟩:=h.ex;exact⟨T,h1⟩
end Go.Proofs.YtpfmmbbggcghiaaGreatDoor
