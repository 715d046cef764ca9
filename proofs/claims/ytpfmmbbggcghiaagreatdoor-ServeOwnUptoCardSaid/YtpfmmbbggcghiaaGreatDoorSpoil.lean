/- The walk of linguisterlaw5.spoil: it writes into the entries of a bundle, and nowhere else. -/
import Derived.Test.YtpfmmbbggcghiaaGreatDoorStoreM
set_option linter.unusedSimpArgs false
set_option linter.unusedVariables false
namespace Go.Proofs.YtpfmmbbggcghiaaGreatDoor
open Go.RowKit
def HasN (w:World) (g:Nat) (t:TypeId) (m:Nat):Prop:=∃ cur:Array Value,w.heap[g]? =some (.cells cur t (0,0))∧m≤cur.size
theorem HasN.cell {w:World} {g m:Nat} {t:TypeId} (h:HasN w g t m) (q:Nat) (hq:q < m):(∃ u,w.cell? ⟨g,q,none⟩=some u)∧w.frozen? ⟨g,q,none⟩=false:=by
 obtain⟨cur,hh,hc⟩:=h;refine⟨⟨cur[q]'(by omega),?_⟩,?_⟩
 ·rw[cell_of_row w g q cur t (0,0) hh,Array.getElem?_eq_getElem (by omega)]
 ·simp[World.frozen?,hh]
theorem HasN.set {w:World} {g m:Nat} {t:TypeId} (h:HasN w g t m) (q:Nat) (u:Value):HasN (w.setCell ⟨g,q,none⟩ u) g t m:=by
 obtain⟨cur,hh,hc⟩:=h;refine⟨cur.setIfInBounds q u,?_,by simpa using hc⟩
 simp[World.setCell,Array.getElem?_modify,hh]
theorem HasN.far {w:World} {g k m q:Nat} {t:TypeId} (h:HasN w g t m) (hk:g≠k) (u:Value):HasN (w.setCell ⟨k,q,none⟩ u) g t m:=by
 obtain⟨cur,hh,hc⟩:=h;exact⟨cur,(Below.heap_setCell w ⟨k,q,none⟩ u g hk).trans hh,hc⟩
theorem HasN.below {w w':World} {g m B:Nat} {t:TypeId} (h:HasN w g t m) (hb:Below B w w') (hg:g < B):HasN w' g t m:=by
 obtain⟨cur,hh,hc⟩:=h;exact⟨cur,(hb.block g hg).trans hh,hc⟩
theorem HasN.of_own {base:Nat} {w:World} {e:TypeId} {sz n c:Nat} {A:Option Addr} {xs:List Value} (h:w.ownsRow base e sz (.slice A n c) n xs) (hn:0 < n):∃ g,A=some ⟨g,0,none⟩∧base≤g∧g < w.heap.size∧HasN w g e (n*sz):=by
 rcases h.2 with⟨_,h0⟩|⟨g,cap,cur,hv,hb,hh,hc,hm,hcs,_⟩
 ·omega
 ·injection hv with h1 h2 h3;subst h3;exact⟨g,h1,hb,Blk.lt (t:=e) (cs:=cur) hh,cur,hh,by rw[hcs];exact Nat.mul_le_mul_right _ hc⟩
end Go.Proofs.YtpfmmbbggcghiaaGreatDoor
