/- The walk of linguisterlaw5.spoil, over a block that has so many entries. -/
import Derived.Test.YtpfmmbbggcghiaaGreatDoorSpoil
set_option linter.unusedSimpArgs false
set_option linter.unusedVariables false
namespace Go.Proofs.YtpfmmbbggcghiaaGreatDoor
open Go.RowKit
open Lib (hid)
def AtB (A:Option Addr) (n k:Nat):Prop:=0 < n∧A=some ⟨k,0,none⟩
theorem HasN.lt {w:World} {g m:Nat} {t:TypeId} (h:HasN w g t m):g < w.heap.size:=by
 obtain⟨cur,hh,_⟩:=h;exact Blk.lt (t:=t) (cs:=cur) hh
theorem HasN.fr {w w':World} {g m:Nat} {t:TypeId} {X:Nat→Prop} (h:HasN w g t m) (hf:Fr w w' X) (hX:¬ X g):HasN w' g t m:=by
 have hl:=h.lt;obtain⟨cur,hh,hc⟩:=h;exact⟨cur,(hf.block g hl hX).trans hh,hc⟩
theorem HasN.set' {W:World} {g k m q:Nat} {t:TypeId} (h:HasN W g t m) (u:Value):HasN (W.setCell ⟨k,q,none⟩ u) g t m:=by
 by_cases e:g=k
 ·subst e;exact h.set q u
 ·exact h.far e u
def Keeps (w w':World):Prop:=∀ g t m,HasN w g t m→HasN w' g t m
theorem Keeps.refl (w:World):Keeps w w:=fun _ _ _ h=>h
theorem Keeps.trans {a b c:World} (h:Keeps a b) (k:Keeps b c):Keeps a c:=fun g t m x=>k g t m (h g t m x)
theorem Keeps.set {a b:World} (h:Keeps a b) (k q:Nat) (u:Value):Keeps a (b.setCell ⟨k,q,none⟩ u):=fun g t m x=>(h g t m x).set' u
theorem Keeps.below {a b:World} (h:Below a.heap.size a b):Keeps a b:=fun _ _ _ x=>x.below h x.lt
set_option maxHeartbeats 1600000 in
theorem spoil_has (tg x:ByteArray) (A:Option Addr) (n c:Nat) (w:World) (h:0 < n→∃ g,A=some ⟨g,0,none⟩∧g < w.heap.size∧HasN w g 70 (n*2)) (hn:n≤4398046511104):
 Calls Tryz.prog 22 #[.agg #[.string tg,.slice A n c],.string x] w fun e w'=>e=.returned (.tuple #[])∧Fr w w' (AtB A n)∧Keeps w w':=by
 have HG:=hid h;have HNb:Hid (¬ AtB A n w.heap.size):=hid fun e=>by obtain⟨h0,e⟩:=e;obtain⟨g,h1,h2,_⟩:=h h0;rw[e]at h1;injection h1 with h1;injection h1 with h1;omega
 clear h
 go_enter Tryz.func22,Tryz.ntmps22
 go_wp2_with fail
 obtain⟨W1,eW1⟩:∃ W1,W1=w.alloc (.cells #[.string tg,.slice A n c] 49):=⟨_,rfl⟩;have mb:Blk W1 w.heap.size 49 #[.string tg,.slice A n c]:=by rw[eW1];exact Blk.new _ _ _
 have hb1:Below w.heap.size w W1:=by rw[eW1];exact(Below.refl _ _).alloc (Nat.le_refl _) _
 have HM:=hid mb;have HB1:=hid hb1;have HW1:=hid eW1;rw[←HW1.out];clear eW1 mb hb1 HW1
 go_loopw [4] (fun i wr=>∃ j:Nat,j≤n∧i=.int .i64 j∧Fr W1 wr (AtB A n)∧Keeps W1 wr∧∀ g,A=some ⟨g,0,none⟩→0 < n→HasN wr g 70 (n*2)) (fun i _=>n - (intOf i).toNat)
 case atStart=>exact⟨0,Nat.zero_le _,rfl,Fr.refl _ _,Keeps.refl _,fun g hg h0=>by
  obtain⟨g',e,hlt,hh⟩:=HG.out h0;have:g'=g:=by rw[e]at hg;injection hg with hg;injection hg
  subst this;exact hh.below HB1.out hlt⟩
 case round=>
  obtain⟨j,hj,rfl,hF,hKp,hR⟩:=hrel;have hml:=HM.out.lt;have hk:wr.cell? ⟨w.heap.size,1,none⟩=some (.slice A n c):=(hF.cell (p:=⟨w.heap.size,1,none⟩) hml HNb.out).trans ((HM.out.cell 1).trans rfl);have HF:=hid hF;have HKp:=hid hKp;have HR:=hid hR;clear hF hR hKp
  by_cases hlt:j < n
  ·obtain⟨g,rfl,hgl,_⟩:=HG.out (by omega)
   have hh:=HR.out g rfl (by omega)
   obtain⟨⟨u0,h0⟩,f0⟩:=hh.cell (j*2) (by omega)
   obtain⟨⟨u1,h1⟩,f1⟩:=hh.cell (j*2+1) (by omega)
   have HS:Hid (Fr W1 ((wr.setCell ⟨g,j*2,none⟩ (.string x)).setCell ⟨g,j*2+1,none⟩ (.string x)) (AtB (some ⟨g,0,none⟩) n)):=hid ((HF.out.setCell (p:=⟨g,j*2,none⟩) (.inl ⟨by omega,rfl⟩) _).setCell (p:=⟨g,j*2+1,none⟩) (.inl ⟨by omega,rfl⟩) _)
   have HH:=hid ((hh.set (j*2) (.string x)).set (j*2+1) (.string x));clear hh;have i1:(0:Int)≤(j:Int):=Int.natCast_nonneg j;have i2:(j:Int) < (n:Int):=by omega
   go_wp2_with fail
   refine⟨⟨j+1,by omega,by go_num,HS.out,(HKp.out.set _ _ _).set _ _ _,fun g' hg' _=> ?_⟩,by simp[intOf];omega⟩
   injection hg' with hg';injection hg' with hg';subst hg';exact HH.out
  ·go_wp2_with fail
   go_end0
   exact⟨rfl,(Fr.of_below HB1.out _).trans HF.out,(Keeps.below HB1.out).trans HKp.out⟩
end Go.Proofs.YtpfmmbbggcghiaaGreatDoor
