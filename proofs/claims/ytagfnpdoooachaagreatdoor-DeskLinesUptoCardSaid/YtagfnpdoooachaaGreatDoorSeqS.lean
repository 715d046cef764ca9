/- A range over a function whose iterator keeps state of its own in cells (a captured variable that it writes): the law for the caller, at a loop that ends by itself. -/
import Derived.RangeFuncNested
import Derived.RangeFuncBound
import Derived.Test.YtagfnpdoooachaaGreatDoorTagS
import Derived.OwnWalkIn
import Derived.LoopNIn
import Derived.LoopIn
import Derived.Shelf.RegionOpen
import Derived.Test.YtagfnpdoooachaaGreatDoorShelf
set_option linter.unusedSimpArgs false
set_option linter.unusedVariables false
namespace Go.Proofs.YtagfnpdoooachaaGreatDoor
open Go.RowKit
open Lib (hid)
def SeqT {α:Type} (F:Fence) (n:Nat) (P:Program) (g:Nat) (lb:Array Value) (enc:α→Value) (xs:List α) (St Kp:World→World→Prop) (w:World):Prop:=
 ∀(l:Nat) (J:Nat→World→Prop) (W:World),Kp w W→AbidesFrom W.heap.size J→(∀ k A B,J k A→St A B→J k B)→
  (∀ k (hk:k < xs.length) A,J k A→YieldAt F (n - 1) P l #[enc xs[k]] A fun e B=>e=.returned (.bool true)∧J (k+1) B∧Kp A B)→
  J 0 W→CallsIn F n P g (#[.func (.yield l) #[] #[]]++lb) W fun e B=>(∃ v,e=.returned v)∧J xs.length B
def roundT (B:Nat) (Kp:World→World→Prop) (I:Nat→World→Prop) (k:Nat) (W:World):Exit→Act→World→Prop
 | .normal,_,W'=>KeepsFrom B W W'∧Kp W W'∧I k W'
 | _,_,_=>False
theorem zip_one (p:Tmp) (v:Value) (t:Array Value):((#[p]).zip #[v]).foldl (fun tmps (q,u)=>tmps.setIfInBounds q u) t=t.setIfInBounds p v:=by simp
variable {F:Fence} {n:Nat} {P:Program}
theorem range_inner {α:Type} {g:Operand} {p:Tmp} {assign body:Code} {Q:Exit→Act→World→Prop} {a:Act} {w:World}
 {l₀:Nat} {r₀:Loop} (hro:F.round=some l₀) (hl₀:w.heap[l₀]? =some (.loop r₀)) (h1:1≤n) {gf:Nat} {lb:Array Value} (hg:a.eval g=.func (.func gf) #[] lb) (hFg:F.fn gf) (eg:∀ args w,(callFunc gf args).run P w=.ok (.enter gf args) w)
 {enc:α→Value} {xs:List α} {St Kp:World→World→Prop} {w0:World} (hseq:SeqT F (n - 1) P gf lb enc xs St Kp w0)
 (hK0:Kp w0 w) (hKt:∀ {A B C:World},Kp A B→Kp B C→Kp A C) (hKa:∀(W:World) (o:Obj),w.heap.size≤W.heap.size→Kp W (W.alloc o)) (hKb:∀(W:World) (l:Nat) (o o':Obj),w.heap.size≤l→W.heap[l]? =some o→o.isCells=false→o.isWalk=false→Kp W (W.putObj l o'))
 (hSt:∀ A B,St A B→∀ i,w.heap.size≤i→B.heap[i]? =A.heap[i]?)
 (I:Nat→World→Prop) (hI:OwnFrom w.heap.size I) (hIs:∀ k A B,I k A→St A B→I k B) (h0:I 0 w) (Ax:Nat→Act→World→Prop) (hAx:∀ k a',OwnFrom w.heap.size (fun(_:Unit) W=>Ax k a' W))
 (hassign:∀(l k:Nat) (hk:k < xs.length) (W:World) (K:Act→World→Prop),I k W→(∀ a' W',KeepsFrom w.heap.size W W'→Kp W W'→I k W'→Ax k a' W'→K a' W')→
   assign.wpIn (F.inRound l) (n - 1 - 1) P (Exit.then K (fun _ _ _=>False)) { tmps:=a.tmps.setIfInBounds p (enc xs[k]),defers:=[] } W)
 (hbody:∀(l k:Nat) (hk:k < xs.length) (a':Act) (W:World),w.heap.size≤l→(∃ r,W.heap[l]? =some (.loop r))→I k W→Ax k a' W→body.wpIn (F.inRound l) (n - 1 - 1) P (roundT w.heap.size Kp I (k+1) W) a' W)
 (hdone:∀(W:World),I xs.length W→Q .normal a W):
 (Code.rangeFunc g #[p] assign body).wpIn F n P Q a w:=by
 refine wpIn_rangeFunc fun fn hfn=> ?_;rw[hro];obtain⟨rec,hrec⟩:∃ rec:LoopState→Loop,rec=fun st=> { state:=st,pending:=none,fn,tmps:=a.tmps,params:=#[p],assign,body,defers:=r₀.defers }:=⟨_,rfl⟩;obtain⟨W1,hW1⟩:∃ W1,w.alloc (.loop (rec .ready))=W1:=⟨_,rfl⟩;have hL1:W1.heap[w.heap.size]? =some (.loop (rec .ready)):=by rw[←hW1];exact World.alloc_heap_new w _
 have hs1:W1.heap.size=w.heap.size+1:=by rw[←hW1];simp
 have hI1:I 0 W1:=by rw[←hW1];exact hI.alloc _ h0
 have hK1:Kp w0 W1:=by rw[←hW1];exact hKt hK0 (hKa w _ (Nat.le_refl _))
 refine⟨w.heap.size,[],W1,{ target:=.fn (.func gf) lb,args:=#[.func (.yield w.heap.size) #[] #[]] },W1,gf,#[.func (.yield w.heap.size) #[] #[]]++lb,W1,?_,?_,?_,?_,fun _=>h1,?_⟩
 ·rw[←hW1,hrec];exact run_enterLoop_inner hl₀ _ _ _ _ _
 ·simp only[resolve,hg];simp[go_sem]
 ·intro f' hf';simp[Target.leads]at hf';subst hf';exact hFg
 ·simp[invoke,go_sem,eg]
 ·refine(hseq w.heap.size (fun k W=>I k W∧W.heap[w.heap.size]? =some (.loop (rec .ready))) W1 hK1 ?_ ?_ ?_ ⟨hI1,hL1⟩).mono ?_
  ·rintro k A B row ⟨hi,hl⟩ hgr hr;have hr':∀ r,row=some r→w.heap.size≤r∧∃ o:Obj,A.heap[r]? =some o∧o.isCells=false:=fun r e=>by
    obtain⟨hB,o,ho,hw⟩:=hr r e;exact⟨by omega,o,ho,Obj.not_cells_of_walk hw⟩
   exact⟨hI k A B row hi hgr hr',(grownBy_keeps hgr (fun r e=>(hr r e).2) hl rfl).trans hl⟩
  ·rintro k A B ⟨hi,hl⟩ hst;exact⟨hIs k A B hi hst,(hSt A B hst _ (Nat.le_refl _)).trans hl⟩
  ·rintro k hk W ⟨hi,hl⟩;have hy:=run_yield (P:=P) (args:=#[enc xs[k]]) hl (by rw[hrec];rfl)
   rw[hrec]at hy
   replace hy:=hy.trans (congrArg (fun t=>Result.ok (Next.round _ fn t assign body) W) (zip_one p (enc xs[k]) a.tmps))
   refine⟨fn,_,assign,body,hy,roundIn_of_wpIn hfn (hassign _ k hk W _ hi ?_)⟩;clear hy;intro a' Wa hkf hkp hia hax;have hla:=hkf.same _ _ (Nat.le_refl _) hl rfl;have hlt:w.heap.size < Wa.heap.size:=(Array.getElem?_eq_some_iff.1 hla).1;refine⟨_,run_beginRound hla (by rw[hrec]),?_⟩
   have hl2:(Wa.putObj w.heap.size (.loop { rec .ready with state:=.busy })).heap[w.heap.size]? =some (.loop { rec .ready with state:=.busy }):=World.putObj_heap_same hlt;have hkp2:Kp Wa (Wa.putObj w.heap.size (.loop { rec .ready with state:=.busy })):=hKb _ _ _ _ (Nat.le_refl _) hla rfl rfl;refine wpIn_mono (hbody _ k hk a' _ (Nat.le_refl _) ⟨_,hl2⟩ (hI.putObj _ hia (Nat.le_refl _) hla rfl) ((hAx k a').putObj (s:=()) _ hax (Nat.le_refl _) hla rfl)) ?_;rintro e a3 W3 hp;cases e with
   | normal=>
     obtain⟨hk3,hkp3,hi3⟩:=hp;have hl3:=hk3.same _ _ (Nat.le_refl _) hl2 rfl;have hend:=run_endRound (P:=P) none hl3;have hl4:(W3.putObj w.heap.size (.loop (rec .ready))).heap[w.heap.size]? =some (.loop (rec .ready)):=World.putObj_heap_same (Array.getElem?_eq_some_iff.1 hl3).1;rw[hrec]at hend hl4 hl3;refine⟨_,_,hend,rfl,⟨hI.putObj _ hi3 (Nat.le_refl _) hl3 rfl,?_⟩,hKt hkp (hKt (hKt hkp2 hkp3) (hKb _ _ _ _ (Nat.le_refl _) hl3 rfl rfl))⟩;rw[hrec];exact hl4
   | ret=>exact hp.elim
   | exit id=>exact hp.elim
   | goto t=>exact hp.elim
   | panic ch=>exact hp.elim
   | outgrown=>exact hp.elim
  ·rintro e W2 ⟨⟨v,rfl⟩,hi,hl⟩;exact⟨none,_,by have:=run_endLoop (P:=P) hl (by rw[hrec];simp);rw[hrec]at this;exact this,hdone _ (hI.putObj _ hi (Nat.le_refl _) hl rfl)⟩
theorem range_outer {α:Type} {g:Operand} {p:Tmp} {assign body:Code} {Q:Exit→Act→World→Prop} {a:Act} {w:World}
 (hro:F.round=none) (h1:1≤n) {gf:Nat} {lb:Array Value} (hg:a.eval g=.func (.func gf) #[] lb) (hFg:F.fn gf) (eg:∀ args w,(callFunc gf args).run P w=.ok (.enter gf args) w)
 {enc:α→Value} {xs:List α} {St Kp:World→World→Prop} {w0:World} (hseq:SeqT F (n - 1) P gf lb enc xs St Kp w0)
 (hK0:Kp w0 w) (hKt:∀ {A B C:World},Kp A B→Kp B C→Kp A C) (hKa:∀(W:World) (o:Obj),w.heap.size≤W.heap.size→Kp W (W.alloc o)) (hKb:∀(W:World) (l:Nat) (o o':Obj),w.heap.size≤l→W.heap[l]? =some o→o.isCells=false→o.isWalk=false→Kp W (W.putObj l o'))
 (hSt:∀ A B,St A B→∀ i,w.heap.size≤i→B.heap[i]? =A.heap[i]?)
 (I:Nat→World→Prop) (hI:OwnFrom w.heap.size I) (hIs:∀ k A B,I k A→St A B→I k B) (h0:I 0 w) (Ax:Nat→Act→World→Prop) (hAx:∀ k a',OwnFrom w.heap.size (fun(_:Unit) W=>Ax k a' W))
 (hassign:∀(l k:Nat) (hk:k < xs.length) (W:World) (K:Act→World→Prop),I k W→(∀ a' W',KeepsFrom w.heap.size W W'→Kp W W'→I k W'→Ax k a' W'→K a' W')→
   assign.wpIn (F.inRound l) (n - 1 - 1) P (Exit.then K (fun _ _ _=>False)) { tmps:=a.tmps.setIfInBounds p (enc xs[k]),defers:=[] } W)
 (hbody:∀(l k:Nat) (hk:k < xs.length) (a':Act) (W:World),w.heap.size≤l→(∃ r,W.heap[l]? =some (.loop r))→I k W→Ax k a' W→body.wpIn (F.inRound l) (n - 1 - 1) P (roundT w.heap.size Kp I (k+1) W) a' W)
 (hdone:∀(D:Nat) (W:World),w.heap.size≤D→I xs.length W→W.heap[D]? =some (.deferred (some []))→Q .normal { a with defers:= { target:=.collected D,args:=#[] }::a.defers } W):
 (Code.rangeFunc g #[p] assign body).wpIn F n P Q a w:=by
 refine wpIn_rangeFunc fun fn hfn=> ?_;rw[hro];obtain⟨rec,hrec⟩:∃ rec:LoopState→Loop,rec=fun st=> { state:=st,pending:=none,fn,tmps:=a.tmps,params:=#[p],assign,body,defers:=w.heap.size }:=⟨_,rfl⟩;obtain⟨W1,hW1⟩:∃ W1,(w.alloc (.deferred (some []))).alloc (.loop (rec .ready))=W1:=⟨_,rfl⟩;have hs1:W1.heap.size=w.heap.size+2:=by rw[←hW1];simp
 have hL1:W1.heap[w.heap.size+1]? =some (.loop (rec .ready)):=by
  rw[←hW1];have:=World.alloc_heap_new (w.alloc (.deferred (some []))) (.loop (rec .ready));rwa[World.size_alloc]at this
 have hD1:W1.heap[w.heap.size]? =some (.deferred (some [])):=by
  rw[←hW1];exact(Below.heap_alloc _ _ _ (by simp)).trans (World.alloc_heap_new w _)
 have hI1:I 0 W1:=by rw[←hW1];exact hI.alloc _ (hI.alloc _ h0)
 have hK1:Kp w0 W1:=by rw[←hW1];exact hKt hK0 (hKt (hKa w _ (Nat.le_refl _)) (hKa _ _ (by simp)))
 refine⟨w.heap.size+1,[{ target:=.collected w.heap.size,args:=#[] }],W1,{ target:=.fn (.func gf) lb,args:=#[.func (.yield (w.heap.size+1)) #[] #[]] },W1,gf,#[.func (.yield (w.heap.size+1)) #[] #[]]++lb,W1,?_,?_,?_,?_,fun _=>h1,?_⟩
 ·rw[←hW1,hrec];exact run_enterLoop_outer _ _ _ _ _
 ·simp only[resolve,hg];simp[go_sem]
 ·intro f' hf';simp[Target.leads]at hf';subst hf';exact hFg
 ·simp[invoke,go_sem,eg]
 ·refine(hseq (w.heap.size+1) (fun k W=>I k W∧W.heap[w.heap.size+1]? =some (.loop (rec .ready))∧W.heap[w.heap.size]? =some (.deferred (some []))) W1 hK1 ?_ ?_ ?_ ⟨hI1,hL1,hD1⟩).mono ?_
  ·rintro k A B row ⟨hi,hl,hd⟩ hgr hr;have hr':∀ r,row=some r→w.heap.size≤r∧∃ o:Obj,A.heap[r]? =some o∧o.isCells=false:=fun r e=>by
    obtain⟨hB,o,ho,hw⟩:=hr r e;exact⟨by omega,o,ho,Obj.not_cells_of_walk hw⟩
   exact⟨hI k A B row hi hgr hr',(grownBy_keeps hgr (fun r e=>(hr r e).2) hl rfl).trans hl,(grownBy_keeps hgr (fun r e=>(hr r e).2) hd rfl).trans hd⟩
  ·rintro k A B ⟨hi,hl,hd⟩ hst;exact⟨hIs k A B hi hst,(hSt A B hst _ (by omega)).trans hl,(hSt A B hst _ (Nat.le_refl _)).trans hd⟩
  ·rintro k hk W ⟨hi,hl,hd⟩;have hy:=run_yield (P:=P) (args:=#[enc xs[k]]) hl (by rw[hrec];rfl)
   rw[hrec]at hy
   replace hy:=hy.trans (congrArg (fun t=>Result.ok (Next.round _ fn t assign body) W) (zip_one p (enc xs[k]) a.tmps))
   refine⟨fn,_,assign,body,hy,roundIn_of_wpIn hfn (hassign _ k hk W _ hi ?_)⟩;clear hy;intro a' Wa hkf hkp hia hax;have hla:=hkf.same _ _ (by omega) hl rfl
   have hda:=hkf.same _ _ (Nat.le_refl _) hd rfl;have hlt:w.heap.size+1 < Wa.heap.size:=(Array.getElem?_eq_some_iff.1 hla).1;refine⟨_,run_beginRound hla (by rw[hrec]),?_⟩
   have hl2:(Wa.putObj (w.heap.size+1) (.loop { rec .ready with state:=.busy })).heap[w.heap.size+1]? =some (.loop { rec .ready with state:=.busy }):=World.putObj_heap_same hlt;have hd2:(Wa.putObj (w.heap.size+1) (.loop { rec .ready with state:=.busy })).heap[w.heap.size]? =some (.deferred (some [])):=(World.putObj_heap_other (by omega)).trans hda
   have hkp2:Kp Wa (Wa.putObj (w.heap.size+1) (.loop { rec .ready with state:=.busy })):=hKb _ _ _ _ (by omega) hla rfl rfl
   refine wpIn_mono (hbody _ k hk a' _ (by omega) ⟨_,hl2⟩ (hI.putObj _ hia (by omega) hla rfl) ((hAx k a').putObj (s:=()) _ hax (by omega) hla rfl)) ?_
   rintro e a3 W3 hp;cases e with
   | normal=>
     obtain⟨hk3,hkp3,hi3⟩:=hp;have hl3:=hk3.same _ _ (by omega) hl2 rfl
     have hd3:=hk3.same _ _ (Nat.le_refl _) hd2 rfl;have hend:=run_endRound (P:=P) none hl3;have hl4:(W3.putObj (w.heap.size+1) (.loop (rec .ready))).heap[w.heap.size+1]? =some (.loop (rec .ready)):=World.putObj_heap_same (Array.getElem?_eq_some_iff.1 hl3).1;rw[hrec]at hend hl4 hl3;refine⟨_,_,hend,rfl,⟨hI.putObj _ hi3 (by omega) hl3 rfl,?_,(World.putObj_heap_other (by omega)).trans hd3⟩,hKt hkp (hKt (hKt hkp2 hkp3) (hKb _ _ _ _ (by omega) hl3 rfl rfl))⟩
     rw[hrec];exact hl4
   | ret=>exact hp.elim
   | exit id=>exact hp.elim
   | goto t=>exact hp.elim
   | panic ch=>exact hp.elim
   | outgrown=>exact hp.elim
  ·rintro e W2 ⟨⟨v,rfl⟩,hi,hl,hd⟩;exact⟨none,_,by have:=run_endLoop (P:=P) hl (by rw[hrec];simp);rw[hrec]at this;exact this,hdone _ _ (Nat.le_refl _) (hI.putObj _ hi (by omega) hl rfl) ((World.putObj_heap_other (by omega)).trans hd)⟩
end Go.Proofs.YtagfnpdoooachaaGreatDoor
namespace Go.Proofs.YtagfnpdoooachaaGreatDoor
open Go.RowKit Go.Shelf
open Lib (hid)
attribute [local go_sem] Oper.semAt_some
def pcsF (sep:List UInt8):Nat→List UInt8→List (List UInt8)
 | 0,s=>[s]
 | k+1,s=>if Lib.index s sep= -1 then [s]else s.take (Lib.index s sep).toNat::pcsF sep k (s.drop ((Lib.index s sep).toNat+sep.length))
def pcsS (sep s:List UInt8):List (List UInt8):=pcsF sep s.length s
theorem index_pos {s sep:List UInt8} (h:Lib.index s sep≠ -1):0≤Lib.index s sep:=by have:=Lib.index_ge s sep;omega
theorem pcsF_fuel (sep:List UInt8) (hs:1≤sep.length):∀(f g:Nat) (s:List UInt8),s.length≤f→s.length≤g→pcsF sep f s=pcsF sep g s
 | 0,0,_,_,_=>rfl
 | 0,g+1,s,hf,_=>by
   have e:Lib.index s sep= -1:=by
    refine Decidable.byContradiction fun h=> ?_;have h1:=Lib.index_room s sep (index_pos h);have:=index_pos h;omega
   unfold pcsF;rw[if_pos e]
 | f+1,0,s,_,hg=>by
   have e:Lib.index s sep= -1:=by
    refine Decidable.byContradiction fun h=> ?_;have h1:=Lib.index_room s sep (index_pos h);have:=index_pos h;omega
   unfold pcsF;rw[if_pos e]
 | f+1,g+1,s,hf,hg=>by
   unfold pcsF
   by_cases e:Lib.index s sep= -1
   ·rw[if_pos e,if_pos e]
   ·have h1:=Lib.index_room s sep (index_pos e);have h0:=index_pos e;rw[if_neg e,if_neg e,pcsF_fuel sep hs f g _ (by rw[List.length_drop];omega) (by rw[List.length_drop];omega)]
theorem pcs_end {sep s:List UInt8} (h:Lib.index s sep= -1):pcsS sep s=[s]:=by
 unfold pcsS;cases s with
 | nil=>rfl
 | cons a s=>rw[List.length_cons];unfold pcsF;rw[if_pos h]
theorem pcs_step {sep s:List UInt8} (hs:1≤sep.length) (h:Lib.index s sep≠ -1):pcsS sep s=s.take (Lib.index s sep).toNat::pcsS sep (s.drop ((Lib.index s sep).toNat+sep.length)):=by
 have h1:=Lib.index_room s sep (index_pos h);have h0:=index_pos h;unfold pcsS;cases s with
 | nil=>exact absurd h1 (by simp;omega)
 | cons a s=>
   rw[List.length_cons,show pcsF sep (s.length+1) (a::s)=(if Lib.index (a::s) sep= -1 then [a::s]else(a::s).take (Lib.index (a::s) sep).toNat::pcsF sep s.length ((a::s).drop ((Lib.index (a::s) sep).toNat+sep.length)))from rfl,if_neg h]
   congr 1
   exact pcsF_fuel sep hs _ _ _ (by rw[List.length_drop,List.length_cons];omega) (Nat.le_refl _)
theorem pcs_ne (sep s:List UInt8):0 < (pcsS sep s).length:=by
 unfold pcsS;cases s.length with
 | zero=>simp[pcsF]
 | succ n=>unfold pcsF;split <;> simp
theorem pcs_len {sep:List UInt8} (hs:1≤sep.length):∀(n:Nat) (s:List UInt8),s.length≤n→∀ x∈pcsS sep s,x.length≤s.length
 | n,s,hn,x,hx=>by
   by_cases h:Lib.index s sep= -1
   ·rw[pcs_end h,List.mem_singleton]at hx;rw[hx];exact Nat.le_refl _
   ·have h1:=Lib.index_room s sep (index_pos h);have h0:=index_pos h;rw[pcs_step hs h]at hx;rcases List.mem_cons.1 hx with rfl|hx
    ·rw[List.length_take];omega
    ·cases n with
     | zero=>omega
     | succ n=>
       have:=pcs_len hs n _ (by rw[List.length_drop];omega) x hx
       rw[List.length_drop]at this;omega
theorem pcs_count {sep:List UInt8} (hs:1≤sep.length):∀(n:Nat) (s:List UInt8),s.length≤n→(pcsS sep s).length≤s.length+1
 | n,s,hn=>by
   by_cases h:Lib.index s sep= -1
   ·rw[pcs_end h];simp
   ·have h1:=Lib.index_room s sep (index_pos h);have h0:=index_pos h;rw[pcs_step hs h,List.length_cons];cases n with
    | zero=>omega
    | succ n=>
      have:=pcs_count hs n (s.drop ((Lib.index s sep).toNat+sep.length)) (by rw[List.length_drop];omega)
      rw[List.length_drop]at this;omega
def encS (x:List UInt8):Value:=.string (str x)
structure SqB (W:World) (B:Nat) (s sep:List UInt8):Prop where
 text:Blk W B 9 #[.string (str s)]
 sep:Blk W (B+1) 9 #[.string (str sep)]
 save:Blk W (B+2) 3 #[.int .i64 0]
 max:∃ m:Int,W.cell? ⟨3,0,none⟩=some (.int .i64 m)
structure SqK (B:Nat) (X Y:World):Prop where
 size:X.heap.size≤Y.heap.size
 same:∀ i,i=3∨(B≤i∧i < B+3)→i < X.heap.size→Y.heap[i]? =X.heap[i]?
theorem SqK.refl (B:Nat) (X:World):SqK B X X:=⟨Nat.le_refl _,fun _ _ _=>rfl⟩
theorem SqK.trans {B:Nat} {X Y Z:World} (h:SqK B X Y) (k:SqK B Y Z):SqK B X Z:=⟨Nat.le_trans h.size k.size,fun i hi hl=>(k.same i hi (Nat.lt_of_lt_of_le hl h.size)).trans (h.same i hi hl)⟩
theorem SqB.keep {B:Nat} {s sep:List UInt8} {X Y:World} (h:SqB X B s sep) (k:SqK B X Y):SqB Y B s sep:=by
 refine⟨(k.same B (.inr ⟨Nat.le_refl _,by omega⟩) h.text.lt).trans h.text,(k.same (B+1) (.inr ⟨by omega,by omega⟩) h.sep.lt).trans h.sep,(k.same (B+2) (.inr ⟨by omega,by omega⟩) h.save.lt).trans h.save,?_⟩
 obtain⟨m,hm⟩:=h.max;refine⟨m,?_⟩;have hlt:3 < X.heap.size:=by
  unfold World.cell? at hm;cases ho:X.heap[3]? with
  | none=>simp[ho]at hm
  | some o=>exact(Array.getElem?_eq_some_iff.1 ho).1
 have e:=k.same _ (.inl rfl) hlt;unfold World.cell? at hm ⊢;simp only at hm ⊢;rw[e];exact hm
def SqS (B:Nat) (X Y:World):Prop:=∃ v,Y=X.setCell ⟨B,0,none⟩ v
def leftS (B:Nat) (W:World):Nat:=match W.cell? ⟨B,0,none⟩with|some (.string s)=>s.size|_=>0
theorem left_eq {B:Nat} {W:World} {s sep:List UInt8} (h:SqB W B s sep):leftS B W=s.length:=by
 unfold leftS;rw[(h.text.cell 0).trans (show _=some (.string (str s))from rfl)];exact str_size s
theorem SqB.set {B:Nat} {s sep r:List UInt8} {W:World} (h:SqB W B s sep) (hB:3 < B):SqB (W.setCell ⟨B,0,none⟩ (.string (str r))) B r sep:=by
 refine⟨h.text.set_ 0 _,h.sep.far (by show B+1≠B;omega) _,h.save.far (by show B+2≠B;omega) _,?_⟩
 obtain⟨m,hm⟩:=h.max;refine⟨m,?_⟩;have e:=Below.heap_setCell W ⟨B,0,none⟩ (.string (str r)) 3 (by show 3≠B;omega)
 unfold World.cell? at hm ⊢;simp only at hm ⊢;rw[e];exact hm
theorem bts_ext (a:ByteArray) (i j:Nat):bts (a.extract i j)=((bts a).take j).drop i:=by
 unfold bts;rw[ByteArray.data_extract,Array.toList_extract];simp[List.drop_take]
theorem str_take (s:List UInt8) (i:Nat):(str s).extract 0 i=str (s.take i):=bts_inj (by rw[bts_ext,bts_str,bts_str,List.drop_zero])
theorem str_drop (s:List UInt8) (i:Nat):(str s).extract i (str s).size=str (s.drop i):=bts_inj (by rw[bts_ext,bts_str,bts_str,str_size,List.take_length])
set_option maxRecDepth 100000 in
set_option maxHeartbeats 2000000 in
theorem splitSeq_in (n:Nat) (hn:1≤n) (l B:Nat) (hB:3 < B) (s sep:List UInt8) (hsep:1≤sep.length) (hsl:sep.length≤1000) (hs:s.length≤1000000000) (J:Nat→World→Prop) (W:World)
 (hJs:∀ k X Y,J k X→SqS B X Y→J k Y)
 (hY:∀ k (hk:k < (pcsS sep s).length) X,J k X→YieldAt Fence.wide (n - 1) Tryz.prog l #[encS (pcsS sep s)[k]] X fun e Y=>e=.returned (.bool true)∧J (k+1) Y∧SqK B X Y)
 (hb:SqB W B s sep) (h0:J 0 W):
 CallsIn Fence.wide n Tryz.prog 197 #[.func (.yield l) #[] #[],.pointer (some ⟨B+1,0,none⟩),.pointer (some ⟨B,0,none⟩),.pointer (some ⟨B+2,0,none⟩)] W fun e Y=>(∃ v,e=.returned v)∧J (pcsS sep s).length Y:=by
 have hY':=hid hY;have HJs:=hid hJs;have HB:=hid hb;have HS:=hid hs;have hne:(sep.length:Int)≠0:=by omega
 have hz:((sep.length:Int) == 0)=false:=by rw[beq_eq_false_iff_ne];exact hne
 have hss:(str sep).size=sep.length:=str_size _;have q1:W.cell? ⟨B+1,0,none⟩=some (.string (str sep)):=(hb.sep.cell 0).trans rfl;clear hY hJs hb;refine callsIn_of_wp Tryz.func197 rfl trivial ?_ rfl;simp only[Tryz.ntmps197,List.size_toArray,List.length_cons,List.length_nil,Nat.reduceAdd,Nat.reduceSub,Array.replicate_succ,Array.replicate_zero,List.push_toArray,List.append_toArray,List.nil_append,List.cons_append]
 gi_wp2
 gi_loopw [7,8] (fun _ _ wr=>∃(k:Nat) (rest:List UInt8),(pcsS sep s).drop k=pcsS sep rest∧J k wr∧SqB wr B rest sep∧rest.length≤s.length) (fun _ _ wr=>leftS B wr)
 case atStart=>exact⟨0,s,rfl,h0,HB.out,Nat.le_refl _⟩
 case round=>
  obtain⟨k,rest,hd,hJ,hb,hrl⟩:=hrel;have hk:k < (pcsS sep s).length:=by
   refine Decidable.byContradiction fun h=> ?_;rw[List.drop_of_length_le (by omega)]at hd
   have:=pcs_ne sep rest;rw[←hd]at this;exact absurd this (by simp)
  have hx:(pcsS sep s)[k]=(pcsS sep rest).headD []:=by
   have:=List.drop_eq_getElem_cons hk;rw[this]at hd;rw[←hd];rfl
  have ht:(pcsS sep s).drop (k+1)=(pcsS sep rest).tail:=by rw[←hd,List.tail_drop]
  obtain⟨mx,hm⟩:=hb.max;have r0:wr.cell? ⟨B,0,none⟩=some (.string (str rest)):=(hb.text.cell 0).trans rfl;have r1:wr.cell? ⟨B+1,0,none⟩=some (.string (str sep)):=(hb.sep.cell 0).trans rfl;have r2:wr.cell? ⟨B+2,0,none⟩=some (.int .i64 0):=(hb.save.cell 0).trans rfl;have hrs:(str rest).size=rest.length:=str_size _;have HBr:=hid hb;have HIx:=hid (Tryz.strings_Index (str rest) (str sep) mx wr (by rw[hrs];have:=HS.out;omega) hm)
  have hIe:(str rest).data.toList=rest:=bts_str rest;have hIs:(str sep).data.toList=sep:=bts_str sep;rw[hIe,hIs]at HIx;obtain⟨I,hI⟩:∃ I,I=Lib.index rest sep:=⟨_,rfl⟩;rw[←hI]at HIx;obtain⟨fn,tmps,assign,body,hy,hR⟩:=hY'.out k hk wr hJ;rw[hx]at hy
  by_cases hi:I= -1
  ·have he:=pcs_end (hI.symm.trans hi);rw[he]at hy ht;simp only[encS,List.headD_cons]at hy;have hk1:k+1=(pcsS sep s).length:=by
    have:=congrArg List.length ht;rw[List.length_drop,List.tail_cons,List.length_nil]at this;omega
   have hi0:decide (I < 0)=true:=decide_eq_true (by omega)
   have hi1:I < 0:=by omega
   have HK1:=hid hk1;clear hI hx hd hJ hb hm ht hk1 he hi
   gi_wp2
   refine⟨trivial,(callsIn_wide.2 HIx.out).mono ?_⟩;rintro e w' ⟨rfl,rfl⟩
   gi_wp2
   refine hR.mono ?_;rintro e W3 ⟨rfl,hJ3,_⟩;rw[HK1.out]at hJ3
   gi_wp2
   go_end0
   exact⟨⟨_,rfl⟩,hJ3⟩
  ·have hi':Lib.index rest sep≠ -1:=by rw[←hI];exact hi
   have hp:=index_pos hi';have hroom:=Lib.index_room rest sep hp;rw[←hI]at hp hroom;obtain⟨q,rfl⟩:=Int.eq_ofNat_of_zero_le hp;rw[pcs_step hsep hi',←hI]at hy ht;simp only[encS,List.headD_cons,Int.toNat_natCast]at hy;rw[←str_take]at hy;rw[List.tail_cons,Int.toNat_natCast]at ht;have hqs:q+sep.length≤rest.length:=by omega
   have hl3:=HS.out;have hi0:decide ((q:Int) < 0)=false:=decide_eq_false (by omega)
   have hi1:¬((q:Int) < 0):=by omega
   have hi2:(0:Int)≤(q:Int):=by omega
   have hi3:(q:Int)≤(rest.length:Int):=by omega
   have hi4:(q:Int)+(sep.length:Int)≤(rest.length:Int):=by omega
   have hi5:(0:Int)≤(q:Int)+(sep.length:Int):=by omega
   have E1:=hid (str_take rest q);have E2:=hid (str_drop rest (q+sep.length));have HT:=hid ht;clear hI hx hd hJ hb hm ht hi hi' hp hroom hl3
   gi_wp2
   refine⟨trivial,(callsIn_wide.2 HIx.out).mono ?_⟩;rintro e w' ⟨rfl,rfl⟩
   gi_wp2
   refine hR.mono ?_;rintro e W3 ⟨rfl,hJ3,hk3⟩;have hb3:=HBr.out.keep hk3;have s0:W3.cell? ⟨B,0,none⟩=some (.string (str rest)):=(hb3.text.cell 0).trans rfl;have s1:W3.cell? ⟨B+1,0,none⟩=some (.string (str sep)):=(hb3.sep.cell 0).trans rfl;have sf:=hb3.text.frozen 0;have HB3:=hid hb3;have hJ4:=HJs.out _ _ _ hJ3 ⟨.string (str (rest.drop (q+sep.length))),rfl⟩;have HJ4:=hid hJ4;have hrr:=HS.out;have hw1:¬(9223372036854775807 < (q:Int)+(sep.length:Int)):=by omega
   clear hJ3 hk3 hb3 hJ4 hR hy
   gi_wp2
   have e2:=E2.out;rw[hrs]at e2;rw[e2];have hset:=HB3.out.set (r:=rest.drop (q+sep.length)) hB;refine⟨⟨k+1,_,HT.out,HJ4.out,hset,by rw[List.length_drop];omega⟩,?_⟩
   rw[left_eq hset,left_eq HBr.out,List.length_drop];omega
theorem splitSeq_seq (n:Nat) (hn:1≤n) (B:Nat) (hB:3 < B) (s sep:List UInt8) (hsep:1≤sep.length) (hsl:sep.length≤1000) (hs:s.length≤1000000000) (w:World) (hb:SqB w B s sep):
 SeqT Fence.wide n Tryz.prog 197 #[.pointer (some ⟨B+1,0,none⟩),.pointer (some ⟨B,0,none⟩),.pointer (some ⟨B+2,0,none⟩)] encS (pcsS sep s) (SqS B) (SqK B) w:=fun l J W hW _ hJs hY h0=>
 splitSeq_in n hn l B hB s sep hsep hsl hs J W hJs hY (hb.keep hW) h0
end Go.Proofs.YtagfnpdoooachaaGreatDoor
