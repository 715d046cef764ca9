/- rule.Parse. -/
import Derived.Test.YtagfnpdoooachaaGreatDoorRuleQ
set_option linter.unusedSimpArgs false
set_option linter.unusedVariables false
namespace Go.Proofs.YtagfnpdoooachaaGreatDoor
open Go.RowKit Go.Shelf
open Lib (hid)
attribute [local go_sem] Oper.semAt_some
theorem SeqT.inRound {α:Type} {F:Fence} {n l:Nat} {P:Program} {g:Nat} {lb:Array Value} {enc:α→Value} {xs:List α} {St Kp:World→World→Prop} {w:World} (h:SeqT F n P g lb enc xs St Kp w):SeqT (F.inRound l) n P g lb enc xs St Kp w:=h
def rlV (x:Rl×Value):List Value:=[.int .u8 x.1.op.toNat,.int .i64 x.1.mod,.bool x.1.neg,x.2]
def flatL (l:List (Rl×Value)):List Value:=l.flatMap rlV
theorem flatL_snoc (l:List (Rl×Value)) (x:Rl×Value):flatL (l++[x])=flatL l++rlV x:=by simp[flatL]
theorem flatL_at:∀(l:List (Rl×Value)) (i:Nat) (h:i < l.length),((flatL l).drop (i*4)).take 4=rlV l[i]
 | [],i,h=>by cases h
 | p::l,0,_=>by show((rlV p++flatL l).drop (0*4)).take 4=_;simp[rlV]
 | p::l,i+1,h=>by
   have ih:=flatL_at l i (by simpa using h)
   show((rlV p++flatL l).drop ((i+1)*4)).take 4=_;rw[show(i+1)*4=(rlV p).length+i*4 from by simp[rlV];omega,List.drop_append,List.drop_eq_nil_of_le (Nat.le_add_right _ _),Nat.add_sub_cancel_left]
   exact ih
structure PartV (base:Nat) (w:World) (ps:List (Rl×Value)) (u:Value):Prop where
 row:w.ownsRow base 162 4 u ps.length (flatL ps)
 prs:∀ x∈ps,w.ownsRow base 222 2 x.2 x.1.rng.length (flatP x.1.rng)
structure RuleV (base:Nat) (w:World) (us:List (List (Rl×Value)×Value)) (v:Value):Prop where
 row:w.ownsRow base 159 1 v us.length (us.map (·.2))
 part:∀ x∈us,PartV base w x.1 x.2
theorem PartV.keep {base:Nat} {w w':World} {ps:List (Rl×Value)} {u:Value} (h:PartV base w ps u) (k:∀ g,base≤g→g < w.heap.size→(∃ cs t,Blk w g t cs∧t≠159∧t≠102∧t≠9)→w'.heap[g]? =w.heap[g]?):PartV base w' ps u:=by
 refine⟨own_keep h.row fun g hg hlt=>k g (own_lt h.row hg).1 hlt ?_,fun x hx=>own_keep (h.prs x hx) fun g hg hlt=>k g (own_lt (h.prs x hx) hg).1 hlt ?_⟩
 ·obtain⟨_,⟨h2,_⟩|⟨g',cap,cur,hv,hb,hh,_⟩⟩:=h.row
  ·rw[h2]at hg;cases hg
  ·rw[hv]at hg;injection hg with hg;subst hg;exact⟨cur,_,hh,by decide,by decide,by decide⟩
 ·obtain⟨_,⟨h2,_⟩|⟨g',cap,cur,hv,hb,hh,_⟩⟩:=h.prs x hx
  ·rw[h2]at hg;cases hg
  ·rw[hv]at hg;injection hg with hg;subst hg;exact⟨cur,_,hh,by decide,by decide,by decide⟩
theorem PartV.below {base B:Nat} {w w':World} {ps:List (Rl×Value)} {u:Value} (h:PartV base w ps u) (k:Below B w w') (hB:w.heap.size≤B):PartV base w' ps u:=h.keep fun g _ hlt _=>k.block g (by omega)
theorem PartV.mono {base base':Nat} {w:World} {ps:List (Rl×Value)} {u:Value} (h:PartV base w ps u) (hb:base'≤base):PartV base' w ps u:=⟨own_mono h.row hb,fun x hx=>own_mono (h.prs x hx) hb⟩
theorem PartV.nc {base:Nat} {W W':World} {ps:List (Rl×Value)} {u:Value} {row:Option Nat} (h:PartV base W ps u) (hg:W.grownBy W' row) (hr:∀ r,row=some r→∃ o:Obj,W.heap[r]? =some o∧o.isCells=false):PartV base W' ps u:=⟨own_nc h.row hg hr,fun x hx=>own_nc (h.prs x hx) hg hr⟩
theorem PartV.list {base lo hi:Nat} {w:World} {ps:List (Rl×Value)} {u:Value} (h:PartV base w ps u) (hb:lo≤base) (hs:w.heap.size≤hi):ListOk Enc.rl w lo hi u (ps.map (·.1)):=by
 have h1:=h.row;have e1:ps.length=(ps.map (·.1)).length:=by simp
 rw[e1]at h1;refine ListOk.of_own (E:=Enc.rl) h1 hb hs fun i hl=> ?_;have hl':i < ps.length:=by simpa using hl
 refine⟨ps[i].2,?_,?_⟩
 ·rw[show Enc.rl.sz=4 from rfl,flatL_at ps i hl'];simp[rlV]
 ·rw[List.getElem_map];exact pairs_of_own (h.prs _ (List.getElem_mem hl')) hb hs
theorem RuleV.below {base B:Nat} {w w':World} {us:List (List (Rl×Value)×Value)} {v:Value} (h:RuleV base w us v) (k:Below B w w') (hB:w.heap.size≤B):RuleV base w' us v:=⟨own_below h.row k hB,fun x hx=>(h.part x hx).below k hB⟩
theorem RuleV.nc {base:Nat} {W W':World} {us:List (List (Rl×Value)×Value)} {v:Value} {row:Option Nat} (h:RuleV base W us v) (hg:W.grownBy W' row) (hr:∀ r,row=some r→∃ o:Obj,W.heap[r]? =some o∧o.isCells=false):RuleV base W' us v:=⟨own_nc h.row hg hr,fun x hx=>(h.part x hx).nc hg hr⟩
def plainU (us:List (List (Rl×Value)×Value)):List (List Rl):=us.map fun x=>x.1.map (·.1)
theorem RuleV.list {base lo hi:Nat} {w:World} {us:List (List (Rl×Value)×Value)} {v:Value} (h:RuleV base w us v) (hb:lo≤base) (hs:w.heap.size≤hi):ListOk (Enc.list Enc.rl) w lo hi v (plainU us):=by
 have h1:=h.row;have e1:us.length=(plainU us).length:=by simp[plainU]
 rw[e1]at h1;refine ListOk.of_own (E:=Enc.list Enc.rl) h1 hb hs fun i hl=> ?_;have hl':i < us.length:=by rw[e1];exact hl
 refine⟨us[i].2,?_,?_⟩
 ·have e:Enc.sz (Enc.list Enc.rl)=1:=rfl;rw[e,Nat.mul_one,←List.map_drop,←List.map_take,List.drop_eq_getElem_cons hl']
  rfl
 ·have e:(plainU us)[i]=us[i].1.map (·.1):=by simp[plainU]
  rw[e];exact(h.part _ (List.getElem_mem hl')).list hb hs
structure InSt (W0 Wr:World) (Rb B2 M:Nat) (u:Value) (ps:List (Rl×Value)) (W:World):Prop where
 below:Below W0.heap.size W0 W
 box:Blk W Rb 159 #[u]
 part:PartV M W ps u
 sq:SqK B2 Wr W
 kf:KeepsFrom M Wr W
 size:M≤W.heap.size
theorem InSt.on {W0 Wr:World} {Rb B2 M:Nat} {u:Value} {ps:List (Rl×Value)} {W W':World} (h:InSt W0 Wr Rb B2 M u ps W) (hb:Below W.heap.size W W'):InSt W0 Wr Rb B2 M u ps W':=
 ⟨h.below.trans (hb.mono h.below.size),h.box.below hb h.box.lt,h.part.below hb (Nat.le_refl _),h.sq.trans (sqk_below hb),h.kf.trans (kf_below hb),Nat.le_trans h.size hb.size⟩
theorem InSt.drew {W0 Wr:World} {Rb B2 M:Nat} {u:Value} {ps:List (Rl×Value)} {W:World} (h:InSt W0 Wr Rb B2 M u ps W):InSt W0 Wr Rb B2 M u ps W.drew:=h.on (below_drewN (Below.refl _ _) 1)
theorem InSt.alloc {W0 Wr:World} {Rb B2 M:Nat} {u:Value} {ps:List (Rl×Value)} {W:World} (h:InSt W0 Wr Rb B2 M u ps W) (o:Obj):InSt W0 Wr Rb B2 M u ps (W.alloc o):=h.on ((Below.refl _ _).alloc (Nat.le_refl _) o)
theorem InSt.push {W0 Wr:World} {Rb B2 M:Nat} {u v:Value} {ps:List (Rl×Value)} {W w7:World} {x:Rl×Value} (h:InSt W0 Wr Rb B2 M u ps W) (hx:W.ownsRow M 222 2 x.2 x.1.rng.length (flatP x.1.rng)) (hg:W.grownBy w7 u.ownBlock)
 (hown:w7.ownsRow M 162 4 v (ps.length+1) (flatL ps++rlV x)) (hB:B2+3≤M) (hG:3 < B2) (hR:Rb < B2) (hR0:W0.heap.size≤Rb) (hGR:3 < W0.heap.size) (hM:W0.heap.size≤M):InSt W0 Wr Rb B2 M v (ps++[x]) (w7.setCell ⟨Rb,0,none⟩ v):=by
 have hr:∀ r,u.ownBlock=some r→M≤r:=fun r hr=>(own_lt h.part.row hr).1;have b7:=blkGrown h.box hg (fun e=>own_blkR h.part.row h.box (by decide) e.symm)
 have keepP:∀ y:Rl×Value,W.ownsRow M 222 2 y.2 y.1.rng.length (flatP y.1.rng)→(w7.setCell ⟨Rb,0,none⟩ v).ownsRow M 222 2 y.2 y.1.rng.length (flatP y.1.rng):=fun y hy=>by
  have h1:w7.ownsRow M 222 2 y.2 y.1.rng.length (flatP y.1.rng):=own_keep hy fun g hg' hlt=>hg.block g hlt fun e=>own_types hy h.part.row (by decide) hg' e.symm
  exact own_keep h1 fun g hg' _=>Below.heap_setCell _ _ _ _ (fun(e:g=Rb)=>own_blkR h1 b7 (by decide) (by rw[hg',e]))
 refine⟨(h.below.grown hg h.below.size (fun r e=>by have:=hr r e;omega)).setCell hR0 _,b7.set_ 0 v,⟨?_,fun y hy=> ?_⟩,?_,?_,?_⟩
 ·rw[flatL_snoc,List.length_append];exact own_keep hown fun g hg' _=>Below.heap_setCell _ _ _ _ (fun(e:g=Rb)=>own_blkR hown b7 (by decide) (by rw[hg',e]))
 ·rcases List.mem_append.1 hy with hy|hy
  ·exact keepP y (h.part.prs y hy)
  ·obtain rfl:=List.mem_singleton.1 hy;exact keepP y hx
 ·exact(h.sq.trans (sqk_grown hg (fun r e=>by have:=hr r e;omega) hG)).trans (sqk_set _ _ _ _ (by omega) (.inl hR))
 ·exact(h.kf.trans (kf_grown hg (own_row h.part.row))).trans (kf_set _ _ _ _ b7)
 ·exact Nat.le_trans (Nat.le_trans h.size hg.size) (by simp[World.setCell])
def InI (W0:World) (Rb M:Nat) (p:List Rl) (j:Nat) (W:World):Prop:=
 Below W0.heap.size W0 W∧M≤W.heap.size∧∃ u ps,Blk W Rb 159 #[u]∧ps.map (·.1)=p.take j∧PartV M W ps u
theorem InI.own {W0:World} {Rb M N:Nat} {p:List Rl} (hN:W0.heap.size≤N):OwnFrom N (InI W0 Rb M p):=by
 rintro k W W' row ⟨h1,h2,u,ps,h3,h4,h5⟩ hg hr;have hr':=fun r e=>(hr r e).2;exact⟨below_nc h1 (Nat.le_refl _) hg (fun r e=>Nat.le_trans hN (hr r e).1),Nat.le_trans h2 hg.size,u,ps,blk_nc h3 hg hr',h4,h5.nc hg hr'⟩
theorem InI.sq {W0:World} {Rb M B:Nat} {p:List Rl} {j:Nat} {X Y:World} (h:InI W0 Rb M p j X) (hs:SqS B X Y) (hw:W0.heap.size≤B) (hR:Rb≠B) (hN:B < M):InI W0 Rb M p j Y:=by
 obtain⟨v,rfl⟩:=hs;obtain⟨h1,h2,u,ps,h3,h4,h5⟩:=h;exact⟨h1.setCell hw _,by simpa[World.setCell]using h2,u,ps,h3.far hR _,h4,h5.keep fun g hg _ _=>Below.heap_setCell _ _ _ _ (by show g≠B;omega)⟩
def OuI (w:World) (Ob N:Nat) (R:List (List Rl)) (k:Nat) (W:World):Prop:=
 Below w.heap.size w W∧N≤W.heap.size∧∃ v us,Blk W Ob 102 #[v]∧plainU us=R.take k∧RuleV N W us v
theorem OuI.own {w:World} {Ob N M:Nat} {R:List (List Rl)} (hM:w.heap.size≤M):OwnFrom M (OuI w Ob N R):=by
 rintro k W W' row ⟨h1,h2,v,us,h3,h4,h5⟩ hg hr;have hr':=fun r e=>(hr r e).2;exact⟨below_nc h1 (Nat.le_refl _) hg (fun r e=>Nat.le_trans hM (hr r e).1),Nat.le_trans h2 hg.size,v,us,blk_nc h3 hg hr',h4,h5.nc hg hr'⟩
theorem OuI.sq {w:World} {Ob N B:Nat} {R:List (List Rl)} {k:Nat} {X Y:World} (h:OuI w Ob N R k X) (hs:SqS B X Y) (hw:w.heap.size≤B) (hO:Ob≠B) (hN:B < N):OuI w Ob N R k Y:=by
 obtain⟨v',rfl⟩:=hs;obtain⟨h1,h2,v,us,h3,h4,h5⟩:=h;refine⟨h1.setCell hw _,by simpa[World.setCell]using h2,v,us,h3.far hO _,h4,own_keep h5.row fun g hg _=>Below.heap_setCell _ _ _ _ (by have:=(own_lt h5.row hg).1;show g≠B;omega),fun x hx=>(h5.part x hx).keep fun g hg _ _=>Below.heap_setCell _ _ _ _ (by show g≠B;omega)⟩
theorem info_rlR:(Tryz.prog.info? 162).map (fun i=>(i.zero,i.size,i.bytes))=some (some (.agg #[.int .u8 0,.int .i64 0,.bool false,.slice none 0 0]),4,48):=by kernel_rfl
theorem info_partR:(Tryz.prog.info? 159).map (fun i=>(i.zero,i.size,i.bytes))=some (some (.slice none 0 0),1,24):=by kernel_rfl
attribute [local go_sem] Oper.semAt_some
theorem four_new (w:World) (a b c d:Value) (t:TypeId):∀ j u,[a,b,c,d][j]? =some u→(w.alloc (.cells #[a,b,c,d] t)).cell? ((⟨w.heap.size,0,none⟩:Addr).add j)=some u:=by
 intro j u hj;have h:=(Blk.new w t #[a,b,c,d]).cell j;have e:((⟨w.heap.size,0,none⟩:Addr).add j)=⟨w.heap.size,j,none⟩:=by
  unfold Addr.add;split
  ·rename_i h0
   have h0':j=0:=by simpa using h0
   subst h0';rfl
  ·simp
 rw[e,h];simpa using hj
theorem one_new (w:World) (a:Value) (t:TypeId):∀ j u,[a][j]? =some u→(w.alloc (.cells #[a] t)).cell? ((⟨w.heap.size,0,none⟩:Addr).add j)=some u:=by
 intro j u hj;have h:=(Blk.new w t #[a]).cell j;have e:((⟨w.heap.size,0,none⟩:Addr).add j)=⟨w.heap.size,j,none⟩:=by
  unfold Addr.add;split
  ·rename_i h0
   have h0':j=0:=by simpa using h0
   subst h0';rfl
  ·simp
 rw[e,h];simpa using hj
theorem OuI.push {w W w7:World} {Ob N k:Nat} {R:List (List Rl)} {v v' u:Value} {us:List (List (Rl×Value)×Value)} {ps:List (Rl×Value)} (h1:Below w.heap.size w W) (h2:N≤W.heap.size) (h3:Blk W Ob 102 #[v]) (h5:RuleV N W us v) (hp:PartV N W ps u)
 (hg:W.grownBy w7 v.ownBlock) (hown:w7.ownsRow N 159 1 v' (us.length+1) (us.map (·.2)++[u])) (hO:w.heap.size≤Ob) (hN:w.heap.size≤N) (h4:plainU us++[ps.map (·.1)]=R.take k):OuI w Ob N R k (w7.setCell ⟨Ob,0,none⟩ v'):=by
 have hr:∀ r,v.ownBlock=some r→N≤r:=fun r hr=>(own_lt h5.row hr).1;have b7:=blkGrown h3 hg (fun e=>own_blkR h5.row h3 (by decide) e.symm)
 have keepP:∀(qs:List (Rl×Value)) (x:Value),PartV N W qs x→PartV N (w7.setCell ⟨Ob,0,none⟩ v') qs x:=fun qs x hx=>by
  have e7:∀ g,g < W.heap.size→(∃ cs t,Blk W g t cs∧t≠159∧t≠102∧t≠9)→w7.heap[g]? =W.heap[g]? :=fun g hlt ⟨cs,t,hb,n1,_,_⟩=>hg.block g hlt fun e=>own_blkR h5.row hb (Ne.symm n1) e.symm;refine hx.keep fun g _ hlt hb=> ?_;rw[←e7 g hlt hb];refine Below.heap_setCell _ _ _ _ (fun(e:g=Ob)=> ?_);obtain⟨cs,t,hb1,_,n2,_⟩:=hb;subst e;unfold Blk at hb1 h3;rw[hb1]at h3;injection h3 with h3;injection h3 with _ h3;exact n2 h3
 refine⟨(h1.grown hg h1.size (fun r e=>Nat.le_trans hN (hr r e))).setCell hO _,Nat.le_trans (Nat.le_trans h2 hg.size) (by simp[World.setCell]),v',us++[(ps,u)],b7.set_ 0 v',by simpa[plainU]using h4,?_,fun x hx=> ?_⟩
 ·rw[List.length_append,List.map_append];exact own_keep hown fun g hg' _=>Below.heap_setCell _ _ _ _ (fun(e:g=Ob)=>own_blkR hown b7 (by decide) (by rw[hg',e]))
 ·rcases List.mem_append.1 hx with hx|hx
  ·exact keepP _ _ (h5.part x hx)
  ·obtain rfl:=List.mem_singleton.1 hx;exact keepP _ _ hp
def ParseOkR (s:List UInt8):Prop:=checkR (ruleOf s)=0∧textR (ruleOf s)=s
set_option maxHeartbeats 6400000 in
set_option maxRecDepth 100000 in
theorem Parse_any (s:List UInt8) (w:World) (hs:s.length≤1048900) (hv:RV w) (hG:3 < w.heap.size):
 Calls Tryz.prog 58 #[.string (str s)] w fun e w'=>Below w.heap.size w w'∧
  ((ParseOkR s∧∃ v us,e=.returned (.tuple #[v,.nilIface])∧plainU us=ruleOf s∧RuleV w.heap.size w' us v)∨(¬ ParseOkR s∧e=.returned (.tuple #[.slice none 0 0,.iface 27 (.int .i64 3)]))):=by
 have HV:=hid hv;obtain⟨W1,eW1⟩:∃ W1,W1=w.alloc (.cells #[.slice none 0 0] 102):=⟨_,rfl⟩;have HB1:Hid (Below w.heap.size w W1):=hid (by rw[eW1];exact(Below.refl _ _).alloc (Nat.le_refl _) _)
 have M1:Hid (Blk W1 w.heap.size 102 #[.slice none 0 0]):=hid (by rw[eW1];exact Blk.new _ _ _)
 have HS:Hid (Calls Tryz.prog 97 #[.string (str s),.string ⟨#[32,111,114,32]⟩] W1 fun e w'=>e=.returned (.func (.func 197) #[] #[.pointer (some ⟨W1.heap.size+1,0,none⟩),.pointer (some ⟨W1.heap.size,0,none⟩),.pointer (some ⟨W1.heap.size+2,0,none⟩)])∧
  Below W1.heap.size W1 w'∧w'.heap.size=W1.heap.size+3∧SqB w' W1.heap.size s [32,111,114,32]):=hid (SplitSeq_any s [32,111,114,32] W1 (hv.below HB1.out))
 have HW1:=hid eW1;clear eW1 hv;refine(callsIn_wide (n:=7)).1 ?_;refine callsIn_of_wp_marks Tryz.func58 rfl trivial ?_ rfl;simp only[Tryz.ntmps58,List.size_toArray,List.length_cons,List.length_nil,Nat.reduceAdd,Nat.reduceSub,Array.replicate_succ,Array.replicate_zero,List.push_toArray,List.append_toArray,List.nil_append,List.cons_append]
 gi_wp2
 rw[←HW1.out];clear HW1;refine⟨trivial,(callsIn_wide.2 HS.out).mono ?_⟩;clear HS;rintro e wt ⟨rfl,hbt,hzt,hsq⟩;have HBt:=hid (HB1.out.trans (hbt.mono HB1.out.size));have Mt:=hid (M1.out.below hbt M1.out.lt);have hB0:w.heap.size < W1.heap.size:=M1.out.lt;clear hbt HB1 M1;obtain⟨B,hB⟩:∃ B,B=W1.heap.size:=⟨_,rfl⟩;rw[←hB]at hzt hsq hB0 ⊢;clear hB
 gi_wp2
 have hGB:3 < B:=by omega
 have hBN:B+3≤wt.heap.size:=by omega
 refine range_outer1 rfl (by decide) (gf:=197) (lb:=#[.pointer (some ⟨B+1,0,none⟩),.pointer (some ⟨B,0,none⟩),.pointer (some ⟨B+2,0,none⟩)]) rfl trivial (enters_of Tryz.func197 (by kernel_rfl) rfl)
  (splitSeq_seq 6 (by decide) B hGB s [32,111,114,32] (by decide) (by decide) (by omega) wt hsq) (SqK.refl _ _) (SqK.refl _) SqK.trans (fun W o hW=>sqk_alloc W o (by omega) (by omega)) (fun W l o o' hl _ _ _=>sqk_put W l o' (N:=wt.heap.size) hBN hGB hl)
  (by
    rintro X Y ⟨v,rfl⟩ i hi;exact Below.heap_setCell _ _ _ _ (by show i≠B;omega))
  (OuI w w.heap.size wt.heap.size (ruleOf s))
  (OuI.own HBt.out.size) (fun k X Y h hs=>h.sq hs (by omega) (by omega) (by omega))
  ⟨HBt.out,Nat.le_refl _,_,[],Mt.out,rfl,World.ownsRow_nil _ _ _ _,fun _ h=>by cases h⟩ 5 ?assign ?body ?done
 case assign=>
  intro l v W K hK
  gi_wp2
  exact hK
 case body=>
  rintro l k hk W ⟨lr,hlr⟩ ⟨i1,i2,v,us,i3,i4,i5⟩;have hx:((pcsS [32,111,114,32] s)[k]).length≤s.length:=pcs_len (by decide) _ s (Nat.le_refl _) _ (List.getElem_mem hk)
  have HTk:Hid ((ruleOf s).take (k+1)=(ruleOf s).take k++[partOf (pcsS [32,111,114,32] s)[k]]):=hid (by
   unfold ruleOf;rw[List.take_succ_eq_append_getElem (by rw[List.length_map];exact hk),List.getElem_map])
  have hkm:us.length≤10000000:=by
   have h1:(plainU us).length≤(ruleOf s).length:=by rw[i4,List.length_take];omega
   have h2:=(rule_len s).1;have h3:(plainU us).length=us.length:=by simp[plainU]
   omega
  generalize (pcsS [32,111,114,32] s)[k]=x at *;have hWl:w.heap.size≤W.heap.size:=i1.size;obtain⟨W2,eW2⟩:∃ W2,W2=W.alloc (.cells #[.slice none 0 0] 159):=⟨_,rfl⟩;have HB2:Hid (Below W.heap.size W W2):=hid (by rw[eW2];exact(Below.refl _ _).alloc (Nat.le_refl _) _)
  have M2:Hid (Blk W2 W.heap.size 159 #[.slice none 0 0]):=hid (by rw[eW2];exact Blk.new _ _ _)
  have HVW:Hid (RV W):=hid (HV.out.below i1);have HS2:Hid (Calls Tryz.prog 97 #[.string (str x),.string ⟨#[32,97,110,100,32]⟩] W2 fun e w'=>e=.returned (.func (.func 197) #[] #[.pointer (some ⟨W2.heap.size+1,0,none⟩),.pointer (some ⟨W2.heap.size,0,none⟩),.pointer (some ⟨W2.heap.size+2,0,none⟩)])∧
   Below W2.heap.size W2 w'∧w'.heap.size=W2.heap.size+3∧SqB w' W2.heap.size x [32,97,110,100,32]):=hid (SplitSeq_any x [32,97,110,100,32] W2 (HVW.out.below HB2.out))
  have HW2:=hid eW2;have HI1:=hid i1;have HI3:=hid i3;have HI4:=hid i4;have HI5:=hid i5;clear eW2 i1 i3 i4 i5 HBt Mt;unfold encS
  gi_wp2
  rw[←HW2.out];clear HW2;refine⟨trivial,(CallsIn.inRound l (callsIn_wide.2 HS2.out)).mono ?_⟩;clear HS2;rintro e w3 ⟨rfl,hb3,hz3,hsq3⟩;have HB3:=hid (HB2.out.trans (hb3.mono HB2.out.size));have M3:=hid (M2.out.below hb3 M2.out.lt);have hB2:W.heap.size < W2.heap.size:=M2.out.lt;clear hb3 HB2 M2;obtain⟨B2,hB2e⟩:∃ B2,B2=W2.heap.size:=⟨_,rfl⟩;rw[←hB2e]at hz3 hsq3 hB2 ⊢;clear hB2e
  gi_wp2
  have hGB2:3 < B2:=by omega
  have hBN2:B2+3≤w3.heap.size:=by omega
  have hl3:w3.heap[l]? =some (.loop lr):=(HB3.out.block l (Array.getElem?_eq_some_iff.1 hlr).1).trans hlr;refine range_inner1 rfl hl3 (by decide) (gf:=197) (lb:=#[.pointer (some ⟨B2+1,0,none⟩),.pointer (some ⟨B2,0,none⟩),.pointer (some ⟨B2+2,0,none⟩)]) rfl trivial (enters_of Tryz.func197 (by kernel_rfl) rfl)
   (splitSeq_seq 4 (by decide) B2 hGB2 x [32,97,110,100,32] (by decide) (by decide) (by omega) w3 hsq3).inRound (SqK.refl _ _) (SqK.refl _) SqK.trans (fun W o hW=>sqk_alloc W o (by omega) (by omega)) (fun W l o o' hl _ _ _=>sqk_put W l o' (N:=w3.heap.size) hBN2 hGB2 hl)
   (by
     rintro X Y ⟨v,rfl⟩ i hi;exact Below.heap_setCell _ _ _ _ (by show i≠B2;omega))
   (InI W W.heap.size w3.heap.size (partOf x))
   (InI.own HB3.out.size) (fun k X Y h hs=>h.sq hs (by omega) (by omega) (by omega))
   ⟨HB3.out,Nat.le_refl _,_,[],M3.out,rfl,World.ownsRow_nil _ _ _ _,fun _ h=>by cases h⟩ 7 ?assign2 ?body2 ?done2
  case assign2=>
   intro l v W K hK
   gi_wp2
   exact hK
  case body2=>
   rintro l2 j hj W3 _ ⟨j1,j2,u,ps,j3,j4,j5⟩;have hy:((pcsS [32,97,110,100,32] x)[j]).length≤x.length:=pcs_len (by decide) _ x (Nat.le_refl _) _ (List.getElem_mem hj)
   have HTj:Hid ((partOf x).take (j+1)=(partOf x).take j++[parsedR (pcsS [32,97,110,100,32] x)[j]]):=hid (by
    unfold partOf;rw[List.take_succ_eq_append_getElem (by rw[List.length_map];exact hj),List.getElem_map])
   have hpm:ps.length≤10000000:=by
    have h1:(ps.map (·.1)).length≤(partOf x).length:=by rw[j4,List.length_take];omega
    have h2:=(part_len x).1;rw[List.length_map]at h1;omega
   generalize (pcsS [32,97,110,100,32] x)[j]=z at *;obtain⟨UA,Uc,rfl,_⟩:=own_slice j5.row;have HPa:Hid (∀ W',InSt W W3 W.heap.size B2 w3.heap.size (.slice UA ps.length Uc) ps W'→Calls Tryz.prog 98 #[.string (str z)] W' fun e w'=>∃ V,e=.returned (.agg #[.int .u8 (parsedR z).op.toNat,.int .i64 (parsedR z).mod,.bool (parsedR z).neg,V])∧InSt W W3 W.heap.size B2 w3.heap.size (.slice UA ps.length Uc) ps w'∧w'.ownsRow w3.heap.size 222 2 V (parsedR z).rng.length (flatP (parsedR z).rng)):=hid fun W' h=>by
    refine(parsed_any z W' (by omega) (HVW.out.below h.below) (by have:=h.below.size;omega)).mono ?_
    rintro e w' ⟨hb,V,rfl,hV⟩;exact⟨V,rfl,h.on hb,own_mono hV h.size⟩
   generalize parsedR z=y at *;have HS0:Hid (InSt W W3 W.heap.size B2 w3.heap.size (.slice UA ps.length Uc) ps W3.drew):=hid (InSt.drew ⟨j1,j3,j5,SqK.refl _ _,KeepsFrom.refl _ _,j2⟩);have HJ4:=hid j4;have hWM:W.heap.size≤w3.heap.size:=HB3.out.size;clear j1 j2 j3 j4 j5 hy HI1 HI3 HI4 HI5 HB3 M3 HVW HTk HV hz3 hzt;unfold encS
   gi_upto_region 7 with fail
   refine regionIn_round (by kernel_rfl) (by rfl) ?_
   refine wpAnyIn_take (i:=1) (v:=.string (str z)) rfl rfl (by decide +kernel) (by decide +kernel) (by decide +kernel) (fun _ _ _ h=>h) ⟨Or.inl ⟨by rfl,by intro w;go_simp⟩,fun _=>rfl⟩ ?_
   refine any_float (fuel:=2) (i:=0) (di:=16) (vi:=.slice UA ps.length Uc) 2 (fun t=>match t with|0=>2|_=>3) (fun t=>match t with|0=>18|_=>19)
    (fun t=>match t with
      | 0=>#[false,true,false,false,false,false]
      | 1=>#[false,true,true,false,false,false]
      | _=>#[false,true,true,true,false,false])
    (fun A0 t a W'=>match t with
      | 0=>a=A0∧InSt W W3 W.heap.size B2 w3.heap.size (.slice UA ps.length Uc) ps W'
      | 1=>∃ V,a=A0.put (some 18) (.agg #[.int .u8 y.op.toNat,.int .i64 y.mod,.bool y.neg,V])∧InSt W W3 W.heap.size B2 w3.heap.size (.slice UA ps.length Uc) ps W'∧W'.ownsRow w3.heap.size 222 2 V y.rng.length (flatP y.rng)
      | _=>∃(V:Value) (ad:Addr),a=(A0.put (some 18) (.agg #[.int .u8 y.op.toNat,.int .i64 y.mod,.bool y.neg,V])).put (some 19) (.slice (some ad) 1 1)∧InSt W W3 W.heap.size B2 w3.heap.size (.slice UA ps.length Uc) ps W'∧W'.ownsRow w3.heap.size 222 2 V y.rng.length (flatP y.rng)∧
         ∀ j u,[Value.int .u8 y.op.toNat,.int .i64 y.mod,.bool y.neg,V][j]? =some u→W'.cell? (ad.add j)=some u)
    rfl rfl ?hc (by decide +kernel) ?load ?step ?tail0 ⟨rfl,HS0.out⟩
   case hc=>
    intro t ht
    match t with
    | 0=>exact⟨rfl,rfl,by decide,by decide,rfl,by decide +kernel,by decide +kernel⟩
    | 1=>exact⟨rfl,rfl,by decide,by decide,rfl,by decide +kernel,by decide +kernel⟩
    | t+2=>omega
   case load=>
    intro t ht a W' K hC hK
    match t with
    | 0=>
      obtain⟨rfl,hst⟩:=hC;have k0:W'.cell? ⟨W.heap.size,0,none⟩=some (.slice UA ps.length Uc):=(hst.box.cell 0).trans rfl;clear hst ht
      revert hK
      go_simp
      first|done|(intro hK;exact hK)
    | 1=>
      obtain⟨V,rfl,hst,_⟩:=hC;have k0:W'.cell? ⟨W.heap.size,0,none⟩=some (.slice UA ps.length Uc):=(hst.box.cell 0).trans rfl;clear hst ht
      revert hK
      go_simp
      first|done|(intro hK;exact hK)
    | t+2=>
      obtain⟨V,ad,rfl,hst,_⟩:=hC;have k0:W'.cell? ⟨W.heap.size,0,none⟩=some (.slice UA ps.length Uc):=(hst.box.cell 0).trans rfl;clear hst ht
      revert hK
      go_simp
      first|done|(intro hK;exact hK)
   case step=>
    intro t ht a W' b K hC hb hK
    match t with
    | 0=>
      obtain⟨rfl,hst⟩:=hC;have H:=hid (HPa.out W' hst);have HK1:=fun(V:Value) w' (h:InSt W W3 W.heap.size B2 w3.heap.size (.slice UA ps.length Uc) ps w') (ho:w'.ownsRow w3.heap.size 222 2 V y.rng.length (flatP y.rng))=>hK (.agg #[.int .u8 y.op.toNat,.int .i64 y.mod,.bool y.neg,V]) w' ⟨V,rfl,h,ho⟩;clear hst ht hK;rcases hb with rfl|rfl
      all_goals
       revert HK1
       go_simp
       intro HK1;have HK:=hid HK1;clear HK1
       gi_wp2_with fail
       refine⟨trivial,(callsIn_wide.2 H.out).mono ?_⟩;rintro e wx ⟨V,rfl,hst,hV⟩
       gi_wp2
       exact HK.out _ _ hst hV
    | 1=>
      obtain⟨V,rfl,hst,hV⟩:=hC;obtain⟨VA,Vc,rfl,_⟩:=own_slice hV;have HK1:=hK (.slice (some ⟨W'.heap.size,0,none⟩) 1 1) (W'.alloc (.cells #[.int .u8 y.op.toNat,.int .i64 y.mod,.bool y.neg,.slice VA y.rng.length Vc] 162)) ⟨_,⟨W'.heap.size,0,none⟩,rfl,hst.alloc _,own_below hV ((Below.refl _ _).alloc (Nat.le_refl _) _) (Nat.le_refl _),four_new _ _ _ _ _ _⟩;clear hst hK ht hV;rcases hb with rfl|rfl
      all_goals
       revert HK1
       go_simp
       first|done|(intro HK1;exact HK1)
    | t+2=>omega
   case tail0=>
    rintro a W' ⟨V,ad,rfl,hst,hV,hnew⟩;obtain⟨VA,Vc,rfl,_⟩:=own_slice hV;have hrow:=hst.part.row;have hsz:=hst.size;refine wpAnyIn_ready (rs:=[4]) (by decide +kernel) (by simp) (AllReadyIn.cons rfl (fun K hK=> ?_) AllReadyIn.nil)
    obtain⟨i0,hi,hz0,hz1,hz2⟩:=info_parts info_rlR;refine stepIn_append_own W' rfl _ _ 159 rfl w3.heap.size 162 i0 (.agg #[.int .u8 0,.int .i64 0,.bool false,.slice none 0 0]) 4 48 Tryz.underlying159 hi hz0 hz1 hz2 rfl (by decide) (.slice UA ps.length Uc) ps.length (flatL ps) (by simp[Act.eval,Act.put]) hrow ad 1 1 [.int .u8 y.op.toNat,.int .i64 y.mod,.bool y.neg,.slice VA y.rng.length Vc] (by simp[Act.eval,Act.put]) rfl hnew (by simp[Value.oneCell']) (by unfold maxLen;omega) (by omega) hsz ?_
    intro v' w7 hown hg;refine hK _ _ ?_;obtain⟨A7,c7,rfl,_⟩:=own_slice hown;have b7:=blkGrown hst.box hg (fun e=>own_blkR hst.part.row hst.box (by decide) e.symm)
    have q3:w7.cell? ⟨W.heap.size,0,none⟩=some (.slice UA ps.length Uc):=(b7.cell 0).trans rfl;have f3:=b7.frozen 0;have HPu:=hid (hst.push (x:=(y,.slice VA y.rng.length Vc)) hV hg hown hBN2 hGB2 hB2 (Nat.le_refl _) (by omega) hWM)
    clear hst hnew hown hg b7 hrow hK hV;refine wpAnyIn_ready (rs:=[5]) (by decide +kernel) (by simp) (AllReadyIn.cons rfl (fun K hK=> ?_) AllReadyIn.nil)
    have HK:=hid hK;clear hK
    go_simp
    refine HK.out _ _ (wpAnyIn_done (by decide +kernel) ?_ _)
    have hp:=HPu.out;refine⟨hp.kf,hp.sq,hp.below,hp.size,_,_,hp.box,?_,hp.part⟩;rw[List.map_append,HJ4.out,HTj.out]
    rfl
  case done2=>
   rintro W4 ⟨j1,j2,u,ps,j3,j4,j5⟩;rw[List.take_of_length_le (show(partOf x).length≤(pcsS [32,97,110,100,32] x).length by unfold partOf;rw[List.length_map];exact Nat.le_refl _)]at j4
   have hb4:Below w.heap.size w W4:=HI1.out.trans (j1.mono hWl);have o4:Blk W4 w.heap.size 102 #[v]:=HI3.out.below j1 HI3.out.lt;have r4:RuleV wt.heap.size W4 us v:=HI5.out.below j1 (Nat.le_refl _);have hN4:wt.heap.size≤W4.heap.size:=Nat.le_trans i2 j1.size;have p4:PartV wt.heap.size W4 ps u:=j5.mono (Nat.le_trans i2 HB3.out.size);obtain⟨UA,Uc,rfl,_⟩:=own_slice j5.row;obtain⟨VA,Vc,rfl,_⟩:=own_slice r4.row;have x0:W4.cell? ⟨w.heap.size,0,none⟩=some (.slice VA us.length Vc):=(o4.cell 0).trans rfl;have x1:W4.cell? ⟨W.heap.size,0,none⟩=some (.slice UA ps.length Uc):=(j3.cell 0).trans rfl;have hrow:=r4.row;have hwN:w.heap.size≤wt.heap.size:=by omega
   obtain⟨W5,eW5⟩:∃ W5,W5=W4.alloc (.cells #[.slice UA ps.length Uc] 159):=⟨_,rfl⟩;have hb45:Below W4.heap.size W4 W5:=by rw[eW5];exact(Below.refl _ _).alloc (Nat.le_refl _) _
   have hnew:∀ j u,[Value.slice UA ps.length Uc][j]? =some u→W5.cell? ((⟨W4.heap.size,0,none⟩:Addr).add j)=some u:=by rw[eW5];exact one_new _ _ _
   have hb5:=hid (hb4.trans (hb45.mono hb4.size));have hr5:=hid (r4.below hb45 (Nat.le_refl _));have hp5:=hid (p4.below hb45 (Nat.le_refl _));have ho5:=hid (o4.below hb45 o4.lt);have hw5:=hid (j1.trans (hb45.mono j1.size));have hN5:wt.heap.size≤W5.heap.size:=Nat.le_trans hN4 hb45.size;have HNew:=hid hnew;have HW5:=hid eW5;have HJ4:=hid j4;clear j1 j2 j3 j4 j5 hb4 o4 r4 p4 hb45 hnew eW5 HI1 HI3 HI5 HB3 M3 HVW HV hz3 hzt hrow;obtain⟨i0,hi,hz0,hz1,hz2⟩:=info_parts info_partR
   gi_wp2_with (gi_at_builtin;rw[←HW5.out];refine wpListIn_append_own _ rfl _ _ 102 rfl wt.heap.size 159 i0 (.slice none 0 0) 1 24 Tryz.underlying102 hi hz0 hz1 hz2 rfl (by decide) (.slice VA us.length Vc) us.length (us.map (·.2)) rfl hr5.out.row ⟨W4.heap.size,0,none⟩ 1 1 [.slice UA ps.length Uc] rfl rfl HNew.out (by simp[Value.oneCell']) (by unfold maxLen;omega) (by omega) hN5 ?_)
   intro v' w7 hown hg _;obtain⟨A7,c7,rfl,_⟩:=own_slice hown;have b7:=blkGrown ho5.out hg (fun e=>own_blkR hr5.out.row ho5.out (by decide) e.symm)
   have q3:w7.cell? ⟨w.heap.size,0,none⟩=some (.slice VA us.length Vc):=(b7.cell 0).trans rfl;have f3:=b7.frozen 0;have HPu:=hid (OuI.push (k:=k+1) (R:=ruleOf s) hb5.out hN5 ho5.out hr5.out hp5.out hg hown (Nat.le_refl _) hwN (by rw[HI4.out,HJ4.out,HTk.out]))
   have HKf:Hid (KeepsFrom wt.heap.size W (w7.setCell ⟨w.heap.size,0,none⟩ (.slice A7 (us.length+1) c7))):=hid ((kf_below (N:=wt.heap.size) hw5.out).trans ((kf_grown hg (own_row hr5.out.row)).trans (kf_set _ _ _ _ b7)));have HSq:Hid (SqK B W (w7.setCell ⟨w.heap.size,0,none⟩ (.slice A7 (us.length+1) c7))):=hid ((sqk_below (B:=B) hw5.out).trans ((sqk_grown hg (fun r e=>by have:=(own_lt hr5.out.row e).1;omega) hGB).trans (sqk_set _ _ _ _ (by omega) (.inl hB0))))
   clear hown hg b7 hb5 hr5 hp5 ho5 hw5 HNew HW5
   gi_wp2
   exact⟨HKf.out,HSq.out,HPu.out⟩
 case done=>
  rintro D W hD ⟨i1,i2,v,us,i3,i4,i5⟩ hK;rw[List.take_of_length_le (show(ruleOf s).length≤(pcsS [32,111,114,32] s).length by unfold ruleOf;rw[List.length_map];exact Nat.le_refl _)]at i4
  have hrl:=rule_len s;have hin:RuIn W 0 v (ruleOf s):=⟨by rw[←i4];exact i5.list (Nat.zero_le _) (Nat.le_refl _),by omega,fun p hp=>by have:=(hrl.2 p hp).1;omega,fun p hp r hr=>by have:=(hrl.2 p hp).2 r hr;omega⟩
  have HT:=hid (Text_any (ruleOf s) v 0 W hin (HV.out.below i1));obtain⟨VA,Vc,rfl,_⟩:=own_slice i5.row;have x0:W.cell? ⟨w.heap.size,0,none⟩=some (.slice VA us.length Vc):=(i3.cell 0).trans rfl;have HI1:=hid i1;have HI3:=hid i3;have HI4:=hid i4;have HI5:=hid i5;have hDB:w.heap.size+1≤D:=by omega
  have hNw:w.heap.size≤wt.heap.size:=by omega
  have HKD:=hid hK;have HOk:Hid (ParseOkR s↔checkR (ruleOf s)=0∧textR (ruleOf s)=s):=hid Iff.rfl;clear i1 i2 i3 i4 i5 hK hin hrl HBt Mt HV hzt hsq
  gi_wp2
  refine⟨trivial,(callsIn_wide.2 HT.out).mono ?_⟩;clear HT;rintro e w8 ⟨rfl,hb8⟩;have HB8:=hid hb8;have y0:w8.cell? ⟨w.heap.size,0,none⟩=some (.slice VA us.length Vc):=((HI3.out.below hb8 HI3.out.lt).cell 0).trans rfl;have HK8:Hid (w8.heap[D]? =some (.deferred (some []))):=hid ((hb8.block D (Array.getElem?_eq_some_iff.1 HKD.out).1).trans HKD.out);clear hb8 x0 HKD;have hb9:Below w.heap.size w (w8.putObj D (.deferred none)):=(HI1.out.trans (HB8.out.mono HI1.out.size)).trans (belowK_b (w:=w) (Nat.le_refl _) w8 D _ _ (by omega) HK8.out rfl rfl)
  have r9:RuleV w.heap.size (w8.putObj D (.deferred none)) us (.slice VA us.length Vc):=by
   have h1:=(HI5.out.below HB8.out (Nat.le_refl _)).nc (grownBy_putObj' w8 D (.deferred none)) (fun r e=>by cases e;exact⟨_,HK8.out,rfl⟩)
   exact⟨own_mono h1.row hNw,fun x hx=>(h1.part x hx).mono hNw⟩
  have HB9:=hid hb9;have HR9:=hid r9;clear hb9 r9;generalize textR (ruleOf s)=tx at *;generalize checkR (ruleOf s)=ck at*
  by_cases h0:ck=0
  ·subst h0;rw[if_pos rfl,errR_zero]
   by_cases h1:tx=s
   ·have HY:Hid (ParseOkR s):=hid (HOk.out.2 ⟨rfl,h1⟩);subst h1;clear HOk
    gi_wp2
    refine⟨by simp,.inl ⟨_,_,rfl,run_takeDeferred HK8.out,?_⟩⟩
    exact⟨_,results_tmp2 rfl _ _ _,HB9.out,.inl ⟨HY.out,_,us,rfl,HI4.out,HR9.out⟩⟩
   ·have HY:Hid (¬ ParseOkR s):=hid fun h=>h1 (HOk.out.1 h).2;have hq:((str tx).toList == (str s).toList)=false:=(eqs_false _ _).2 fun e=>h1 (by have:=congrArg bts e;rwa[bts_str,bts_str]at this)
    clear HOk h1
    gi_wp2
    refine⟨by simp,.inl ⟨_,_,rfl,run_takeDeferred HK8.out,?_⟩⟩
    exact⟨_,results_tmp2 rfl _ _ _,HB9.out,.inr ⟨HY.out,rfl⟩⟩
  ·have HY:Hid (¬ ParseOkR s):=hid fun h=>h0 (HOk.out.1 h).1;rw[if_neg h0,errR_ne h0];clear h0 HOk
   gi_wp2
   refine⟨by simp,.inl ⟨_,_,rfl,run_takeDeferred HK8.out,?_⟩⟩
   exact⟨_,results_tmp2 rfl _ _ _,HB9.out,.inr ⟨HY.out,rfl⟩⟩
end Go.Proofs.YtagfnpdoooachaaGreatDoor
