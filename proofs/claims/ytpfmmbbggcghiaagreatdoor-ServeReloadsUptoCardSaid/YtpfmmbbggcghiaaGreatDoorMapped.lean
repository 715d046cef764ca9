/- The walk of package chain: Chain. -/
import Derived.Test.YtpfmmbbggcghiaaGreatDoorChainW
import Derived.Lib.OwnBridge
import Derived.Lib.AppendZeros
set_option linter.unusedSimpArgs false
set_option linter.unusedVariables false
set_option maxHeartbeats 1600000
set_option maxRecDepth 100000
namespace Go.Proofs.YtpfmmbbggcghiaaGreatDoor
open Go.RowKit
open Lib (hid)
theorem info_tag:(Tryz.prog.info? 44).map (fun i=>(i.zero,i.size,i.bytes))=some (some (.agg #[.string ⟨#[]⟩,.string ⟨#[]⟩,.string ⟨#[]⟩,.slice none 0 0]),4,72):=by kernel_rfl
structure TagIn (w:World) (p:Tg×Value):Prop where
 lo:∃ lo,ListOk Enc.str w lo w.heap.size p.2 p.1.vars
 len:p.1.vars.length≤140737488355328
 vars:∀ s∈p.1.vars,s.size≤9223372036854775807
 lang:p.1.lang.size≤9223372036854775807
 script:p.1.script.size≤9223372036854775807
 region:p.1.region.size≤9223372036854775807
theorem TagIn.below {w w':World} {p:Tg×Value} (h:TagIn w p) (hb:Below w.heap.size w w'):TagIn w' p:=
 ⟨let ⟨lo,hl⟩:=h.lo;⟨lo,(hl.below Enc.str_laws hb).mono Enc.str_laws (Nat.le_refl _) hb.size⟩,h.len,h.vars,h.lang,h.script,h.region⟩
theorem check_in {w:World} {p:Tg×Value} (h:TagIn w p):
 Calls Tryz.prog 47 #[.agg #[.string p.1.lang,.string p.1.script,.string p.1.region,p.2]] w fun e w'=>e=.returned (errV (tagFault p.1))∧Below w.heap.size w w':=by
 obtain⟨lo,hl⟩:=h.lo;exact check_any p.1 p.2 w lo hl h.len h.vars h.lang h.script h.region
theorem flatT_snoc (ps:List (Tg×Value)) (q:Tg×Value):flatT (ps++[q])=flatT ps++tagCells q:=by simp[flatT]
theorem Rowed.push {base:Nat} {W w':World} {o v':Value} {ps:List (Tg×Value)} {q:Tg×Value} (h:Rowed base W o ps) (hq:VarRow base W q) (hap:∀ p∈ps,Apart p q) (hg:W.grownBy w' o.ownBlock)
 (hown:w'.ownsRow base 44 4 v' (ps.length+1) (flatT ps++tagCells q)):Rowed base w' v' (ps++[q]):=by
 have keep:∀ p,VarRow base W p→VarRow base w' p:=fun p hp=>own_keep hp fun g hpg hlt=>hg.block g hlt fun e=>own_types hp h.own (by decide) hpg e.symm
 refine⟨?_,fun p hp=> ?_,?_⟩
 ·rw[flatT_snoc];have e:(ps++[q]).length=ps.length+1:=by simp
  rw[e];exact hown
 ·rcases List.mem_append.1 hp with hp|hp
  ·exact keep p (h.vars p hp)
  ·rw[List.mem_singleton.1 hp];exact keep q hq
 ·refine List.pairwise_append.2 ⟨h.apart,List.pairwise_singleton _ _,fun a ha b hb=> ?_⟩;rw[List.mem_singleton.1 hb];exact hap a ha
theorem less_step {base:Nat} {W w':World} {o:Value} {t:Tg} {ps:List (Tg×Value)} {p q:Tg×Value} {b:Bool} (h:Rowed base W o ps) (hp:VarRow base W p) (hbase:base≤W.heap.size)
 (hb:Below W.heap.size W w') (hl:Lessed W w' p q b) (ps0:List (Tg×Value)) (hps:ps=ps0++[p]) (hc:chainOf t=ps0.map Prod.fst++chainOf p.1):
 Rowed base w' o ps∧chainOf t=ps.map Prod.fst++(if b then chainOf q.1 else [])∧VarRow base w' q∧(b=true→∀ x∈ps,Apart x q)∧(b=true→deg q.1 < deg p.1)∧q.1.vars.length≤p.1.vars.length:=by
 refine⟨h.below hb (Nat.le_refl _),?_⟩;have hp':VarRow base w' p:=own_below hp hb (Nat.le_refl _);rcases hl with⟨hn,rfl,rfl⟩|⟨u,hu,rfl,rfl,hv⟩
 ·refine⟨?_,hp',fun h=>(by cases h),fun h=>(by cases h),Nat.le_refl _⟩
  rw[hc,hps,chainOf_none hn];simp
 ·refine⟨?_,?_,fun _ x hx=> ?_,fun _=>less_deg hu,?_⟩
  ·rw[hc,hps,chainOf_some hu];simp
  ·rcases hv with hv|⟨h1,h2,h3⟩
   ·exact own_mono hv hbase
   ·unfold VarRow at hp' ⊢;rw[h1,h3];rw[h2]at hp';exact hp'
  ·rcases hv with hv|⟨h1,h2,h3⟩
   ·intro _ g hg hg';have h1:=(own_lt hv hg').1;have h2:=(own_lt (h.vars x hx) hg).2;omega
   ·intro h0;rw[h3]at h0;exact absurd h0 (by simp)
  ·unfold less at hu;split at hu
   ·injection hu with hu;rw[←hu];simp
   ·split at hu
    ·split at hu
     ·cases hu
     ·injection hu with hu;rw[←hu];exact Nat.le_refl _
    ·injection hu with hu;rw[←hu];exact Nat.le_refl _
def lenV:Value→Nat
 | .slice _ n _=>n
 | _=>0
structure Chained (w wr:World) (t:Tg) (ps:List (Tg×Value)) (q:Tg×Value) (b:Bool) (o:Value) (nb:Nat):Prop where
 below:Below w.heap.size w wr
 rowed:Rowed w.heap.size wr o ps
 box:Blk wr nb 44 #[.string q.1.lang,.string q.1.script,.string q.1.region,q.2]
 old:∀ g,o.ownBlock=some g→g < nb
 base:w.heap.size≤nb
 sum:chainOf t=ps.map Prod.fst++(if b then chainOf q.1 else [])
 qv:VarRow w.heap.size wr q
 ap:b=true→∀ x∈ps,Apart x q
 len:q.1.vars.length≤3
 deg:ps.length+(if b then deg q.1+1 else 0)≤6
theorem chain_ok (p:Tg×Value) (w:World) (h:TagIn w p) (hf:tagFault p.1=0):
 Calls Tryz.prog 35 #[.agg #[.string p.1.lang,.string p.1.script,.string p.1.region,p.2]] w fun e w'=>Below w.heap.size w w'∧∃ u,e=.returned (.tuple #[u,.nilIface])∧TagRow w.heap.size w' u (chainOf p.1):=by
 have HC:Hid (∀ W,Below w.heap.size w W→Calls Tryz.prog 47 #[.agg #[.string p.1.lang,.string p.1.script,.string p.1.region,p.2]] W fun e w'=>e=.returned .nilIface∧Below W.heap.size W w'):=fun W hW=>by
  have:=check_in (h.below hW);rw[hf]at this;exact this
 have HL:Hid (p.1.vars.length≤3):=by
  by_cases h3:p.1.vars.length≤3
  ·exact h3
  ·exfalso
   unfold tagFault at hf;split at hf
   ·cases hf
   ·split at hf
    ·rw[if_pos (by omega)]at hf;cases hf
    ·contradiction
 clear hf;obtain⟨⟨l,s,r,vs⟩,v⟩:=p;obtain⟨lo,hl⟩:=h.lo;clear h;dsimp only at hl HC HL ⊢;obtain⟨A,c,rfl,hc⟩:=hl.form;have HN:Hid (∀ W,Below w.heap.size w W→(vs.length=0∨∃ b o,A=some ⟨b,o,none⟩∧∀ j u,(vs.map Value.string)[j]? =some u→W.cell? ⟨b,o+j,none⟩=some u)):=fun W hW=>news_strs (hl.below Enc.str_laws hW);clear hl
 go_enter Tryz.func35,Tryz.ntmps35
 go_wp2_with fail
 refine(HC.out _ ((Below.refl _ _).alloc (Nat.le_refl _) _)).mono ?_;rintro e w1 ⟨rfl,hb⟩;have HB:Hid (Below w.heap.size w w1):=((Below.refl _ _).alloc (Nat.le_refl _) _).trans (hb.mono (by simp))
 have m0:Blk w1 w.heap.size 44 #[.string l,.string s,.string r,.slice A vs.length c]:=(Blk.new _ _ _).below hb (by simp)
 have hsz:=hb.size;simp only[World.size_alloc]at hsz;clear hb HC;have c0:=m0.cell 0;have c1:=m0.cell 1;have c2:=m0.cell 2;have c3:=m0.cell 3;have f3:=m0.frozen 3;have M0:=hid m0;clear m0;simp at c0 c1 c2 c3
 go_wp2_with (at_builtin;refine wpList_append_any rfl _ _ 42 rfl (w.heap.size+1) 9 Tryz.underlying42 info_string rfl (by decide) [] rfl own_nil (vs.map .string) rfl (by simp) (HN.out _ HB.out) (strs_oneCell _) (by have:=HL.out;unfold maxLen;omega) (by have:=HL.out;omega) hsz ?_)
 intro v1 w2 hown hgrow hblk;obtain⟨A1,cap1,rfl,hcap1⟩:=own_slice hown;have hgrow':w1.grownBy w2 none:=hgrow;have hsz2:=hgrow'.size;have hsize1:w.heap.size < w1.heap.size:=hsz;have hlt2:w.heap.size < w2.heap.size:=by omega
 have m2:Blk w2 w.heap.size 44 #[.string l,.string s,.string r,.slice A vs.length c]:=(hgrow'.block _ hsize1 (by simp)).trans M0.out
 have HB2:Hid (Below w.heap.size w w2):=HB.out.grown hgrow (by omega) (by simp[Value.ownBlock])
 have OW:=hid hown;clear HB M0 c0 c1 c2 c3 f3 HN hown hgrow hgrow' hblk hsz;have c0:=m2.cell 0;have c1:=m2.cell 1;have c2:=m2.cell 2;have c3:=m2.cell 3;have f3:=m2.frozen 3;simp at c0 c1 c2 c3;clear m2
 go_wp2_with fail
 obtain⟨W3,hW3⟩:∃ W3,W3=(w2.setCell ⟨w.heap.size,3,none⟩ (.slice A1 vs.length cap1)).alloc (.cells #[.string l,.string s,.string r,.slice A1 vs.length cap1] 44):=⟨_,rfl⟩;have hv3:VarRow w.heap.size W3 (⟨l,s,r,vs⟩,.slice A1 vs.length cap1):=by
  rw[hW3];refine own_mono (own_keep OW.out fun g hg hlt=> ?_) (base':=w.heap.size) (by omega)
  have:=(own_lt OW.out hg).1;rw[Below.heap_alloc _ _ _ (by simp;omega),Below.heap_setCell _ _ _ _ (by simp;omega)]
 have hr3:Rowed w.heap.size W3 (.slice (some ⟨w2.heap.size,0,none⟩) 1 1) [(⟨l,s,r,vs⟩,.slice A1 vs.length cap1)]:=by
  refine⟨⟨rfl,.inr ⟨w2.heap.size,1,#[.string l,.string s,.string r,.slice A1 vs.length cap1],rfl,by omega,?_,by simp,by unfold maxLen;omega,rfl,rfl⟩⟩,fun p hp=> ?_,List.pairwise_singleton _ _⟩
  ·rw[hW3];simpa using heap_alloc_new (w2.setCell ⟨w.heap.size,3,none⟩ (.slice A1 vs.length cap1)) (.cells #[.string l,.string s,.string r,.slice A1 vs.length cap1] 44)
  ·rw[List.mem_singleton.1 hp];exact hv3
 have hb3:Below w.heap.size w W3:=by
  rw[hW3];exact(HB2.out.setCell (by simp) _).alloc (by simp;omega) _
 have hs3:w2.heap.size < W3.heap.size:=by rw[hW3];simp
 rw[←hW3];clear hW3;have hlo3:w.heap.size≤W3.heap.size:=by omega
 have HL3:=less_any (⟨l,s,r,vs⟩,.slice A1 vs.length cap1) W3 w.heap.size (hv3.list (Nat.le_refl _) (Nat.le_refl _)) (by have:=HL.out;dsimp only;omega)
 refine HL3.mono ?_;rintro e w4 ⟨hb4,q,b,rfl,hl⟩;have hstep:=less_step (t:=⟨l,s,r,vs⟩) hr3 hv3 hlo3 hb4 hl [] rfl rfl;have hd:deg ⟨l,s,r,vs⟩≤5:=by
  have:=HL.out;simp only[deg];split <;> split <;> omega
 have hs4:=hb4.size;obtain⟨g1,g2,g3,g4,g5,g6⟩:=hstep;obtain⟨⟨ql,qs,qr,qv⟩,qV⟩:=q;obtain⟨A2,cap2,hq2,_⟩:=own_slice g3;dsimp only at hq2;subst hq2;have H4:Hid (∀ wr nb,Below w4.heap.size w4 wr→nb=w4.heap.size→Blk wr nb 44 #[.string ql,.string qs,.string qr,.slice A2 qv.length cap2]→Chained w wr ⟨l,s,r,vs⟩ [(⟨l,s,r,vs⟩,.slice A1 vs.length cap1)] (⟨ql,qs,qr,qv⟩,.slice A2 qv.length cap2) b (.slice (some ⟨w2.heap.size,0,none⟩) 1 1) nb):=fun wr nb hwr hnb hbx=>
  ⟨hb3.trans ((hb4.mono hlo3).trans (hwr.mono (by omega))),g1.below hwr (Nat.le_refl _),hbx,fun g hg=>by simp[Value.ownBlock]at hg;omega,by omega,g2,own_below g3 hwr (Nat.le_refl _),g4,by have:=HL.out;dsimp only at g6 ⊢;omega,by
    cases b with
    | true=>have:=g5 rfl;dsimp only at this;simp only[if_true,List.length_singleton];omega
    | false=>simp⟩
 clear hr3 hv3 hb3 hb4 hl HL3 g1 g2 g3 g4 g5 g6 HB2 OW hs4 hs3 hlo3 hd c0 c1 c2 c3 f3 hsz2 hsize1 hlt2;dsimp only at H4 ⊢
 go_wp2_with fail
 go_loopw [5,6,7] (fun o nx f wr=>∃ ps q b nb,nx=.pointer (some ⟨nb,0,none⟩)∧f=.bool b∧Chained w wr ⟨l,s,r,vs⟩ ps q b o nb) (fun o _ _ _=>7 - lenV o)
 case atStart=>exact⟨_,_,b,_,rfl,rfl,H4.out _ _ ((Below.refl _ _).alloc (Nat.le_refl _) _) rfl (Blk.new _ _ _)⟩
 case round=>
  obtain⟨ps,⟨⟨ql,qs,qr,qv⟩,qV⟩,b,nb,rfl,rfl,H⟩:=hrel;cases b with
  | false=>
    have HH:=hid H;clear H H4
    go_wp2_with fail
    go_ret2
    exact⟨HH.out.below,_,rfl,_,by rw[HH.out.sum];simp,HH.out.rowed⟩
  | true=>
    obtain⟨A2,cap2,hq2,_⟩:=own_slice H.qv;obtain⟨B2,capo,ho2,hco⟩:=own_slice H.rowed.own;dsimp only at hq2;subst hq2;subst ho2;have m:=H.box;dsimp only at m;have c0:=m.cell 0;have c1:=m.cell 1;have c2:=m.cell 2;have c3:=m.cell 3;have hlt:=m.lt;simp at c0 c1 c2 c3;clear m;have HH:=hid H;clear H H4;have hnews:∀ j u,([Value.string ql,.string qs,.string qr,.slice A2 qv.length cap2]:List Value)[j]? =some u→(wr.alloc (.cells #[.string ql,.string qs,.string qr,.slice A2 qv.length cap2] 44)).cell? ⟨wr.heap.size,0+j,none⟩=some u:=fun j u hj=>by
     rw[Nat.zero_add,(Blk.new wr 44 #[.string ql,.string qs,.string qr,.slice A2 qv.length cap2]).cell j];simpa using hj
    have hro:=own_keep (w':=wr.alloc (.cells #[.string ql,.string qs,.string qr,.slice A2 qv.length cap2] 44)) HH.out.rowed.own (fun g _ hg=>Below.heap_alloc _ _ _ hg);have hps:ps.length≤5:=by have:=HH.out.deg;simp only[if_true]at this;omega
    have hbs:w.heap.size≤wr.heap.size:=HH.out.below.size
    go_wp2_with (at_builtin;refine wpList_append_any rfl _ _ 87 rfl w.heap.size 44 Tryz.underlying87 info_tag rfl (by decide) (flatT ps) rfl hro [.string ql,.string qs,.string qr,.slice A2 qv.length cap2] rfl rfl (.inr ⟨_,_,rfl,hnews⟩) (by simp[Value.oneCell']) (by unfold maxLen;omega) (by omega) (by simp;omega) ?_)
    intro vo w5 hown hgrow _;obtain⟨B3,cap3,rfl,_⟩:=own_slice hown;have hr1:Rowed w.heap.size (wr.alloc (.cells #[.string ql,.string qs,.string qr,.slice A2 qv.length cap2] 44)) (.slice B2 ps.length capo) ps:=HH.out.rowed.keep fun g _ hg=>Below.heap_alloc _ _ _ hg;have hq1:VarRow w.heap.size (wr.alloc (.cells #[.string ql,.string qs,.string qr,.slice A2 qv.length cap2] 44)) (⟨ql,qs,qr,qv⟩,.slice A2 qv.length cap2):=own_keep HH.out.qv fun g _ hg=>Below.heap_alloc _ _ _ hg;have hr5:=Rowed.push hr1 hq1 (HH.out.ap rfl) hgrow hown;have hsz5:=hgrow.size;simp only[World.size_alloc]at hsz5;have hb5:Below w.heap.size w w5:=(HH.out.below.alloc hbs _).grown hgrow (by simp;omega) (fun k hk=>(own_lt HH.out.rowed.own hk).1)
    have m5:Blk w5 nb 44 #[.string ql,.string qs,.string qr,.slice A2 qv.length cap2]:=(hgrow.block nb (by simp;omega) (fun e=>by have:=HH.out.old nb e.symm;omega)).trans (HH.out.box.alloc _)
    have hq5:VarRow w.heap.size w5 (⟨ql,qs,qr,qv⟩,.slice A2 qv.length cap2):=hr5.vars _ (by simp)
    have hold:∀ g,(Value.slice B3 (ps.length+1) cap3).ownBlock=some g→g < w5.heap.size:=fun g hg=>(own_lt hown hg).2;have hbase5:w.heap.size≤w5.heap.size:=by omega
    have hsum:chainOf ⟨l,s,r,vs⟩=ps.map Prod.fst++chainOf ⟨ql,qs,qr,qv⟩:=by have:=HH.out.sum;simpa using this
    have hdeg:=HH.out.deg;have hlen:=HH.out.len;simp only[if_true]at hdeg hlen;have H5:Hid (∀ w6 q b,Below (w5.heap.size+1) (w5.alloc (.cells #[.string ql,.string qs,.string qr,.slice A2 qv.length cap2] 44)) w6→Lessed (w5.alloc (.cells #[.string ql,.string qs,.string qr,.slice A2 qv.length cap2] 44)) w6 (⟨ql,qs,qr,qv⟩,.slice A2 qv.length cap2) q b→
     (∃ A c,q.2=.slice A q.1.vars.length c)∧∀ wr',Below w5.heap.size w6 wr'→(∀ g,w5.heap.size < g→g < w6.heap.size→wr'.heap[g]? =w6.heap[g]?)→Blk wr' w5.heap.size 44 #[.string q.1.lang,.string q.1.script,.string q.1.region,q.2]→
       Chained w wr' ⟨l,s,r,vs⟩ (ps++[(⟨ql,qs,qr,qv⟩,.slice A2 qv.length cap2)]) q b (.slice B3 (ps.length+1) cap3) w5.heap.size):=fun w6 q b hb6 hl=>by
     have e6:(w5.alloc (.cells #[.string ql,.string qs,.string qr,.slice A2 qv.length cap2] 44)).heap.size=w5.heap.size+1:=by simp
     have hst:=less_step (t:=⟨l,s,r,vs⟩) (hr5.keep fun g _ hg=>Below.heap_alloc w5 (.cells #[.string ql,.string qs,.string qr,.slice A2 qv.length cap2] 44) _ hg) (own_keep hq5 fun g _ hg=>Below.heap_alloc w5 (.cells #[.string ql,.string qs,.string qr,.slice A2 qv.length cap2] 44) _ hg) (by omega) (by rw[e6];exact hb6) hl ps rfl hsum
     obtain⟨g1,g2,g3,g4,g5,g6⟩:=hst;refine⟨let ⟨A,c,h,_⟩:=own_slice g3;⟨A,c,h⟩,fun wr' hbr hkeep hbx=> ?_⟩
     have keep:∀ g,g≠w5.heap.size→g < w6.heap.size→wr'.heap[g]? =w6.heap[g]? :=fun g hg hlt=>by
      rcases Nat.lt_or_ge g w5.heap.size with h|h
      ·exact hbr.block g h
      ·exact hkeep g (by omega) hlt
     have hne:∀ {base:Nat} {e:TypeId} {size:Nat} {v:Value} {n:Nat} {xs:List Value},w6.ownsRow base e size v n xs→e≠44→∀ g,v.ownBlock=some g→g≠w5.heap.size:=by
      intro base e size v n xs ho he g hg hgw;subst hgw;obtain⟨_,⟨h2,_⟩|⟨g1,cap,cur,hv,hb,hh,r⟩⟩:=ho
      ·rw[h2]at hg;cases hg
      ·rw[hv]at hg;injection hg with hg;dsimp only at hg;subst hg;have h2:w6.heap[w5.heap.size]? =_:=(hb6.block w5.heap.size (by omega)).trans (heap_alloc_new w5 _)
       rw[h2]at hh;injection hh with hh;injection hh with _ hh;exact he hh.symm
     refine⟨hb5.trans (((Below.refl _ _).alloc (Nat.le_refl _) _).mono hbase5 |>.trans ((hb6.mono (by omega)).trans (hbr.mono hbase5))),⟨own_keep g1.own fun g hg hlt=>keep g (by have:=hold g hg;omega) hlt,fun p hp=>own_keep (g1.vars p hp) fun g hg hlt=>keep g (hne (g1.vars p hp) (by decide) g hg) hlt,g1.apart⟩,hbx,hold,hbase5,g2,own_keep g3 fun g hg hlt=>keep g (hne g3 (by decide) g hg) hlt,g4,by dsimp only at g6;omega,?_⟩
     cases b with
     | true=>have:=g5 rfl;dsimp only at this;simp only[if_true,List.length_append,List.length_singleton];omega
     | false=>simp;omega
    have hL5:∀ W,W=w5.alloc (.cells #[.string ql,.string qs,.string qr,.slice A2 qv.length cap2] 44)→ListOk Enc.str W w.heap.size W.heap.size (.slice A2 qv.length cap2) qv:=fun W hW=>by
     subst hW;exact VarRow.list (base:=w.heap.size) (p:=(⟨ql,qs,qr,qv⟩,.slice A2 qv.length cap2)) (own_keep hq5 fun g _ hg=>Below.heap_alloc _ _ _ hg) (Nat.le_refl _) (Nat.le_refl _)
    have HL5:=hid hL5;have hlt5:nb < w5.heap.size:=by omega
    clear hr1 hq1 hr5 hown hgrow hq5 hL5 hro hnews hold hsum hdeg HH hb5 c0 c1 c2 c3;have c0:=m5.cell 0;have c1:=m5.cell 1;have c2:=m5.cell 2;have c3:=m5.cell 3;simp at c0 c1 c2 c3;clear m5
    go_wp2_with fail
    have HL6:=less_any (⟨ql,qs,qr,qv⟩,.slice A2 qv.length cap2) (w5.alloc (.cells #[.string ql,.string qs,.string qr,.slice A2 qv.length cap2] 44)) w.heap.size (HL5.out _ rfl) (by dsimp only;omega)
    refine HL6.mono ?_;clear HL6 HL5;rintro e w6 ⟨hb6,⟨⟨ql',qs',qr',qv'⟩,qV'⟩,b',rfl,hl⟩;obtain⟨⟨A6,c6,hq6⟩,HC6⟩:=H5.out w6 _ b' (by simpa using hb6) hl
    dsimp only at hq6;subst hq6;have H6:=hid HC6;have m6:Blk w6 w5.heap.size 44 #[.string ql,.string qs,.string qr,.slice A2 qv.length cap2]:=(Blk.new _ _ _).below hb6 (by simp)
    clear H5 hl HC6 hb6 c0 c1 c2 c3;have d0:=m6.cell 0;have d1:=m6.cell 1;have d2:=m6.cell 2;have d3:=m6.cell 3;have f0:=m6.frozen 0;have f1:=m6.frozen 1;have f2:=m6.frozen 2;have f3:=m6.frozen 3;simp at d0 d1 d2 d3;have M6:=hid m6;clear m6
    go_wp2_with fail
    go_roundw
    case rel=>
     refine⟨_,_,b',_,rfl,rfl,H6.out _ ?_ ?_ ?_⟩
     ·repeat' (first|exact Below.refl _ _|(refine Below.setCell ?_ (by simp) _))
     ·intro g hg hlt
      repeat rw[Below.heap_setCell _ _ _ _ (by simp;omega)]
     ·have:=(((M6.out.set_ 0 (.string ql')).set_ 1 (.string qs')).set_ 2 (.string qr')).set_ 3 (.slice A6 qv'.length c6);simpa using this
    case measure=>simp[lenV];omega
end Go.Proofs.YtpfmmbbggcghiaaGreatDoor
namespace Go.Proofs.YtpfmmbbggcghiaaGreatDoor
open Go.RowKit Go.Lib Go.Sort
open Lib (hid)
def del_ren:Go.Shelf.Ren:=⟨fun|10=>71|6=>113|n=>n,fun|22=>42|23=>9|25=>86|4=>4|3=>3|0=>0|n=>n,fun|n=>n⟩
theorem del_lays:Go.Proofs.SlLaysH.n10 Tryz.prog del_ren:= {
 mixed:=by kernel_rfl
 f6:=⟨ "slices.IndexFunc[[]string,string]",by decide,Tryz.func113.trans (congrArg some (by kernel_rfl))⟩
 f10:=⟨ "slices.DeleteFunc[[]string,string]",by decide,Tryz.func71.trans (congrArg some (by kernel_rfl))⟩
 t0:=Tryz.underlying0
 a0:=Tryz.isAgg0
 z0:=Tryz.sizeOf0
 v0:=Tryz.zeroValue0
 t3:=Tryz.underlying3
 a3:=Tryz.isAgg3
 z3:=Tryz.sizeOf3
 v3:=Tryz.zeroValue3
 t4:=Tryz.underlying4
 a4:=Tryz.isAgg4
 z4:=Tryz.sizeOf4
 v4:=Tryz.zeroValue4
 t22:=Tryz.underlying42
 a22:=Tryz.isAgg42
 z22:=Tryz.sizeOf42
 v22:=Tryz.zeroValue42
 a23:=Tryz.isAgg9
 z23:=Tryz.sizeOf9
 t25:=Tryz.underlying86
 a25:=Tryz.isAgg86
 z25:=Tryz.sizeOf86
 v25:=Tryz.zeroValue86 }
theorem bare_any (s:ByteArray) (w:World):Calls Tryz.prog 72 #[.string s] w fun e w'=>e=.returned (.bool (eqs s ByteArray.empty))∧w'=w:=by
 have h:Hid (eqs s ByteArray.empty=(s.toList == ByteArray.empty.toList)):=rfl;have e0:ByteArray.empty.toList=[]:=by decide +kernel
 rw[e0]at h
 go_enter Tryz.func72,Tryz.ntmps72
 go_wp2
 all_goals
  go_ret
  exact⟨ret_bool (by rw[h.out];simp_all),rfl⟩
theorem enters_bare:∀ args w,(callFunc 72 args).run Tryz.prog w=.ok (.enter 72 args) w:=enters_of Tryz.func72 (by kernel_rfl) rfl
theorem oneCell_string:OneCell (α:=ByteArray) Value.string:=fun _=>rfl
def full (l:List ByteArray):List ByteArray:=l.filter fun x=> !eqs x ByteArray.empty
theorem not_nil {w:World} {base:Nat} {e:TypeId} {size:Nat} {v:Value} {n:Nat} {xs:List Value} (h:w.ownsRow base e size v n xs) (hn:0 < n):v≠.slice none 0 0:=by
 obtain⟨g,cap,rfl,_⟩:=own_form h hn;intro he;cases he
theorem delete_any (l:List ByteArray) (base:Nat) (v:Value) (w:World) (hown:w.ownsRow base 9 1 v l.length (l.map .string)) (hl:0 < l.length) (hn:l.length≤1000003):
 Calls Tryz.prog 71 #[v,.func (.func 72) #[] #[]] w fun e w'=>∃ v',e=.returned v'∧w'.ownsRow base 9 1 v' (full l).length ((full l).map .string)∧Below base w w':=by
 obtain⟨g,cap,rfl,hg,hlt,hcap,_,_,hH⟩:=holds_of_ownsRow (enc:=Value.string) (zs:=l) hown (not_nil hown hl);have hp:PredAt Tryz.prog 72 #[] Value.string (fun x=>eqs x ByteArray.empty) w:=fun W x _=>(bare_any x W).mono fun e w' h=>⟨h.1,0,h.2⟩;have hpo:PredOver Tryz.prog 72 #[] Value.string (fun x=>eqs x ByteArray.empty) g 0 l.toArray.size w:=fun n os dk x _=>(bare_any x _).mono fun e w' h=>⟨h.1,0,h.2⟩;have h:=AnyE.slices_DeleteFunc del_lays Value.string oneCell_string (fun x=>eqs x ByteArray.empty) 72 #[] enters_bare ByteArray.empty Tryz.zeroValue9 g 0 cap l.toArray w hp hpo hH (by simp;omega) (by simpa using hcap)
 have e1:(l.toArray.toList.filter fun x=> !eqs x ByteArray.empty)=full l:=rfl;rw[e1]at h;have hfl:(full l).length≤l.length:=List.length_filter_le _ _;have hsz:l.toArray.size=l.length:=by simp
 rw[hsz]at h;refine h.mono ?_;rintro e w' ⟨rfl,q,rfl⟩;refine⟨_,rfl,?_,below_putRow (Below.refl _ _) hg⟩;have:=ownsRow_putRow (q:=q) (k:=(full l).length) (ys:=full l++List.replicate (l.length - (full l).length) ByteArray.empty) hown (by simp;omega) hfl
 rw[List.take_left' rfl]at this;exact this
theorem grow_any (n:Nat) (w:World) (h0:0 < n) (hn:n≤1000003):
 Calls Tryz.prog 111 #[.slice none 0 0,.int .i64 n] w fun e w'=>∃ v,e=.returned v∧w'.ownsRow w.heap.size 9 1 v 0 []∧Below w.heap.size w w':=by
 obtain⟨i,hi,hz0,hz1,hz2⟩:=info_parts info_string;have hb:=run_append_nil_zeros (P:=Tryz.prog) w 42 3 42 9 i (.string ByteArray.empty) .i64 .i64 Tryz.underlying42 Tryz.underlying3 hi hz0 n h0 (by omega) (by omega) (by rw[hz2];omega)
 have hge:=grownCap_ge w n 0 9;have hle:=grownCap_le_maxLen w n 0 9 (by unfold maxLen;omega)
 unfold maxLen at hle;clear hi hz0 hz1 hz2;generalize grownCap w n 0 9=G at hb hge hle;have HB:=hid hb;clear hb
 go_enter Tryz.func111,Tryz.ntmps111
 go_wp2_with (at_builtin;refine Lib.wpList_append_run _ rfl _ _ 42 3 rfl (.slice none 0 0) (.int .i64 n) rfl rfl _ _ HB.out ?_)
 go_ret
 refine⟨_,rfl,⟨rfl,.inr ⟨w.heap.size,G,_,rfl,Nat.le_refl _,heap_alloc_new w _,by omega,by unfold maxLen;omega,?_,rfl⟩⟩,((Below.refl _ _).alloc (Nat.le_refl _) _).drew⟩
 simp[Builtin.zeroCells];omega
def got2 (a b:List ByteArray) (j:Nat):List ByteArray:=if j=0 then []else if j=1 then a else a++b
theorem concat_any (a b:List ByteArray) (A B:Option Addr) (ca cb bk:Nat) (w:World) (hbk:bk < w.heap.size) (h0:w.cell? ⟨bk,0,none⟩=some (.slice A a.length ca)) (h1:w.cell? ⟨bk,1,none⟩=some (.slice B b.length cb))
 (hA:∀ W,Below w.heap.size w W→(a.length=0∨∃ b o,A=some ⟨b,o,none⟩∧∀ j u,(a.map Value.string)[j]? =some u→W.cell? ⟨b,o+j,none⟩=some u))
 (hB:∀ W,Below w.heap.size w W→(b.length=0∨∃ b' o,B=some ⟨b',o,none⟩∧∀ j u,(b.map Value.string)[j]? =some u→W.cell? ⟨b',o+j,none⟩=some u))
 (ha0:0 < a.length) (ha:a.length≤3) (hb:b.length≤1000000):
 Calls Tryz.prog 69 #[.slice (some ⟨bk,0,none⟩) 2 2] w fun e w'=>∃ v,e=.returned v∧w'.ownsRow w.heap.size 9 1 v (a++b).length ((a++b).map .string)∧Below w.heap.size w w':=by
 have HA:=hid hA;have HB:=hid hB;clear hA hB;have C0:Hid (∀ W,Below w.heap.size w W→W.cell? ⟨bk,0,none⟩=some (.slice A a.length ca)):=fun W hW=>(hW.cell (p:=⟨bk,0,none⟩) hbk).trans h0;have C1:Hid (∀ W,Below w.heap.size w W→W.cell? ⟨bk,1,none⟩=some (.slice B b.length cb)):=fun W hW=>(hW.cell (p:=⟨bk,1,none⟩) hbk).trans h1;have HG0:=grow_any (a.length+b.length) w (by omega) (by omega)
 rw[Int.natCast_add]at HG0;have HG:=hid HG0;clear HG0
 go_enter Tryz.func69,Tryz.ntmps69
 go_wp2
 go_loop [3,5,11] (fun s _ i=>∃ j:Nat,j≤2∧i=.int .i64 j∧s=.int .i64 ((got2 a b j).length:Nat)) (fun _ _ i=>2 - (intOf i).toNat)
 case atStart=>exact⟨0,by omega,rfl,rfl⟩
 case round=>
  obtain⟨j,hj,rfl,rfl⟩:=hrel
  by_cases j0:j=0
  ·subst j0;simp only[got2,if_true,List.length_nil]
   go_wp2
   go_round
   case rel=>exact⟨1,by omega,rfl,by simp⟩
   case measure=>simp[intOf]
  ·by_cases j1:j=1
   ·subst j1;simp only[got2,if_true,if_neg j0]
    go_wp2
    go_round
    case rel=>exact⟨2,by omega,rfl,by simp⟩
    case measure=>simp[intOf]
   ·obtain rfl:j=2:=by omega
    simp only[got2,if_neg j0,if_neg j1,List.length_append]
    go_wp2_with fail
    refine HG.out.mono ?_;rintro e w1 ⟨v,rfl,hv,hb1⟩;have HV:=hid hv;have HB1:=hid hb1;clear hv hb1 HG
    go_wp2_with fail
    go_loopw [6,8,27] (fun v _ i wr=>∃ j:Nat,j≤2∧i=.int .i64 j∧wr.ownsRow w.heap.size 9 1 v (got2 a b j).length ((got2 a b j).map .string)∧Below w.heap.size w wr) (fun _ _ i _=>2 - (intOf i).toNat)
    case atStart=>exact⟨0,by omega,rfl,HV.out,HB1.out⟩
    case round=>
     clear HV HB1;obtain⟨j,hj,rfl,hv,hb1⟩:=hrel;have d0:=C0.out _ hb1;have d1:=C1.out _ hb1;have hbs:=hb1.size;have HB1:=hid hb1;clear hb1
     by_cases k0:j=0
     ·subst k0;simp only[got2,if_true,List.length_nil,List.map_nil]at hv;have HV:=hid hv;clear hv
      go_wp2_with (at_builtin;refine wpList_append_any rfl _ _ 42 rfl w.heap.size 9 Tryz.underlying42 info_string rfl (by decide) [] rfl HV.out (a.map .string) rfl (by simp) (HA.out _ HB1.out) (strs_oneCell _) (by unfold maxLen;omega) (by omega) hbs ?_)
      intro v2 w2 hown hgrow _;have HO:Hid (w2.ownsRow w.heap.size 9 1 v2 a.length (a.map .string)):=hid (by simpa using hown)
      have HB2:Hid (Below w.heap.size w w2):=HB1.out.grown hgrow hbs (fun k hk=>(own_lt HV.out hk).1);clear hown hgrow HB1 HV
      go_wp2_with fail
      go_roundw
      case rel=>exact⟨1,by omega,rfl,by simpa[got2]using HO.out,HB2.out⟩
      case measure=>simp[intOf]
     ·by_cases k1:j=1
      ·subst k1;simp only[got2,if_true,if_neg k0]at hv;have HV:=hid hv;clear hv
       go_wp2_with (at_builtin;refine wpList_append_any rfl _ _ 42 rfl w.heap.size 9 Tryz.underlying42 info_string rfl (by decide) (a.map .string) rfl HV.out (b.map .string) rfl (by simp) (HB.out _ HB1.out) (strs_oneCell _) (by unfold maxLen;omega) (by omega) hbs ?_)
       intro v2 w2 hown hgrow _;have HO:Hid (w2.ownsRow w.heap.size 9 1 v2 (a++b).length ((a++b).map .string)):=hid (by simpa using hown)
       have HB2:Hid (Below w.heap.size w w2):=HB1.out.grown hgrow hbs (fun k hk=>(own_lt HV.out hk).1);clear hown hgrow HB1 HV
       go_wp2_with fail
       go_roundw
       case rel=>exact⟨2,by omega,rfl,by simpa[got2]using HO.out,HB2.out⟩
       case measure=>simp[intOf]
      ·obtain rfl:j=2:=by omega
       have HO:Hid (wr.ownsRow w.heap.size 9 1 u6 (a++b).length ((a++b).map .string)):=hid (by simpa[got2]using hv)
       clear hv
       go_wp2_with fail
       go_ret
       exact⟨_,rfl,HO.out,HB1.out⟩
theorem text_any (p:Tg×Value) (w:World) (h:TagIn w p) (hn:p.1.vars.length≤1000000) (hj:(tagText p.1).size≤140737488355328):
 Calls Tryz.prog 36 #[.agg #[.string p.1.lang,.string p.1.script,.string p.1.region,p.2]] w fun e w'=>e=.returned (.string (tagText p.1))∧Below w.heap.size w w':=by
 have HT:Hid (tagText p.1=⟨(Lib.join ((full ([p.1.lang,p.1.script,p.1.region]++p.1.vars)).map (·.data.toList)) dash.data.toList).toArray⟩):=rfl;have HJ:Hid ((Lib.join ((full ([p.1.lang,p.1.script,p.1.region]++p.1.vars)).map (·.data.toList)) dash.data.toList).length≤140737488355328):=by
  have:(tagText p.1).size=(Lib.join ((full ([p.1.lang,p.1.script,p.1.region]++p.1.vars)).map (·.data.toList)) dash.data.toList).length:=str_size _;rw[←this];exact hj
 clear hj;obtain⟨⟨l,s,r,vs⟩,v⟩:=p;obtain⟨lo,hl⟩:=h.lo;clear h;dsimp only at hl HT HJ hn ⊢;obtain⟨A,c,rfl,hc⟩:=hl.form;have HN:Hid (∀ W,Below w.heap.size w W→(vs.length=0∨∃ b o,A=some ⟨b,o,none⟩∧∀ j u,(vs.map Value.string)[j]? =some u→W.cell? ⟨b,o+j,none⟩=some u)):=fun W hW=>news_strs (hl.below Enc.str_laws hW);clear hl;generalize tagText ⟨l,s,r,vs⟩=out at HT ⊢
 go_enter Tryz.func36,Tryz.ntmps36
 go_wp2_with fail
 obtain⟨W3,hW3⟩:∃ W3,W3=((w.alloc (.cells #[.string l,.string s,.string r,.slice A vs.length c] 44)).alloc (.cells #[.string l,.string s,.string r] 9)).alloc (.cells #[.slice (some ⟨w.heap.size+1,0,none⟩) 3 3,.slice A vs.length c] 42):=⟨_,rfl⟩;have hb3:Below w.heap.size w W3:=by
  rw[hW3];exact(((Below.refl _ _).alloc (Nat.le_refl _) _).alloc (by simp) _).alloc (by simp;omega) _
 have hs3:W3.heap.size=w.heap.size+1+1+1:=by rw[hW3];simp
 have m1:Blk W3 (w.heap.size+1) 9 #[.string l,.string s,.string r]:=by
  rw[hW3];have:=(Blk.new (w.alloc (.cells #[.string l,.string s,.string r,.slice A vs.length c] 44)) 9 #[.string l,.string s,.string r]).alloc (.cells #[.slice (some ⟨w.heap.size+1,0,none⟩) 3 3,.slice A vs.length c] 42);simpa using this
 have m2:Blk W3 (w.heap.size+1+1) 42 #[.slice (some ⟨w.heap.size+1,0,none⟩) 3 3,.slice A vs.length c]:=by
  rw[hW3];have:=Blk.new ((w.alloc (.cells #[.string l,.string s,.string r,.slice A vs.length c] 44)).alloc (.cells #[.string l,.string s,.string r] 9)) 42 #[.slice (some ⟨w.heap.size+1,0,none⟩) 3 3,.slice A vs.length c];simpa using this
 rw[←hW3];clear hW3;have HC:=concat_any [l,s,r] vs (some ⟨w.heap.size+1,0,none⟩) A 3 c (w.heap.size+1+1) W3 (by omega) (by simpa using m2.cell 0) (by simpa using m2.cell 1)
  (fun W hW=>.inr ⟨_,_,rfl,fun j u hj=>by
    rw[(m1.below hW (by omega)).cell (0+j)]
    simpa using hj⟩) (fun W hW=>HN.out W (hb3.trans (hW.mono (by omega)))) (by simp) (by simp) hn
 refine HC.mono ?_;clear HC m1 m2 HN;rintro e w4 ⟨v4,rfl,hv4,hb4⟩;have HD:Hid (∀ W,W=w4→Calls Tryz.prog 71 #[v4,.func (.func 72) #[] #[]] W fun e w'=>∃ v',e=.returned v'∧w'.ownsRow W3.heap.size 9 1 v' (full ([l,s,r]++vs)).length ((full ([l,s,r]++vs)).map .string)∧Below W3.heap.size W w'):=fun W hW=>by
  subst hW;exact delete_any ([l,s,r]++vs) W3.heap.size v4 _ hv4 (by simp) (by simp;omega)
 have HB4:Hid (Below w.heap.size w w4):=hb3.trans (hb4.mono (by omega))
 clear hv4 hb4 hb3;have hful:(full ([l,s,r]++vs)).length≤1000003:=Nat.le_trans (List.length_filter_le _ _) (by simp;omega)
 generalize full ([l,s,r]++vs)=fl at HT HJ HD hful
 go_wp2_with fail
 refine(HD.out _ rfl).mono ?_;rintro e w5 ⟨v5,rfl,hv5,hb5⟩;have HB5:Hid (Below w.heap.size w w5):=HB4.out.trans (hb5.mono (by omega))
 clear hb5 HD HB4;have hl5:=ListOk.strs_of_own (lo:=0) (hi:=w5.heap.size) hv5 (Nat.zero_le _) (Nat.le_refl _);obtain⟨A5,c5,rfl,hc5⟩:=own_slice hv5;clear hv5
 by_cases hz:fl.length=0
 ·have hnil:fl=[]:=List.length_eq_zero_iff.1 hz;subst hnil;have HJ0:=hid (Tryz.strings_Join_none A5 c5 dash w5);have hT:Hid (out=⟨#[]⟩):=HT.out.trans rfl;clear HT HJ hl5;simp only[List.length_nil]
  go_wp2_with fail
  refine HJ0.out.mono ?_;rintro e w6 ⟨rfl,rfl⟩
  go_wp2_with fail
  go_ret
  exact⟨by rw[hT.out];rfl,HB5.out⟩
 ·obtain⟨b5,o5,rfl,_,hb5,_⟩:=hl5.strAt 0 (by omega)
  have HJ0:=hid (Tryz.strings_Join b5 o5 c5 fl dash w5 (fun j x hj=>by
   obtain⟨hjl,rfl⟩:=List.getElem?_eq_some_iff.1 hj;obtain⟨b',o',he,_,_,hcell⟩:=hl5.strAt j hjl;injection he with he;injection he with e1 e2;subst e1;subst e2;exact hcell) hb5 (by omega) hc5 HJ.out)
  rw[←HT.out]at HJ0;clear HT HJ hl5
  go_wp2_with fail
  refine HJ0.out.mono ?_;rintro e w6 ⟨rfl,hb6⟩;have HB6:Hid (Below w.heap.size w w6):=HB5.out.trans (hb6.mono HB5.out.size);clear hb6
  go_wp2_with fail
  go_ret
  exact⟨rfl,HB6.out⟩
end Go.Proofs.YtpfmmbbggcghiaaGreatDoor
namespace Go.Proofs.YtpfmmbbggcghiaaGreatDoor
open Go.RowKit
open Lib (hid)
def turned (p:UInt8→Bool) (x:UInt8) (c:UInt8):UInt8:=if p c then c ^^^ x else c
def turnedAt (p:UInt8→Bool) (x:UInt8) (s:ByteArray) (j q:Nat):UInt8:=if h:q < s.size then(if q < j then turned p x s[q]else s[q])else 0
structure Turned (w wr:World) (p:UInt8→Bool) (x:UInt8) (s:ByteArray) (j:Nat):Prop where
 below:Below w.heap.size w wr
 cell:∀ q,q < s.size→wr.cell? ⟨w.heap.size,q,none⟩=some (.int .u8 ((turnedAt p x s j q).toNat:Int))
 cold:∀ q,q < s.size→wr.frozen? ⟨w.heap.size,q,none⟩=false
theorem turnedAt_new {p:UInt8→Bool} {x:UInt8} {s:ByteArray} {j:Nat} (h:j < s.size):turnedAt p x s j j=s[j]:=by unfold turnedAt;rw[dif_pos h,if_neg (by omega)]
theorem turnedAt_old {p:UInt8→Bool} {x:UInt8} {s:ByteArray} {j q:Nat} (h:q≠j):turnedAt p x s (j+1) q=turnedAt p x s j q:=by
 unfold turnedAt
 by_cases hq:q < s.size
 ·rw[dif_pos hq,dif_pos hq]
  by_cases h1:q < j
  ·rw[if_pos h1,if_pos (by omega)]
  ·rw[if_neg h1,if_neg (by omega)]
 ·rw[dif_neg hq,dif_neg hq]
theorem turnedAt_now {p:UInt8→Bool} {x:UInt8} {s:ByteArray} {j:Nat} (h:j < s.size):turnedAt p x s (j+1) j=turned p x s[j]:=by unfold turnedAt;rw[dif_pos h,if_pos (by omega)]
theorem Turned.skip {w wr:World} {p:UInt8→Bool} {x:UInt8} {s:ByteArray} {j:Nat} (h:Turned w wr p x s j) (hj:j < s.size) (he:turned p x s[j]=s[j]):Turned w wr p x s (j+1):=
 ⟨h.below,fun q hq=>by
   rw[h.cell q hq]
   by_cases e:q=j
   ·subst e;rw[turnedAt_new hj,turnedAt_now hj,he]
   ·rw[turnedAt_old e],h.cold⟩
theorem Turned.put {w wr:World} {p:UInt8→Bool} {x:UInt8} {s:ByteArray} {j:Nat} (h:Turned w wr p x s j) (hj:j < s.size) {u:Value} (he:u=.int .u8 ((turned p x s[j]).toNat:Int)):Turned w (wr.setCell ⟨w.heap.size,j,none⟩ u) p x s (j+1):=
 ⟨h.below.setCell (Nat.le_refl _) _,fun q hq=>by
   by_cases e:q=j
   ·subst e;have hc:=h.cell q hq;rw[turnedAt_now hj,←he];exact World.cell?_setCell_same _ _ _ hc
   ·rw[World.cell?_setCell_other _ _ _ _ (by intro hh;injection hh with _ hh;exact e hh.symm),h.cell q hq,turnedAt_old e],fun q hq=>by rw[World.frozen?_setCell];exact h.cold q hq⟩
theorem xor_u8 (c x:UInt8):bits .xor .u8 (c.toNat:Int) (x.toNat:Int)=((c ^^^ x).toNat:Int):=by
 rw[u8_xor_nat _ _ c.toNat_lt x.toNat_lt,UInt8.toNat_xor]
theorem mapped_any (f:FuncId) (p:UInt8→Bool) (he:∀ args w,(callFunc f args).run Tryz.prog w=.ok (.enter f args) w) (hp:Says f p) (x:UInt8) (s:ByteArray) (w:World) (hs:s.size≤140737488355328):
 Calls Tryz.prog 80 #[.string s,.func (.func f) #[] #[],.int .u8 x.toNat] w fun e w'=>e=.returned (.string (mapB p x s))∧Below w.heap.size w w':=by
 have HP:=hid hp;have hconv:=run_bytes_of_string (P:=Tryz.prog) w 9 110 5 s Tryz.underlying9 Tryz.underlying110 Tryz.underlying5;have hC:∀ q,q < s.size→(bytesRow s (grownCap w s.size 0 5))[q]? =some (.int .u8 ((turnedAt p x s 0 q).toNat:Int)):=fun q hq=>by
  rw[bytesRow_at s _ q hq];unfold turnedAt;rw[dif_pos hq,if_neg (by omega)]
  rfl
 have hCs:s.size≤(bytesRow s (grownCap w s.size 0 5)).size:=by
  unfold bytesRow;rw[Array.size_append];simp
 have hG:=grownCap_ge w s.size 0 5;generalize bytesRow s (grownCap w s.size 0 5)=C at hconv hC hCs;generalize grownCap w s.size 0 5=G at hconv hG;have hini:Turned w (w.drew.alloc (.cells C 5 (C.size,C.size+1))) p x s 0:=⟨((Below.refl _ _).drew).alloc (Nat.le_refl _) _,fun q hq=>(World.cell?_alloc_mark w.drew C 5 _ q).trans (hC q hq),fun q hq=>by
  rw[show w.heap.size=w.drew.heap.size from rfl,World.frozen?_alloc_mark];simp;omega⟩
 have HI:=hid hini;clear hC hini;have HF:Hid (∀ wr,Turned w wr p x s s.size→(convert 110 9 (.slice (some ⟨w.heap.size,0,none⟩) s.size G)).run Tryz.prog wr=.ok (.string (mapB p x s)) wr):=fun wr hT=>by
  have h:=run_convert_bytes_back (P:=Tryz.prog) wr 110 9 5 ⟨w.heap.size,0,none⟩ G ((bts s).map fun c=>if p c then c ^^^ x else c) Tryz.underlying110 Tryz.underlying5 Tryz.underlying9 (fun j hj=>by
   have hj':j < s.size:=by rw[List.length_map,bts_len]at hj;exact hj
   have e1:((⟨w.heap.size,0,none⟩:Addr).add j)=⟨w.heap.size,j,none⟩:=by
    unfold Addr.add
    by_cases h0:j=0
    ·rw[if_pos h0,h0]
    ·rw[if_neg h0];simp
   rw[e1,hT.cell j hj'];unfold turnedAt turned;rw[dif_pos hj',if_pos hj',List.getElem_map,bts_get s j hj'])
  rw[List.length_map,bts_len]at h;exact h
 go_enter Tryz.func80,Tryz.ntmps80
 go_wp2_with fail
 go_loopw [8,9,14] (fun _ _ i wr=>∃ j:Nat,j≤s.size∧i=.int .i64 j∧Turned w wr p x s j) (fun _ _ i _=>s.size - (intOf i).toNat)
 case atStart=>exact⟨0,Nat.zero_le _,rfl,HI.out⟩
 case round=>
  clear HI;obtain⟨j,hj,rfl,hT⟩:=hrel
  by_cases hlt:j < s.size
  ·have hc:=hT.cell j hlt;rw[turnedAt_new hlt]at hc;have hf:=hT.cold j hlt;have HT:=hid hT;clear hT;obtain⟨c,hcc⟩:∃ c,c=s[j]:=⟨_,rfl⟩;rw[←hcc]at hc;have HX:Hid (turned p x c=if p c then c ^^^ x else c):=rfl
   have HP2:=hid (fun W=>HP.out c W);have HCC:=hid hcc;clear hcc;cases hpc:p c with
   | true=>
     rw[hpc]at HP2 HX;clear hpc
     go_wp2_with (go_at_fn f;refine(HP2.out _).mono ?_;rintro e w1 ⟨rfl,rfl⟩)
     refine⟨⟨j+1,by omega,by go_num,HT.out.put hlt ?_⟩,by simp[intOf];omega⟩
     rw[←HCC.out,HX.out,xor_u8];rfl
   | false=>
     rw[hpc]at HP2 HX;clear hpc
     go_wp2_with (go_at_fn f;refine(HP2.out _).mono ?_;rintro e w1 ⟨rfl,rfl⟩)
     refine⟨⟨j+1,by omega,by go_num,HT.out.skip hlt ?_⟩,by simp[intOf];omega⟩
     rw[←HCC.out,HX.out];rfl
  ·obtain rfl:j=s.size:=by omega
   have hback:=HF.out _ hT;have HT:=hid hT;clear hT HF HP
   go_wp2_with fail
   go_ret
   exact⟨rfl,HT.out.below⟩
theorem lower_any (s:ByteArray) (w:World) (hs:s.size≤140737488355328):Calls Tryz.prog 41 #[.string s] w fun e w'=>e=.returned (.string (lowerB s))∧Below w.heap.size w w':=by
 have H:=hid (mapped_any 81 isHigh enters_high high_any 32 s w hs);have e32:((32:UInt8).toNat:Int)=32:=rfl;rw[e32]at H;have HL:Hid (lowerB s=mapB isHigh 32 s):=rfl;generalize mapB isHigh 32 s=o at H HL
 go_enter Tryz.func41,Tryz.ntmps41
 go_wp2_with fail
 refine H.out.mono ?_;rintro e w1 ⟨rfl,hb⟩;have HB:=hid hb;clear hb
 go_wp2_with fail
 go_ret
 exact⟨by rw[HL.out];rfl,HB.out⟩
theorem upper_any (s:ByteArray) (w:World) (hs:s.size≤140737488355328):Calls Tryz.prog 44 #[.string s] w fun e w'=>e=.returned (.string (upperB s))∧Below w.heap.size w w':=by
 have H:=hid (mapped_any 42 isLow enters_low low_any 32 s w hs);have e32:((32:UInt8).toNat:Int)=32:=rfl;rw[e32]at H;have HL:Hid (upperB s=mapB isLow 32 s):=rfl;generalize mapB isLow 32 s=o at H HL
 go_enter Tryz.func44,Tryz.ntmps44
 go_wp2_with fail
 refine H.out.mono ?_;rintro e w1 ⟨rfl,hb⟩;have HB:=hid hb;clear hb
 go_wp2_with fail
 go_ret
 exact⟨by rw[HL.out];rfl,HB.out⟩
end Go.Proofs.YtpfmmbbggcghiaaGreatDoor
