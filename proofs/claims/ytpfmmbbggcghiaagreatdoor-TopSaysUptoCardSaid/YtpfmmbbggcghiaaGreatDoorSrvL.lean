/- serve.Load. -/
import Derived.Test.YtpfmmbbggcghiaaGreatDoorClear
set_option linter.unusedSimpArgs false
set_option linter.unusedVariables false
namespace Go.Proofs.YtpfmmbbggcghiaaGreatDoor
open Go.RowKit Go.Maps
open Lib (hid)
def LoadedR (T:Nat→Prop) (s:SvD) (B0 b1:Nat) (l:List Bun) (w:World) (e:Ending) (w':World):Prop:=
 Fr w w' (SX s)∧((loadE l≠0∧e=.returned (.tuple #[.int .i64 0,errV (loadE l)])∧SrvR T s w'∧StoreSt B0 b1 w' s.sp s.M s.vs)∨
  (loadE l=0∧e=.returned (.tuple #[.int .i64 ((s.v+1:Nat):Int),.nilIface])∧∃ s':SvD,s'.p=s.p∧s'.M=s.M∧s'.mb=s.mb∧s'.v=s.v+1∧s'.l=l∧s'.cnt=0∧s'.ps.length=s.ps.length∧(∀ k,SX s' k→SX s k∨w.heap.size≤k)∧SrvR (fun k=>T k∨SX s' k) s' w'∧s'.vs.length=s.vs.length+1∧(s.mb < b1→StoreSt B0 b1 w' s'.sp s'.M s'.vs)))
theorem loadE_len {l:List Bun} (h:loadE l=0):l.length≤20:=by
 unfold loadE at h;split at h
 ·exact absurd h (by decide)
 ·omega
theorem stx_apart {T:Nat→Prop} {s:SvD} {w:World} {B0 b1:Nat} (h:SrvR T s w) (hst:StoreSt B0 b1 w s.sp s.M s.vs) (hMm:s.M≠s.mb):∀ k,k=s.p∨SY s k→¬ StX s.sp s.M s.vs k:=by
 have hcell:∀ k t cs,Blk w k t cs→t≠142→t≠146→¬ StX s.sp s.M s.vs k:=fun k t cs hb h1 h2 hk=>by
  unfold Blk at hb;rcases hk with rfl|rfl|⟨r,hr,rfl⟩
  ·have:=hst.box;unfold Blk at this;rw[hb]at this;injection this with this;injection this with _ this;exact h1 this
  ·obtain⟨n,_,es,clock,hm,_⟩:=hst.all;rw[hb]at hm;cases hm
  ·obtain⟨wb,S,n,h3,_⟩:=(hst.vers r hr).rec_;unfold Blk at h3;rw[hb]at h3;injection h3 with h3;injection h3 with _ h3;exact h2 h3
 intro k hk;rcases hk with rfl|rfl|rfl|rfl
 ·exact hcell _ _ _ h.box (by decide) (by decide)
 ·exact hcell _ _ _ h.cache.1 (by decide) (by decide)
 ·exact hcell _ _ _ h.cache.2 (by decide) (by decide)
 ·intro hk;obtain⟨D,⟨es,clock,hm,_⟩,_⟩:=h.codes;rcases hk with hk|hk|⟨r,hr,hk⟩
  ·have:=hst.box;unfold Blk at this;rw[←hk,hm]at this;cases this
  ·exact hMm hk.symm
  ·obtain⟨wb,S,n,h3,_⟩:=(hst.vers r hr).rec_;unfold Blk at h3;rw[←hk,hm]at h3;cases h3
set_option maxHeartbeats 6400000 in
set_option maxRecDepth 100000 in
theorem srvLoad_any (T:Nat→Prop) (s:SvD) (B0 b1:Nat) (l:List Bun) (vl:Value) (lo:Nat) (w:World) (h:SrvR T s w) (hst:StoreSt B0 b1 w s.sp s.M s.vs) (hsv:s.v=s.vs.length) (hMm:s.M≠s.mb) (hv9:s.vs.length≤1000000) (hb1:b1≤w.heap.size) (B:Nat) (hB:∀ k,T k→B≤k) (hBw:B≤w.heap.size) (hV:∀ W,Below B w W→EvV W)
 (hiL:Nat) (hl:ListOk Enc.bun w lo hiL vl l) (hlh:hiL≤w.heap.size) (hla:Away (SX s) lo hiL) (he:∀ b∈l,b.tag.size < 4294967281∧b.ents.length≤4398046511104∧∀ e∈b.ents,e.key.size≤9223372036854775807∧e.text.size≤9223372036854775807) (hlen:l.length*40≤140737488355328):
 Calls Tryz.prog 9 #[.pointer (some ⟨s.p,0,none⟩),vl] w fun e w'=>LoadedR T s B0 b1 l w e w':=by
 have HBu:Hid (∀ W,Fr w W (SX s)→BunsIn W vl l):=hid fun W hW=>⟨⟨lo,(hl.keep Enc.bun_laws fun p h1 h2=>World.cell?_of_block (hW.block p.block (Nat.lt_of_lt_of_le h2 hlh) fun hk=>by have:=hla _ hk;omega)).mono Enc.bun_laws (Nat.le_refl _) (Nat.le_trans hlh hW.size)⟩,hlen,he⟩
 have HLo:=hid (load_any hst l vl (HBu.out w (Fr.refl _ _)) (hV w (Below.refl _ _)).rv.max (by omega) hb1)
 have x0:=(h.box.cell 0).trans (show _=some (.pointer (some ⟨s.sp,0,none⟩))from rfl);have HBe:Hid (∀ W,Fr w W (SX s)→Below B w W):=hid fun W hW=>Fr.below (Below.refl B w) hW hBw fun k hk=>hB k (h.sub k hk);obtain⟨A,c,rfl,_⟩:=hl.form;have HH:=hid h;have HV:=hid hV;have hpl:=h.box.lt;have HNst:=hid (stx_apart h hst hMm);clear h hst hV hl
 go_enter Tryz.func9,Tryz.ntmps9
 go_wp2_with fail
 refine HLo.out.mono ?_;clear HLo;rintro e w1 ⟨hf1,hres⟩;have HF1:Hid (Fr w w1 (SX s)):=hid (hf1.mono fun k hk=>.inr (.inr (.inr (.inr hk))));have HS1:=hid (HH.out.step hf1 (fun k hk=>HH.out.sub k (.inr (.inr (.inr (.inr hk))))) HNst.out (fun _ hk=>hk) (fun _ hk=>.inl hk) fun k hk=>Nat.lt_of_lt_of_le (HH.out.low k hk) hf1.size);rcases hres with⟨hle,rfl,hst2⟩|⟨hle,r,hr0,hrl,hrb,rfl,hst2⟩
 ·rw[errV_ne hle]
  go_wp2_with fail
  go_ret2
  exact⟨HF1.out,.inl ⟨hle,by rw[errV_ne hle];rfl,HS1.out,hst2⟩⟩
 ·rw[errV_zero];have hl20:=loadE_len hle;have hz1:=hf1.size;have x4:w1.cell? ⟨s.p,4,none⟩=some (.int .i64 (s.v:Int)):=(HS1.out.box.cell 4).trans rfl;have x3:w1.cell? ⟨s.p,3,none⟩=some s.bv:=(HS1.out.box.cell 3).trans rfl;have f3:=HS1.out.box.frozen 3;have f4:=HS1.out.box.frozen 4;have HSt2:=hid hst2;have HRb:=hid hrb;obtain⟨nv,hnv⟩:∃ nv,nv=s.vs.length+1:=⟨_,rfl⟩;rw[←hnv];obtain⟨W2,eW2⟩:∃ W,W=(w1.setCell ⟨s.p,4,none⟩ (.int .i64 (nv:Int))).setCell ⟨s.p,3,none⟩ (.slice none 0 0):=⟨_,rfl⟩;have hk2:Blk W2 s.p 78 #[.pointer (some ⟨s.sp,0,none⟩),.pointer (some ⟨s.bc,0,none⟩),.map (some s.mb),.slice none 0 0,.int .i64 (nv:Int)]:=by rw[eW2];exact(HS1.out.box.set_ 4 _).set_ 3 _
  have hf2:Fr w1 W2 (fun k=>k=s.p):=by rw[eW2];exact((Fr.refl _ (fun k=>k=s.p)).setCell (p:=⟨s.p,4,none⟩) (.inl rfl) _).setCell (p:=⟨s.p,3,none⟩) (.inl rfl) _
  have HK2:=hid hk2;have HF2:=hid hf2;have EW2:=hid eW2;have HNv:=hid hnv;clear hk2 hf2 eW2 hst2 hf1 hnv hrb
  go_upto_region 5 with fail
  rw[←EW2.out];clear EW2 x3 x4 f3 f4
  go_wp2_with fail
  go_loopw [9,31] (fun _ i wr=>∃(j:Nat) (ps:List (Bun×Value)) (u:Value),j≤l.length∧i=.int .i64 (j:Int)∧Hid (ps.map Prod.fst=l.take j)∧RowedB W2.heap.size wr u ps∧Blk wr s.p 78 #[.pointer (some ⟨s.sp,0,none⟩),.pointer (some ⟨s.bc,0,none⟩),.map (some s.mb),u,.int .i64 (nv:Int)]∧Fr W2 wr (fun k=>k=s.p)) (fun _ i _=>l.length - (intOf i).toNat)
  case atStart=>exact⟨0,[],_,Nat.zero_le _,rfl,hid rfl,RowedB.nil,HK2.out,Fr.refl _ _⟩
  case round=>
   obtain⟨j,ps,u,hj,rfl,HPs,hrow,hbx,hfr⟩:=hrel;obtain⟨wo,rfl⟩:∃ wo:World,wo=wr:=⟨_,rfl⟩;have hpp:s.p < W2.heap.size:=HK2.out.lt;have hzo:=hfr.size;have hzw2:=HF2.out.size;have HFo:Hid (Fr w wo (SX s)):=hid ((HF1.out.trans (HF2.out.mono fun k hk=>.inl hk)).trans (hfr.mono fun k hk=>.inl hk));have HRow:=hid hrow;have HBx:=hid hbx;have HFr:=hid hfr
   by_cases hlt:j < l.length
   ·have i1:(0:Int)≤(j:Int):=Int.natCast_nonneg j;have i2:(j:Int) < (l.length:Int):=by omega
    obtain⟨b1',o1,V,hA1,hb1l,y0,y1,hbin⟩:=(HBu.out wo HFo.out).bunAt j hlt;subst hA1;have hpl':ps.length=j:=by have h1:=congrArg List.length HPs.out;rw[List.length_map,List.length_take]at h1;omega
    have HPl:=hid hpl';have HTk:=hid (List.take_succ_eq_append_getElem hlt);have hps20:ps.length≤20:=by omega
    clear hpl';obtain⟨uA,uc,rfl,_⟩:=own_slice hrow.own;obtain⟨elo,hE⟩:=hbin.lo;have hen:=hbin.len;generalize l[j]=bb at *;obtain⟨bt,es⟩:=bb;dsimp only at y0 hE hen HTk;obtain⟨eA,ec,rfl,_⟩:=hE.form;obtain⟨W3,eW3⟩:∃ W,W=wo.alloc (.cells #[.string bt,.slice eA es.length ec] 49):=⟨_,rfl⟩;have hb3:Below wo.heap.size wo W3:=by rw[eW3];exact(Below.refl _ _).alloc (Nat.le_refl _) _
    have hz3:W3.heap.size=wo.heap.size+1:=by rw[eW3,World.size_alloc]
    have hk3:Blk W3 wo.heap.size 49 #[.string bt,.slice eA es.length ec]:=by rw[eW3];exact Blk.new _ _ _
    have HR3:=hid (hrow.below hb3 (Nat.le_refl _));have HX3:=hid (hbx.below hb3 hbx.lt);have HK3:=hid hk3;have HE3:Hid (∀ W,Below W3.heap.size W3 W→(es.length=0∨∃ b o,eA=some ⟨b,o,none⟩∧∀ q u,(flatE es)[q]? =some u→W.cell? ⟨b,o+q,none⟩=some u)):=hid fun W hW=>by
     have hE3:ListOk Enc.ent W3 elo wo.heap.size (.slice eA es.length ec) es:=hE.below Enc.ent_laws hb3;exact news_ents ((hE3.mono Enc.ent_laws (Nat.le_refl _) hb3.size).below Enc.ent_laws hW)
    have HB3:=hid hb3;have EW3:=hid eW3;clear hrow hbx hfr hb3 hk3 eW3 hE hbin
    go_upto_region 8 with fail
    rw[←EW3.out];clear EW3 y0 y1;have z3:=(HX3.out.cell 3).trans (show _=some (.slice uA ps.length uc)from rfl);have t0:=(HK3.out.cell 0).trans (show _=some (.string bt)from rfl);have t1:=(HK3.out.cell 1).trans (show _=some (.slice eA es.length ec)from rfl);have hpw:s.p < wo.heap.size:=by omega
    have HEm:Hid (∀ W:World,W.heap=(W3.alloc (.cells #[] 70)).heap→W.ownsRow W2.heap.size 70 2 (.slice (some ⟨wo.heap.size+1,0,none⟩) 0 0) 0 []):=hid fun W hW=>⟨rfl,.inr ⟨wo.heap.size+1,0,#[],rfl,by omega,by rw[hW,←hz3];exact heap_alloc_new W3 _,Nat.le_refl _,by unfold maxLen;omega,rfl,rfl⟩⟩
    have HB0:Hid (Below W3.heap.size W3 W3):=hid (Below.refl _ _);have HWz:Hid (W2.heap.size≤W3.heap.size∧wo.heap.size < W3.heap.size∧s.p < W3.heap.size):=hid ⟨by omega,by omega,by omega⟩
    clear z3 t0 t1;have z3:W3.cell? ⟨s.p,3,none⟩=some (.slice uA ps.length uc):=(HX3.out.cell 3).trans rfl;have t0:W3.cell? ⟨wo.heap.size,0,none⟩=some (.string bt):=(HK3.out.cell 0).trans rfl;have t1:W3.cell? ⟨wo.heap.size,1,none⟩=some (.slice eA es.length ec):=(HK3.out.cell 1).trans rfl;have hlp:s.p < W3.heap.size:=by omega
    have hlo':wo.heap.size < W3.heap.size:=by omega
    go_region_law
     (first
       | (refine step_append_any (by rfl) _ _ 47 (by rfl) W2.heap.size 70 Tryz.underlying47 info_ent rfl (by decide) [] (by rfl) (HEm.out _ rfl) (flatE es) (by rfl) (flatE_length es) (HE3.out _ (by first|exact(HB0.out.alloc (Nat.le_refl _) _)|exact(HB0.out.alloc (Nat.le_refl _) _).drew|exact(HB0.out.drew.alloc (Nat.le_refl _) _)|exact(HB0.out.drew.alloc (Nat.le_refl _) _).drew)) (flatE_one es) (by unfold maxLen;omega) (by omega) (by have:=HWz.out.1;simp;omega) ?_
          intro v5 w5 hown5 hgrow5;have hb5:Below W3.heap.size W3 w5:=by
           refine Below.grown ?_ hgrow5 (by simp) (by intro k hk;simp[Value.ownBlock]at hk;omega)
           repeat' (first|with_reducible exact Below.refl _ _|with_reducible apply Below.drew|(with_reducible refine Below.alloc ?_ ?_ _)|omega|(simp;try omega))
          obtain⟨A5,c5,hv5,_⟩:=own_slice hown5;have hv5':v5=.slice A5 es.length c5:=by rw[hv5];simp
          subst hv5';have hX5:=HX3.out.below hb5 hlp;have hK5:=HK3.out.below hb5 hlo';have hq5:EntRow W2.heap.size w5 (⟨bt,es⟩,.slice A5 es.length c5):=by
           have h1:=hown5;simp only[Nat.zero_add,List.nil_append]at h1;exact h1
          have h5z:=hb5.size;have z5:w5.cell? ⟨s.p,3,none⟩=some (.slice uA ps.length uc):=(hX5.cell 3).trans rfl;have s5:w5.cell? ⟨wo.heap.size,0,none⟩=some (.string bt):=(hK5.cell 0).trans rfl;have hlp5:s.p < w5.heap.size:=hX5.lt;have hlo5:wo.heap.size < w5.heap.size:=hK5.lt;have HR6:Hid (∀ W:World,W.heap=(w5.alloc (.cells #[.string bt,.slice A5 es.length c5] 49)).heap→RowedB W2.heap.size W (.slice uA ps.length uc) ps∧EntRow W2.heap.size W (⟨bt,es⟩,.slice A5 es.length c5)∧Blk W s.p 78 #[.pointer (some ⟨s.sp,0,none⟩),.pointer (some ⟨s.bc,0,none⟩),.map (some s.mb),.slice uA ps.length uc,.int .i64 (nv:Int)]∧(∀ q u,(bunCells (⟨bt,es⟩,.slice A5 es.length c5))[q]? =some u→W.cell? ⟨w5.heap.size,0+q,none⟩=some u)∧W2.heap.size≤W.heap.size):=hid fun W hW=>by
           have hblk:∀ k,k < w5.heap.size→W.heap[k]? =w5.heap[k]? :=fun k hk=>by
            rw[hW];exact((Below.refl w5.heap.size w5).alloc (Nat.le_refl _) (.cells #[.string bt,.slice A5 es.length c5] 49)).block k hk
           have hrb:RowedB W2.heap.size w5 (.slice uA ps.length uc) ps:=HR3.out.below hb5 (Nat.le_refl _);refine⟨⟨own_keep hrb.own fun g hg hlt=>hblk g hlt,fun p hp=>own_keep (hrb.ents p hp) fun g hg hlt=>hblk g hlt⟩,own_keep hq5 fun g hg hlt=>hblk g hlt,(hblk _ hX5.lt).trans hX5,fun q u hq=> ?_,?_⟩
           ·have h1:=(Blk.new w5 49 #[.string bt,.slice A5 es.length c5]).cell q;have h2:W.cell? ⟨w5.heap.size,q,none⟩=(w5.alloc (.cells #[.string bt,.slice A5 es.length c5] 49)).cell? ⟨w5.heap.size,q,none⟩:=World.cell?_of_block (by rw[hW])
            rw[Nat.zero_add,h2,h1];simpa[bunCells]using hq
           ·rw[hW,World.size_alloc];have:=HWz.out.1;omega
          have HF5:Hid (Fr W2 w5 (fun k=>k=s.p)):=hid ((HFr.out.then_below HB3.out).then_below hb5);clear hb5 hown5 hgrow5 hX5 hK5 hq5 hv5)
       | (refine step_append_any (by rfl) _ _ 22 (by rfl) W2.heap.size 49 Tryz.underlying22 info_bun rfl (by decide) (flatB ps) (by rfl) (HR6.out _ rfl).1.own (bunCells (⟨bt,es⟩,.slice A5 es.length c5)) (by rfl) (by rfl) (.inr ⟨_,_,rfl,(HR6.out _ rfl).2.2.2.1⟩) (by simp[bunCells,Value.oneCell']) (by unfold maxLen;omega) (by omega) (HR6.out _ rfl).2.2.2.2 ?_
          intro v7 w7 hown7 hgrow7;obtain⟨A7,c7,hv7,_⟩:=own_slice hown7;subst hv7;have hr7:=(HR6.out _ rfl).1.push (HR6.out _ rfl).2.1 hgrow7 hown7;have hX7:Blk w7 s.p 78 #[.pointer (some ⟨s.sp,0,none⟩),.pointer (some ⟨s.bc,0,none⟩),.map (some s.mb),.slice uA ps.length uc,.int .i64 (nv:Int)]:=blk_grown (HR6.out _ rfl).2.2.1 hgrow7 (fun e=>own_ne (HR6.out _ rfl).1.own (HR6.out _ rfl).2.2.1 (by decide) e.symm)
          have z7:w7.cell? ⟨s.p,3,none⟩=some (.slice uA ps.length uc):=(hX7.cell 3).trans rfl;have f7:=hX7.frozen 3;have hF7:Fr W2 w7 (fun k=>k=s.p):=by
           first
            | exact(HF5.out.alloc _).grown hgrow7 fun k hk=>.inr (own_lt (HR6.out _ rfl).1.own hk).1
            | exact(HF5.out.alloc _).drew.grown hgrow7 fun k hk=>.inr (own_lt (HR6.out _ rfl).1.own hk).1
          have HFin:Hid (RowedB W2.heap.size (w7.setCell ⟨s.p,3,none⟩ (.slice A7 (ps.length+1) c7)) (.slice A7 (ps.length+1) c7) (ps++[(⟨bt,es⟩,.slice A5 es.length c5)])∧Blk (w7.setCell ⟨s.p,3,none⟩ (.slice A7 (ps.length+1) c7)) s.p 78 #[.pointer (some ⟨s.sp,0,none⟩),.pointer (some ⟨s.bc,0,none⟩),.map (some s.mb),.slice A7 (ps.length+1) c7,.int .i64 (nv:Int)]∧Fr W2 (w7.setCell ⟨s.p,3,none⟩ (.slice A7 (ps.length+1) c7)) (fun k=>k=s.p)):=hid (by
           have hk:∀ g,W2.heap.size≤g→(w7.setCell ⟨s.p,3,none⟩ (.slice A7 (ps.length+1) c7)).heap[g]? =w7.heap[g]? :=fun g hg=>Below.heap_setCell _ _ _ _ (by show g≠s.p;omega)
           exact⟨⟨own_keep hr7.own fun g hg _=>hk g (own_lt hr7.own hg).1,fun p hp=>own_keep (hr7.ents p hp) fun g hg _=>hk g (own_lt (hr7.ents p hp) hg).1⟩,hX7.set_ 3 _,hF7.setCell (p:=⟨s.p,3,none⟩) (.inl rfl) _⟩)
          have HPs7:Hid ((ps++[((⟨bt,es⟩:Bun),Value.slice A5 es.length c5)]).map Prod.fst=l.take (j+1)):=hid (by rw[List.map_append,HPs.out,HTk.out];rfl)
          clear hr7 hX7 hown7 hgrow7 hF7)
       | fail)
    all_goals
     go_wp2_with fail
     go_roundw
     case rel=>exact⟨j+1,_,_,by omega,by go_num,HPs7,HFin.out.1,HFin.out.2.1,HFin.out.2.2⟩
     case measure=>simp[intOf];omega
   ·obtain rfl:j=l.length:=by omega
    have hps:ps.map Prod.fst=l:=by have h1:=HPs.out;rw[List.take_length]at h1;exact h1
    have hny:=HH.out.box_ny;have hfo1:Fr w1 wo (fun k=>k=s.p):=HF2.out.trans hfr;have hcao:=HS1.out.cache.fr hfo1 (fun e=>hny (.inl e.symm)) (fun e=>hny (.inr (.inl e.symm)));have hoo:=HS1.out.codes.keep (hfo1.block _ HS1.out.codes.lt (fun e=>hny (.inr (.inr e.symm))));have HCl:=hid (clear_any s.bc s.bp s.ps s.hand wo hcao HH.out.len);have v1:wo.cell? ⟨s.p,1,none⟩=some (.pointer (some ⟨s.bc,0,none⟩)):=(hbx.cell 1).trans rfl;have HList:=hid ((hrow.list (Nat.le_refl _) (Nat.le_refl _):ListOk Enc.bun wo W2.heap.size wo.heap.size u (ps.map Prod.fst)));rw[hps]at HList;have HOo:=hid hoo;have HCo:=hid hcao;have hlw:s.bc < w.heap.size∧s.bp < w.heap.size∧s.mb < w.heap.size:=⟨HH.out.cache.lt.1,HH.out.cache.lt.2,HH.out.codes.lt⟩;have hbcmb:s.bc≠s.mb:=fun e=>by
     obtain⟨D,⟨es,clock,hm,_⟩,_⟩:=HH.out.codes;have:=HH.out.cache.1;unfold Blk at this;rw[e,hm]at this;cases this
    have hce:¬((l.length:Int) < (l.length:Int)):=by omega
    clear hrow hbx hfr hcao hoo hfo1
    go_wp2_with fail
    refine HCl.out.mono ?_;clear HCl;rintro e w8 ⟨rfl,bp',hbp',hca8,hf8⟩;have hz8:=hf8.size;have hbx8:=HBx.out.fr hf8 (fun e=>hny (.inl e));have v2:w8.cell? ⟨s.p,2,none⟩=some (.map (some s.mb)):=(hbx8.cell 2).trans rfl;have HO8:=hid (HOo.out.keep (hf8.block _ HOo.out.lt (fun e=>hbcmb e.symm)));have HC8:=hid hca8;have HX8:=hid hbx8;have HF8:=hid hf8;clear hca8 hf8 hbx8 v1
    go_wp2_with (refine wpList_clear_V rfl _ 76 53 rfl Tryz.underlying76 s.mb s.cnt _ rfl HO8.out ?_)
    intro w9 hO9 hg9;have hF9:Fr w8 w9 (fun k=>k=s.mb):=(Fr.refl _ _).grown hg9 fun k hk=>.inl (by injection hk with hk;exact hk.symm)
    have HO9:=hid hO9;have HF9:=hid hF9;clear hO9 hg9 hF9 v2
    go_wp2_with fail
    go_ret2
    have hnv:=HNv.out;have hF9:=HF9.out;have hF8:=HF8.out;have hz9:=hF9.size;have hfw:Fr w w9 (SX s):=((HFo.out.trans (hF8.mono fun k hk=>.inr (.inl hk))).trans (hF9.mono fun k hk=>.inr (.inr (.inr (.inl hk)))));have hsv':StX s.sp s.M (s.vs++[r])=fun k=>StX s.sp s.M s.vs k∨k=r.blk:=by
     funext k
     apply propext
     constructor
     ·rintro(hk|hk|⟨q,hq,hk⟩)
      ·exact .inl (.inl hk)
      ·exact .inl (.inr (.inl hk))
      ·rcases List.mem_append.1 hq with hq|hq
       ·exact .inl (.inr (.inr ⟨q,hq,hk⟩))
       ·rw[List.mem_singleton.1 hq]at hk;exact .inr hk
     ·rintro((hk|hk|⟨q,hq,hk⟩)|hk)
      ·exact .inl hk
      ·exact .inr (.inl hk)
      ·exact .inr (.inr ⟨q,List.mem_append_left _ hq,hk⟩)
      ·exact .inr (.inr ⟨r,List.mem_append_right _ (List.mem_singleton.2 rfl),hk⟩)
    have hrv:=HSt2.out.vers r (List.mem_append_right _ (List.mem_singleton.2 rfl));have hrlo:=hrv.lo;have hrlt:=hrv.lt;have hC8:=HC8.out;have hbplt:=hC8.lt.2;have hSX':∀ k,SX ⟨s.p,s.bc,bp',s.mb,s.sp,s.M,0,0,nv,List.replicate s.ps.length Plc.zero,fun _=>none,l,u,s.vs++[r]⟩ k→SX s k∨k=bp'∨k=r.blk:=fun k hk=>by
     rcases hk with hk|hk|hk|hk|hk
     ·exact .inl (.inl hk)
     ·exact .inl (.inr (.inl hk))
     ·exact .inr (.inl hk)
     ·exact .inl (.inr (.inr (.inr (.inl hk))))
     ·have hk:StX s.sp s.M (s.vs++[r]) k:=hk;rw[hsv']at hk;rcases hk with hk|hk
      ·exact .inl (.inr (.inr (.inr (.inr hk))))
      ·exact .inr (.inr hk)
    have hnbp:∀ k,k=s.p∨k=s.bc→¬(k=s.mb):=fun k hk e=>by
     rcases hk with hk|hk
     ·exact hny (.inr (.inr (by rw[←hk];exact e)))
     ·exact hbcmb (by rw[←hk];exact e)
    refine⟨hfw,.inr ⟨hle,by rw[hnv,hsv];rfl,⟨s.p,s.bc,bp',s.mb,s.sp,s.M,0,0,nv,List.replicate s.ps.length Plc.zero,fun _=>none,l,u,s.vs++[r]⟩,rfl,rfl,rfl,by show nv=s.v+1;omega,rfl,rfl,List.length_replicate,?_,?_,?_,?_⟩⟩
    ·intro k hk;rcases hSX' k hk with h1|h1|h1
     ·exact .inl h1
     ·exact .inr (by omega)
     ·exact .inr (by rw[h1];exact HRb.out)
    ·have hTl:∀ k,T k→k < w.heap.size:=HH.out.low;have hkbp:¬(bp'=s.mb):=by omega
     refine⟨fun k hk=>.inr hk,fun k hk=> ?_,HX8.out.fr hF9 (hnbp _ (.inl rfl)),hC8.fr hF9 (hnbp _ (.inr rfl)) hkbp,?_,?_,Dist.zero _,fun x hx=> ?_,HO9.out,fun _=>⟨hl20,he,W2.heap.size,wo.heap.size,by omega,?_,fun k hk=> ?_⟩,fun i key _ hm=> ?_⟩
     ·rcases hk with hk|hk
      ·have:=hTl k hk;omega
      ·rcases hSX' k hk with h1|h1|h1
       ·have:=hTl k (HH.out.sub k h1);omega
       ·omega
       ·omega
     ·show 0 < (List.replicate s.ps.length Plc.zero).length;rw[List.length_replicate];have:=HH.out.hand;omega
     ·show(List.replicate s.ps.length Plc.zero).length≤50;rw[List.length_replicate];exact HH.out.len
     ·have hx:x∈keysOf (List.replicate s.ps.length Plc.zero):=hx;rw[keysOf_zeroN]at hx;cases hx
     ·refine HList.out.keep Enc.bun_laws fun p h1 h2=> ?_;have e1:=World.cell?_of_block (a:=p) (hF8.block p.block h2 (by show ¬ p.block=s.bc;omega))
      have e2:=World.cell?_of_block (a:=p) (hF9.block p.block (by omega) (by show ¬ p.block=s.mb;omega))
      rw[e2,e1]
     ·rcases hk with hk|hk
      ·have:=hTl k hk;exact .inl (by omega)
      ·rcases hSX' k hk with h1|h1|h1
       ·have:=hTl k (HH.out.sub k h1);exact .inl (by omega)
       ·exact .inr (by omega)
       ·exact .inl (by omega)
     ·have hm:str (nmL i key)∈keysOf (List.replicate s.ps.length Plc.zero):=hm;rw[keysOf_zeroN]at hm;cases hm
    ·show(s.vs++[r]).length=_;rw[List.length_append]
     rfl
    ·intro hmb;refine HSt2.out.other (((((HF2.out.trans HFr.out).mono fun k hk=>.inl hk).trans (hF8.mono fun k hk=>.inr (.inl hk))).trans (hF9.mono fun k hk=>.inr (.inr hk))):Fr w1 w9 (fun k=>k=s.p∨k=s.bc∨k=s.mb)) fun k hk=> ?_;rcases hk with rfl|rfl|rfl
     ·exact .inr ⟨_,_,HS1.out.box,by decide,by decide⟩
     ·exact .inr ⟨_,_,HS1.out.cache.1,by decide,by decide⟩
     ·exact .inl ⟨hmb,fun e=>HNst.out _ (.inr (.inr (.inr rfl))) (.inl e),fun e=>HNst.out _ (.inr (.inr (.inr rfl))) (.inr (.inl e))⟩
end Go.Proofs.YtpfmmbbggcghiaaGreatDoor
