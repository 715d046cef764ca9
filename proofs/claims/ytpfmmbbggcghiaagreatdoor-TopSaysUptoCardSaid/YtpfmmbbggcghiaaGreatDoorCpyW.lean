/- code.copied: the walk; at any depth. -/
import Derived.Test.YtpfmmbbggcghiaaGreatDoorCpyB
set_option linter.unusedSimpArgs false
set_option linter.unusedVariables false
namespace Go.Proofs.YtpfmmbbggcghiaaGreatDoor
open Go.RowKit
open Lib (hid)
def cpyX {β:Type} (g:List β→List β) (x:NdF β):NdF β:=⟨x.kind,x.text,x.off,(casesR x).map fun c=>(c.1,g c.2)⟩
def cpyN:(n:Nat)→List (Nd n)→List (Nd n)
 | 0,_=>[]
 | n+1,m=>((m:List (NdF (Nd n))).map (cpyX (cpyN n)):List (NdF (Nd n)))
set_option maxHeartbeats 12800000 in
set_option maxRecDepth 100000 in
theorem cpy_walk {β:Type} {E:Enc β} (hE:E.Laws) (g:List β→List β) (m:List (NdF β)) (v:Value) (lo:Nat) (w:World) (hv:ListOk (Enc.nodeF E) w lo w.heap.size v m) (hl:m.length≤10000000) (hcl:Hid (∀ x∈m,x.cases.length≤10000000))
 (IH:Hid (∀ x∈m,∀ c∈casesR x,∀ W U,Below w.heap.size w W→ListOk E W lo W.heap.size U c.2→Calls Tryz.prog 53 #[U] W fun e w'=>Below W.heap.size W w'∧∃ u,e=.returned u∧ListOk E w' W.heap.size w'.heap.size u (g c.2))):
 Calls Tryz.prog 53 #[v] w fun e w'=>Below w.heap.size w w'∧∃ out xs,e=.returned out∧xs.map CN.plain=m.map (cpyX g)∧Sep E w.heap.size w' out xs:=by
 obtain⟨A,c,rfl,hcap⟩:=hv.form;have HV:Hid (∀ W,Below w.heap.size w W→ListOk (Enc.nodeF E) W lo w.heap.size (.slice A m.length c) m):=hid fun W hW=>hv.below (Enc.nodeF_laws hE) hW;clear hv
 go_enter Tryz.func53,Tryz.ntmps53
 go_wp2_with fail
 go_loopw [3,11] (fun o i wr=>∃(j:Nat) (xs:List (CN β)),j≤m.length∧i=.int .i64 (j:Int)∧Hid (xs.map CN.plain=(m.take j).map (cpyX g))∧Sep E w.heap.size wr o xs∧Below w.heap.size w wr) (fun _ i _=>m.length - (intOf i).toNat)
 case atStart=>exact⟨0,[],Nat.zero_le _,rfl,hid rfl,Sep.nil,Below.refl _ _⟩
 case round=>
  obtain⟨j,xs,hj,rfl,HX,hsep,hb⟩:=hrel;obtain⟨wo,rfl⟩:∃ wo:World,wo=wr:=⟨_,rfl⟩;have HS:=hid hsep;have HB:=hid hb;have hbs:=hb.size;obtain⟨OA,Oc,rfl,_⟩:=own_slice hsep.row
  by_cases hlt:j < m.length
  ·have i1:(0:Int)≤(j:Int):=Int.natCast_nonneg j;have i2:(j:Int) < (m.length:Int):=by omega
   have hmem:m[j]∈m:=List.getElem_mem hlt;have HTk:Hid ((m.take (j+1)).map (cpyX g)=(m.take j).map (cpyX g)++[cpyX g m[j]]):=hid (by rw[List.take_succ_eq_append_getElem hlt,List.map_append];rfl)
   have hxl:xs.length=j:=by
    have:=congrArg List.length HX.out;rw[List.length_map,List.length_map,List.length_take]at this;omega
   have hxl2:xs.length≤10000000:=by omega
   obtain⟨b0,o0,V,rfl,hb0,hb0',x0,x1,x2,x3,hV⟩:=(HV.out _ hb).nodeAt j hlt;obtain⟨VA,Vc,rfl,_⟩:=hV.form;have HXc:Hid (∀ W,Below wo.heap.size wo W→W.cell? ⟨b0,o0+j*4,none⟩=some (.int .i64 m[j].kind)∧W.cell? ⟨b0,o0+j*4+1,none⟩=some (.string m[j].text)∧W.cell? ⟨b0,o0+j*4+2,none⟩=some (.int .i64 m[j].off)∧W.cell? ⟨b0,o0+j*4+3,none⟩=some (.slice VA m[j].cases.length Vc)):=hid fun W hW=>
    ⟨(hW.cell (p:=⟨b0,_,none⟩) (by show b0 < _;omega)).trans x0,(hW.cell (p:=⟨b0,_,none⟩) (by show b0 < _;omega)).trans x1,(hW.cell (p:=⟨b0,_,none⟩) (by show b0 < _;omega)).trans x2,(hW.cell (p:=⟨b0,_,none⟩) (by show b0 < _;omega)).trans x3⟩
   have HCs:Hid (∀ W,Below w.heap.size w W→Calls Tryz.prog 91 #[.agg #[.int .i64 m[j].kind,.string m[j].text,.int .i64 m[j].off,.slice VA m[j].cases.length Vc]] W fun e w'=>(∃ V',e=.returned V'∧(V'=.slice VA m[j].cases.length Vc∨V'=.slice none 0 0)∧ListOk (Enc.cas E) W lo w.heap.size V' (casesR m[j]))∧Below W.heap.size W w'):=hid fun W hW=>
    Cases_any (E:=E) m[j] (.slice VA m[j].cases.length Vc) lo w.heap.size W (hV.keep (Enc.cas_laws hE) fun p h1 h2=>(hW.cell h2).trans (HB.out.cell h2).symm)
   have HI:Hid (∀ c∈casesR m[j],∀ W U,Below w.heap.size w W→ListOk E W lo W.heap.size U c.2→Calls Tryz.prog 53 #[U] W fun e w'=>Below W.heap.size W w'∧∃ u,e=.returned u∧ListOk E w' W.heap.size w'.heap.size u (g c.2)):=hid (IH.out _ hmem);have hcj:(casesR m[j]).length≤10000000:=Nat.le_trans (casesR_len _) (hcl.out _ hmem);have HCx:Hid (cpyX g m[j]=⟨m[j].kind,m[j].text,m[j].off,(casesR m[j]).map fun c=>(c.1,g c.2)⟩):=hid rfl;clear hV hmem hb hsep IH hcl hxl;generalize cpyX g m[j]=cx at *;generalize casesR m[j]=cs at *;generalize m[j]=x at *;obtain⟨y0,y1,y2,y3⟩:=x;dsimp only at x0 x1 x2 x3 HXc HTk HCs HI hcj HCx;obtain⟨W1,eW1⟩:∃ W1,W1=wo.alloc (.cells #[.int .i64 y0,.string y1,.int .i64 y2,.slice VA y3.length Vc] 126):=⟨_,rfl⟩;obtain⟨W2,eW2⟩:∃ W2,W2=W1.alloc (.cells #[.int .i64 y0,.string y1,.int .i64 y2,.slice none 0 0] 126):=⟨_,rfl⟩;have hs1:W1.heap.size=wo.heap.size+1:=by rw[eW1,World.size_alloc]
   have hb1':Below wo.heap.size wo W1:=by rw[eW1];exact(Below.refl _ _).alloc (Nat.le_refl _) _
   have hm1:Blk W1 wo.heap.size 126 #[.int .i64 y0,.string y1,.int .i64 y2,.slice VA y3.length Vc]:=by rw[eW1];exact Blk.new wo _ _
   have hb2':Below wo.heap.size wo W2:=by rw[eW2];exact hb1'.alloc (by omega) _
   have hm2:Blk W2 wo.heap.size 126 #[.int .i64 y0,.string y1,.int .i64 y2,.slice VA y3.length Vc]:=by rw[eW2];exact hm1.alloc _
   have hbk:Blk W2 (wo.heap.size+1) 126 #[.int .i64 y0,.string y1,.int .i64 y2,.slice none 0 0]:=by rw[eW2,←hs1];exact Blk.new W1 _ _
   have hs2:W2.heap.size=wo.heap.size+2:=by rw[eW2,World.size_alloc,hs1]
   have u0:=(hm1.cell 0).trans (show _=some (.int .i64 y0)from rfl);have u1:=(hm1.cell 1).trans (show _=some (.string y1)from rfl);have u2:=(hm1.cell 2).trans (show _=some (.int .i64 y2)from rfl);have v0:=(hm2.cell 0).trans (show _=some (.int .i64 y0)from rfl);have v1:=(hm2.cell 1).trans (show _=some (.string y1)from rfl);have v2:=(hm2.cell 2).trans (show _=some (.int .i64 y2)from rfl);have v3:=(hm2.cell 3).trans (show _=some (.slice VA y3.length Vc)from rfl);have HBc:=hid hb2';have HBk:=hid hbk;have HBw:=hid (HB.out.trans (hb2'.mono hbs));have HCl:=hid (HCs.out _ HBw.out);have HW1:=hid eW1;have HW2:=hid eW2;have hbs2:=hb2'.size;clear HXc HCs hb1' hb2' hbk hm1 hm2 eW1 eW2
   go_upto_region 5 with fail
   rw[←HW1.out]
   go_upto_region 6 with fail
   try rw[←hs1]
   rw[←HW2.out]
   go_wp2_with fail
   refine HCl.out.mono ?_;clear HCl;rintro e w1 ⟨⟨V',rfl,_,hV'⟩,hb1⟩;have hV1:ListOk (Enc.cas E) w1 lo w.heap.size V' cs:=hV'.keep (Enc.cas_laws hE) ((Alk.of_below hb1).mono (Nat.le_refl _) HBw.out.size);have HN0:Hid (NSt E wo (wo.heap.size+1) y0 y1 y2 (.slice none 0 0) [] w1):=hid ⟨HBc.out.trans (hb1.mono hbs2),HBk.out.below hb1 HBk.out.lt,own_nil,(fun c hc=>(by cases hc)),Nat.le_succ _⟩;obtain⟨CA,Cc,rfl,_⟩:=hV1.form;have HV1:Hid (∀ W,Below wo.heap.size w1 W→ListOk (Enc.cas E) W lo w.heap.size (.slice CA cs.length Cc) cs):=hid fun W hW=>hV1.keep (Enc.cas_laws hE) ((Alk.of_below hW).mono (Nat.le_refl _) hbs);clear hV' hV1 hb1 x0 x1 x2 x3 HBc HBk HBw
   go_wp2_with fail
   go_loopw [25] (fun k wq=>∃(q:Nat) (VV:Value) (bods:List (CB β)),q≤cs.length∧k=.int .i64 (q:Int)∧Hid (bods.map CB.plain=(cs.take q).map fun c=>(c.1,g c.2))∧NSt E wo (wo.heap.size+1) y0 y1 y2 VV bods wq∧Below wo.heap.size w1 wq) (fun k _=>cs.length - (intOf k).toNat)
   case atStart=>exact⟨0,_,[],Nat.zero_le _,rfl,hid rfl,HN0.out,Below.refl _ _⟩
   case round=>
    obtain⟨q,VV,bods,hq,rfl,HBp,hN,hbq⟩:=hrel;have HN:=hid hN;have HBq:=hid hbq;have hwo:=hN.below.size;have hyl:=hN.box.lt
    by_cases hlq:q < cs.length
    ·have i3:(0:Int)≤(q:Int):=Int.natCast_nonneg q;have i4:(q:Int) < (cs.length:Int):=by omega
     have hmq:cs[q]∈cs:=List.getElem_mem hlq;have hbl:bods.length=q:=by
      have:=congrArg List.length HBp.out;rw[List.length_map,List.length_map,List.length_take]at this;omega
     have HPl:Hid ((cs.take (q+1)).map (fun c=>(c.1,g c.2))=(cs.take q).map (fun c=>(c.1,g c.2))++[(cs[q].1,g cs[q].2)]):=hid (by rw[List.take_succ_eq_append_getElem hlq,List.map_append];rfl)
     obtain⟨b1,o1,U,rfl,r1,r2,z0,z1,hU⟩:=(HV1.out _ hbq).casAt q hlq;obtain⟨UA,Uc,rfl,_⟩:=hU.form;obtain⟨W3,eW3⟩:∃ W3,W3=wr.alloc (.cells #[.string cs[q].1,.slice UA cs[q].2.length Uc] 189):=⟨_,rfl⟩;have hs3:W3.heap.size=wr.heap.size+1:=by rw[eW3,World.size_alloc]
     have hb3:Below wr.heap.size wr W3:=by rw[eW3];exact(Below.refl _ _).alloc (Nat.le_refl _) _
     have hk3:Blk W3 wr.heap.size 189 #[.string cs[q].1,.slice UA cs[q].2.length Uc]:=by rw[eW3];exact Blk.new wr _ _
     have kc0:=(hk3.cell 0).trans (show _=some (.string cs[q].1)from rfl);have kc1:=(hk3.cell 1).trans (show _=some (.slice UA cs[q].2.length Uc)from rfl);have hN3:=hN.on hE hb3;have HN3:=hid hN3;have HBq3:Hid (Below wo.heap.size w1 W3):=hid (hbq.trans (hb3.mono (by omega)))
     have hkl:wr.heap.size < W3.heap.size:=by omega
     have hyl3:=hN3.box.lt;have hwo3:=hN3.below.size;have HCl:Hid (Calls Tryz.prog 53 #[.slice UA cs[q].2.length Uc] W3.drew fun e w'=>Below W3.drew.heap.size W3.drew w'∧∃ u,e=.returned u∧ListOk E w' W3.drew.heap.size w'.heap.size u (g cs[q].2)):=hid
      (HI.out _ hmq W3.drew _ (HB.out.trans (hN3.below.mono hbs)).drew ((ListOk.keep (w':=W3.drew) hE hU fun p _ h2=>hb3.cell (p:=p) (by omega)).mono hE (Nat.le_refl _) (by show _≤W3.heap.size;omega)))
     have d3:W3.cell? ⟨wo.heap.size+1,3,none⟩=some VV:=(hN3.box.cell 3).trans rfl;have hbl2:bods.length≤10000000:=by omega
     have HW3:=hid eW3;clear hU hmq hbq hN hbl hb3 hk3 hN3 eW3 HN HBq;generalize cs[q]=cc at *;obtain⟨ck,cb⟩:=cc;dsimp only at z0 z1 HCl HPl kc0 kc1 HW3;have hb1l:b1 < wr.heap.size:=by omega
     go_upto_region 9 with fail
     rw[←HW3.out]
     go_region_law
      (first
        | (refine step_append_ownN (by rfl) _ _ 124 (by rfl) (wo.heap.size+1+1) 189 Tryz.underlying124 info_case rfl (by decide) (flatC bods) (by rfl) HN6.out.row [.string ck,.slice A5 (g cb).length c5] (by rfl) (by rfl) (.inr ⟨_,_,rfl,two_newsC w5 _ _ _⟩) (by simp[Value.oneCell']) (by unfold maxLen;omega) (by omega) (by simp;omega) ?_
           intro v7 w7 hown7 hgrow7 ho7;obtain⟨A7,c7,hv7,_⟩:=own_slice hown7;subst hv7;have e3:w7.cell? ⟨wo.heap.size+1,3,none⟩=some VV:=((Blk.cell (t:=126) ((hgrow7.block (wo.heap.size+1) HN6.out.box.lt (fun e=>own_box HN6.out.row (Nat.lt_succ_self _) e.symm)).trans HN6.out.box) 3)).trans rfl;have f3:w7.frozen? ⟨wo.heap.size+1,3,none⟩=false:=Blk.frozen (t:=126) ((hgrow7.block (wo.heap.size+1) HN6.out.box.lt (fun e=>own_box HN6.out.row (Nat.lt_succ_self _) e.symm)).trans HN6.out.box) 3;have HN8:=hid (HN6.out.push hE (c:=⟨ck,g cb,.slice A5 (g cb).length c5,W3.heap.size,w5.heap.size⟩) HBd.out HAw.out hgrow7 hown7 ho7);have HB8:=hid (((((HBq3.out.trans (HB5.out.mono hwo3)).alloc (by omega) (.cells #[.string ck,.slice A5 (g cb).length c5] 189)).grown hgrow7 (by simp;omega) (fun r e=>by have:=(own_lt HN6.out.row e).1;omega))).setCell (p:=⟨wo.heap.size+1,3,none⟩) (Nat.le_succ _) (.slice A7 (bods.length+1) c7))
           clear hown7 hgrow7 ho7)
        | (go_simp
           go_at_call 53
           refine HCl.out.mono ?_;rintro e w5 ⟨hb5,u5,rfl,hl5⟩;obtain⟨A5,c5,hu5,_⟩:=hl5.form;subst hu5;have hb6:Below W3.heap.size W3 w5:=below_undrewC hb5;have hz5:=hb6.size;have HN6:Hid (NSt E wo (wo.heap.size+1) y0 y1 y2 VV bods (w5.alloc (.cells #[.string ck,.slice A5 (g cb).length c5] 189))):=hid ((HN3.out.on hE hb6).on hE ((Below.refl _ _).alloc (Nat.le_refl _) _));have HBd:Hid (BodOk E (wo.heap.size+1+1) (w5.alloc (.cells #[.string ck,.slice A5 (g cb).length c5] 189)) ⟨ck,g cb,.slice A5 (g cb).length c5,W3.heap.size,w5.heap.size⟩):=hid (BodOk.below hE (W:=w5) ⟨by show _≤W3.heap.size;omega,hl5,Nat.le_refl _⟩ ((Below.refl _ _).alloc (Nat.le_refl _) _))
           have HAw:Hid (away VV W3.heap.size w5.heap.size):=hid fun r hr=>.inl (own_lt HN3.out.row hr).2;have HB5:=hid hb6;have d5:w5.cell? ⟨wo.heap.size+1,3,none⟩=some VV:=(hb6.cell (p:=⟨wo.heap.size+1,3,none⟩) hyl3).trans d3;have z5:w5.cell? ⟨wr.heap.size,0,none⟩=some (.string ck):=(hb6.cell (p:=⟨wr.heap.size,_,none⟩) hkl).trans kc0;have d6:(w5.alloc (.cells #[.string ck,.slice A5 (g cb).length c5] 189)).cell? ⟨wo.heap.size+1,3,none⟩=some VV:=(HN6.out.box.cell 3).trans rfl;clear hb5 hb6 hl5))
     all_goals
      go_wp2_with fail
      go_roundw
      case rel=>
       refine⟨q+1,_,_,by omega,by go_num,?_,HN8.out,HB8.out⟩
       exact hid (by rw[List.map_append,HBp.out,HPl.out];rfl)
      case measure=>simp[intOf];omega
    ·obtain rfl:q=cs.length:=by omega
     have et:cs.take cs.length=cs:=List.take_length;rw[et]at HBp;obtain⟨XA,Xc,hvv,_⟩:=own_slice hN.row;subst hvv;have c0:=(hN.box.cell 0).trans (show _=some (.int .i64 y0)from rfl);have c1:=(hN.box.cell 1).trans (show _=some (.string y1)from rfl);have c2:=(hN.box.cell 2).trans (show _=some (.int .i64 y2)from rfl);have c3:=(hN.box.cell 3).trans (show _=some (.slice XA bods.length Xc)from rfl);have HN2:Hid (NSt E wo (wo.heap.size+1) y0 y1 y2 (.slice XA bods.length Xc) bods (wr.alloc (.cells #[.int .i64 y0,.string y1,.int .i64 y2,.slice XA bods.length Xc] 126))):=hid (hN.on hE ((Below.refl _ _).alloc (Nat.le_refl _) _));have HS2:Hid (Sep E w.heap.size (wr.alloc (.cells #[.int .i64 y0,.string y1,.int .i64 y2,.slice XA bods.length Xc] 126)) (.slice OA xs.length Oc) xs):=hid (HS.out.below hE HN2.out.below);have HBo:Hid (Below w.heap.size w (wr.alloc (.cells #[.int .i64 y0,.string y1,.int .i64 y2,.slice XA bods.length Xc] 126))):=hid (HB.out.trans (HN2.out.below.mono hbs));clear et hN hbq HV1 HI HN0
     go_wp2_with (at_builtin;refine wpList_append_any rfl _ _ 39 rfl w.heap.size 126 Tryz.underlying39 info_node rfl (by decide) (flatM xs) rfl HS2.out.row [.int .i64 y0,.string y1,.int .i64 y2,.slice XA bods.length Xc] rfl rfl (.inr ⟨_,_,rfl,four_newsC wr _ _ _ _ _⟩) (by simp[Value.oneCell']) (by unfold maxLen;omega) (by omega) (by simp;omega) ?_)
     intro v7 w7 hown7 hgrow7 ho7;obtain⟨A7,c7,hv7,_⟩:=own_slice hown7;subst hv7;have HS8:=hid (HS.out.push hE (x:=⟨y0,y1,y2,.slice XA bods.length Xc,bods⟩) HN2.out hbs hgrow7 hown7 (by rw[World.size_alloc];exact ho7))
     have HB8:=hid (HBo.out.grown hgrow7 (by simp;omega) (fun r e=>(own_lt HS2.out.row e).1))
     have HX8:Hid ((xs++[(⟨y0,y1,y2,.slice XA bods.length Xc,bods⟩:CN β)]).map CN.plain=(m.take (j+1)).map (cpyX g)):=hid (by rw[List.map_append,HX.out,HTk.out,HCx.out,←HBp.out];rfl)
     clear hown7 hgrow7 ho7 HBo HS2 HN2 c0 c1 c2 c3
     go_wp2_with fail
     go_roundw
     case rel=>exact⟨j+1,_,by omega,by go_num,HX8,HS8.out,HB8.out⟩
     case measure=>simp[intOf];omega
  ·obtain rfl:j=m.length:=by omega
   have et:m.take m.length=m:=List.take_length;rw[et]at HX;clear et hb hsep
   go_wp2_with fail
   go_ret
   exact⟨HB.out,_,xs,rfl,HX.out,HS.out⟩
theorem cpy_any:(n:Nat)→(m:List (Nd n))→(v:Value)→(lo:Nat)→(w:World)→MsgIn n m→ListOk (Enc.node n) w lo w.heap.size v m→
 Calls Tryz.prog 53 #[v] w fun e w'=>Below w.heap.size w w'∧∃ u,e=.returned u∧ListOk (Enc.node n) w' w.heap.size w'.heap.size u (cpyN n m)
 | 0,m,v,lo,w,hm,hv=>by
   obtain rfl:=empty_list m;obtain⟨A,c,rfl,_⟩:=hv.form;have h:=cpy_walk (E:=Enc.none_) Enc.none_laws (fun l=>l) ([]:List (NdF Empty)) (.slice A 0 c) lo w (ListOk.nil c A) (Nat.zero_le _) (hid fun x hx=>by cases hx) (hid fun x hx=>by cases hx)
   refine h.mono ?_;rintro e w' ⟨hb,out,xs,rfl,hx,hs⟩;obtain rfl:xs=[]:=by simpa using hx
   obtain⟨B,d,hv',_⟩:=own_slice hs.row;exact⟨hb,_,rfl,by rw[hv'];exact ListOk.nil d B⟩
 | n+1,m,v,lo,w,hm,hv=>by
   have h:=cpy_walk (E:=Enc.node n) (Enc.node_laws n) (cpyN n) (m:List (NdF (Nd n))) v lo w hv hm.len
    (hid fun x hx=>by have h1:smallF (SmallN n) x:=hm.each x hx;exact h1.2.1)
    (hid fun x hx c hc W U _ hU=>cpy_any n c.2 U lo W (hm.body hx (casesR_sub hc)) hU)
   refine h.mono ?_;rintro e w' ⟨hb,out,xs,rfl,hx,hs⟩;refine⟨hb,_,rfl,?_⟩;have h:=hs.list (Enc.node_laws n) (Nat.le_refl _) (Nat.le_refl _);rw[hx]at h;exact h
end Go.Proofs.YtpfmmbbggcghiaaGreatDoor
