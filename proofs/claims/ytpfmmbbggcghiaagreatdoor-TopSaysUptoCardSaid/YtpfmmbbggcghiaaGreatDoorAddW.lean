/- (*Code).add: the walk; at any depth. -/
import Derived.Test.YtpfmmbbggcghiaaGreatDoorCodN
set_option linter.unusedSimpArgs false
set_option linter.unusedVariables false
namespace Go.Proofs.YtpfmmbbggcghiaaGreatDoor
open Go.RowKit
open Lib (hid)
theorem info_step:(Tryz.prog.info? 129).map (fun i=>(i.zero,i.size,i.bytes))=some (some (.agg #[.int .i64 0,.string ByteArray.empty,.int .i64 0,.slice none 0 0,.slice none 0 0,.int .i64 0]),6,88):=by kernel_rfl
theorem info_intA:(Tryz.prog.info? 3).map (fun i=>(i.zero,i.size,i.bytes))=some (some (.int .i64 0),1,8):=by kernel_rfl
theorem six_newsA (W:World) (a b c d e f:Value) (t:TypeId):∀ q u,([a,b,c,d,e,f]:List Value)[q]? =some u→(W.alloc (.cells #[a,b,c,d,e,f] t)).cell? ⟨W.heap.size,0+q,none⟩=some u:=fun q u hq=>by
 rw[Nat.zero_add,(Blk.new W t #[a,b,c,d,e,f]).cell q];simpa using hq
theorem one_newsA (W:World) (a:Value) (t:TypeId):∀ q u,([a]:List Value)[q]? =some u→(W.alloc (.cells #[a] t)).cell? ⟨W.heap.size,0+q,none⟩=some u:=fun q u hq=>by
 rw[Nat.zero_add,(Blk.new W t #[a]).cell q];simpa using hq
def AddR (B k:Nat) (w:World) (xs:List SU) (l:List StpV) (w':World):Prop:=AdK B k w w'∧∃ ys,ys.map SU.x=l∧CodeAt B k w' (xs++ys)∧fresh w.heap.size ys
set_option maxHeartbeats 12800000 in
set_option maxRecDepth 100000 in
theorem add_walk {β:Type} {E:Enc β} (hE:E.Laws) (f:Nat→List β→List StpV) (B k N:Nat) (hN:N≤1000000000) (m:List (NdF β)) (v:Value) (lo hi:Nat) (hh:hi≤B) (xs:List SU) (w:World)
 (hv:ListOk (Enc.nodeF E) w lo hi v m) (hc:CodeAt B k w xs) (hBw:B≤w.heap.size) (hl:m.length≤10000000) (hn:xs.length+(rowF f xs.length m).length≤N) (hcl:Hid (∀ x∈m,x.cases.length≤10000000))
 (IH:Hid (∀ x∈m,∀ c∈casesR x,∀ W U zs,B≤W.heap.size→ListOk E W lo hi U c.2→CodeAt B k W zs→zs.length+(f zs.length c.2).length≤N→Calls Tryz.prog 52 #[.pointer (some ⟨k,0,none⟩),U] W fun e w'=>e=.returned (.tuple #[])∧AddR B k W zs (f zs.length c.2) w')):
 Calls Tryz.prog 52 #[.pointer (some ⟨k,0,none⟩),v] w fun e w'=>e=.returned (.tuple #[])∧AddR B k w xs (rowF f xs.length m) w':=by
 obtain⟨A,c,rfl,hcap⟩:=hv.form;have HV:Hid (∀ W,Below B w W→ListOk (Enc.nodeF E) W lo hi (.slice A m.length c) m):=hid fun W hW=>hv.keep (Enc.nodeF_laws hE) fun p _ h2=>hW.cell (Nat.lt_of_lt_of_le h2 hh);have HC:=hid hc;have HNn:=hid hn;clear hv hc hn
 go_enter Tryz.func52,Tryz.ntmps52
 go_wp2_with fail
 go_loopw [13] (fun i wr=>∃(j:Nat) (ys:List SU),j≤m.length∧i=.int .i64 (j:Int)∧Hid (ys.map SU.x=rowF f xs.length (m.take j))∧CodeAt B k wr (xs++ys)∧AdK B k w wr∧fresh w.heap.size ys) (fun i _=>m.length - (intOf i).toNat)
 case atStart=>exact⟨0,[],Nat.zero_le _,rfl,hid rfl,by rw[List.append_nil];exact HC.out,AdK.refl _ _ _,fresh.nil⟩
 case round=>
  clear HC;obtain⟨j,ys,hj,rfl,HX,hco,had,hfr⟩:=hrel;obtain⟨wo,rfl⟩:∃ wo:World,wo=wr:=⟨_,rfl⟩;have HA:=hid had;have HF:=hid hfr;have hbs:=had.below.size
  by_cases hlt:j < m.length
  ·have i1:(0:Int)≤(j:Int):=Int.natCast_nonneg j;have i2:(j:Int) < (m.length:Int):=by omega
   have hmem:m[j]∈m:=List.getElem_mem hlt;have hyl:ys.length=(rowF f xs.length (m.take j)).length:=by rw[←HX.out,List.length_map]
   have HTk:Hid (rowF f xs.length (m.take (j+1))=rowF f xs.length (m.take j)++oneF f (xs++ys).length m[j]):=hid (by rw[rowF_take f m _ j hlt,List.length_append,hyl])
   have hTl:(xs++ys).length+(oneF f (xs++ys).length m[j]).length≤N:=by
    have h1:=rowF_le f m xs.length (j+1);rw[HTk.out,List.length_append]at h1;have:=HNn.out;rw[List.length_append]at h1 ⊢;omega
   have hOn:=oneF_len f (xs++ys).length m[j];have HOn:Hid (oneF f (xs++ys).length m[j]=⟨m[j].kind,m[j].text,m[j].off,(casesR m[j]).map Prod.fst,begF f ((xs++ys).length+1) (casesR m[j])++[(xs++ys).length+1+(bodF f ((xs++ys).length+1) (casesR m[j])).length],(xs++ys).length+1+(bodF f ((xs++ys).length+1) (casesR m[j])).length⟩::bodF f ((xs++ys).length+1) (casesR m[j])):=hid rfl;have hTb:(xs++ys).length+1+(bodF f ((xs++ys).length+1) (casesR m[j])).length≤N:=by omega
   obtain⟨b0,o0,V,rfl,hb0,hb0',x0,x1,x2,x3,hV⟩:=(HV.out _ had.below).nodeAt j hlt;obtain⟨VA,Vc,rfl,_⟩:=hV.form;have HCs:Hid (∀ W,Below B wo W→Calls Tryz.prog 91 #[.agg #[.int .i64 m[j].kind,.string m[j].text,.int .i64 m[j].off,.slice VA m[j].cases.length Vc]] W fun e w'=>(∃ V',e=.returned V'∧(V'=.slice VA m[j].cases.length Vc∨V'=.slice none 0 0)∧ListOk (Enc.cas E) W lo hi V' (casesR m[j]))∧Below W.heap.size W w'):=hid fun W hW=>
    Cases_any (E:=E) m[j] (.slice VA m[j].cases.length Vc) lo hi W (hV.keep (Enc.cas_laws hE) fun p h1 h2=>hW.cell (Nat.lt_of_lt_of_le h2 hh))
   have HI:Hid (∀ c∈casesR m[j],∀ W U zs,B≤W.heap.size→ListOk E W lo hi U c.2→CodeAt B k W zs→zs.length+(f zs.length c.2).length≤N→Calls Tryz.prog 52 #[.pointer (some ⟨k,0,none⟩),U] W fun e w'=>e=.returned (.tuple #[])∧AddR B k W zs (f zs.length c.2) w'):=hid (IH.out _ hmem);have hcj:(casesR m[j]).length≤10000000:=Nat.le_trans (casesR_len _) (hcl.out _ hmem);obtain⟨hk0,out,hk1,hk2⟩:=hco;obtain⟨OA,Oc,rfl,_⟩:=own_slice hk2.row;clear hV hmem hyl IH hcl had hfr;generalize hzs:xs++ys=zs at *;have HZ:=hid hzs;clear hzs;have hzN:zs.length≤1000000000:=by omega
   obtain⟨W1,eW1⟩:∃ W1,W1=wo.alloc (.cells #[.int .i64 m[j].kind,.string m[j].text,.int .i64 m[j].off,.slice VA m[j].cases.length Vc] 126):=⟨_,rfl⟩;obtain⟨W2,eW2⟩:∃ W2,W2=W1.alloc (.cells #[.int .i64 m[j].kind,.string m[j].text,.int .i64 m[j].off,.slice none 0 0] 126):=⟨_,rfl⟩;obtain⟨W3,eW3⟩:∃ W3,W3=W2.alloc (.cells #[.int .i64 0,.string ⟨#[]⟩,.int .i64 0,.slice none 0 0,.slice none 0 0,.int .i64 0] 129):=⟨_,rfl⟩;have hs1:W1.heap.size=wo.heap.size+1:=by rw[eW1,World.size_alloc]
   have hs2:W2.heap.size=wo.heap.size+2:=by rw[eW2,World.size_alloc,hs1]
   have hs3:W3.heap.size=wo.heap.size+3:=by rw[eW3,World.size_alloc,hs2]
   have hb1':Below wo.heap.size wo W1:=by rw[eW1];exact(Below.refl _ _).alloc (Nat.le_refl _) _
   have hb2':Below wo.heap.size wo W2:=by rw[eW2];exact hb1'.alloc (by omega) _
   have hb3':Below wo.heap.size wo W3:=by rw[eW3];exact hb2'.alloc (by omega) _
   have hm1:Blk W1 wo.heap.size 126 #[.int .i64 m[j].kind,.string m[j].text,.int .i64 m[j].off,.slice VA m[j].cases.length Vc]:=by rw[eW1];exact Blk.new wo _ _
   have hm3:Blk W3 wo.heap.size 126 #[.int .i64 m[j].kind,.string m[j].text,.int .i64 m[j].off,.slice VA m[j].cases.length Vc]:=by rw[eW3,eW2];exact(hm1.alloc _).alloc _
   have hy3:Blk W3 (wo.heap.size+1) 126 #[.int .i64 m[j].kind,.string m[j].text,.int .i64 m[j].off,.slice none 0 0]:=by rw[eW3,eW2,←hs1];exact(Blk.new W1 _ _).alloc _
   have hc1:Blk W1 k 53 #[.slice OA zs.length Oc,.slice none 0 0]:=hk1.below hb1' hk1.lt;have hc2:Blk W2 k 53 #[.slice OA zs.length Oc,.slice none 0 0]:=hk1.below hb2' hk1.lt;have hc3:Blk W3 k 53 #[.slice OA zs.length Oc,.slice none 0 0]:=hk1.below hb3' hk1.lt;have hr3:SRow B W3 (.slice OA zs.length Oc) zs:=hk2.below hb3';have hn3:=six_newsA W2 (.int .i64 0) (.string ⟨#[]⟩) (.int .i64 0) (.slice none 0 0) (.slice none 0 0) (.int .i64 0) 129;rw[←eW3,hs2]at hn3;have u0:=(hm1.cell 0).trans (show _=some (.int .i64 m[j].kind)from rfl);have u1:=(hm1.cell 1).trans (show _=some (.string m[j].text)from rfl);have u2:=(hm1.cell 2).trans (show _=some (.int .i64 m[j].off)from rfl);have k1:=(hc1.cell 0).trans (show _=some (.slice OA zs.length Oc)from rfl);have k2:=(hc2.cell 0).trans (show _=some (.slice OA zs.length Oc)from rfl);have HR3:=hid hr3;have HC3:=hid hc3;have HM3:=hid hm3;have HY3:=hid hy3;have HB3:=hid hb3';have HN3:=hid hn3;have HW1:=hid eW1;have HW2:=hid eW2;have HW3:=hid eW3;have hBo:B≤wo.heap.size:=by omega
   clear hb1' hb2' hb3' hm1 hm3 hy3 hc1 hc2 hc3 hr3 hn3 eW1 eW2 eW3 hk1 hk2;generalize casesR m[j]=cs at *;generalize m[j]=x at *;obtain⟨y0,y1,y2,y3⟩:=x;dsimp only at x0 x1 x2 x3 HTk HCs HI hcj HOn hTl hTb hOn u0 u1 u2 HM3 HY3 HW1 HW2
   go_upto_region 3 with fail
   rw[←HW1.out]
   go_upto_region 5 with fail
   try rw[←hs1]
   rw[←HW2.out]
   go_wp2_with (at_builtin;rw[←HW3.out];refine wpList_append_any rfl _ _ 51 rfl B 129 Tryz.underlying51 info_step rfl (by decide) (flatU zs) rfl HR3.out.row [.int .i64 0,.string ⟨#[]⟩,.int .i64 0,.slice none 0 0,.slice none 0 0,.int .i64 0] rfl rfl (.inr ⟨_,_,rfl,HN3.out⟩) (by simp[Value.oneCell']) (by unfold maxLen;omega) (by omega) (by omega) ?_)
   intro v7 w7 hown7 hgrow7 _;obtain⟨A7,c7,hv7,_⟩:=own_slice hown7;subst hv7;have had3:AdK B k wo W3:=AdK.of HB3.out hBo;have hin:=AIn.start hk0 HC3.out HR3.out had3 HY3.out (by omega) hBo hgrow7 hown7
   have hx8:=blk_start (v7:=.slice A7 (zs.length+1) c7) HC3.out HR3.out hgrow7 HM3.out (by decide) (by decide)
   have hc7:Blk w7 k 53 #[.slice OA zs.length Oc,.slice none 0 0]:=(hgrow7.block k HC3.out.lt fun e=>own_ne HR3.out.row HC3.out (by decide) e.symm).trans HC3.out
   have k7:=(hc7.cell 0).trans (show _=some (.slice OA zs.length Oc)from rfl);have f7:=hc7.frozen 0;obtain⟨w8,ew8⟩:∃ w8,w8=w7.setCell ⟨k,0,none⟩ (.slice A7 (zs.length+1) c7):=⟨_,rfl⟩;rw[←ew8]at hin hx8;have HW8:=hid ew8;have HIn:=hid hin;have HCl:=hid (HCs.out w8 hin.ad.below);have v0:=(hx8.cell 0).trans (show _=some (.int .i64 y0)from rfl);have v1:=(hx8.cell 1).trans (show _=some (.string y1)from rfl);have v2:=(hx8.cell 2).trans (show _=some (.int .i64 y2)from rfl);have v3:=(hx8.cell 3).trans (show _=some (.slice VA y3.length Vc)from rfl);clear hown7 hgrow7 had3 hin hx8 hc7 ew8 HCs HC3 HR3 HM3 HY3 HB3 HN3 k1 k2 u0 u1 u2 x0 x1 x2 x3
   go_upto_region 6 with fail
   rw[←HW8.out];clear HW8 k7 f7 HW1 HW2 HW3
   go_wp2_with fail
   refine HCl.out.mono ?_;clear HCl;rintro e w9 ⟨⟨V',rfl,_,hV'⟩,hb9⟩;have hB8:B≤w8.heap.size:=Nat.le_trans hBo HIn.out.ad.below.size;have HV1:Hid (∀ W,Below B w8 W→ListOk (Enc.cas E) W lo hi V' cs):=hid fun W hW=>hV'.keep (Enc.cas_laws hE) fun p _ h2=>hW.cell (Nat.lt_of_lt_of_le h2 hh);have HIn9:=hid (HIn.out.on hb9);have HB9:Hid (Below B w8 w9):=hid (hb9.mono hB8);obtain⟨CA,Cc,rfl,_⟩:=hV'.form;clear hV' hb9 v0 v1 v2 v3 HIn
   go_wp2_with fail
   go_loopw [8,42] (fun U i wq=>∃(q:Nat) (V:Value) (y2s:List SU),q≤cs.length∧i=.int .i64 (q:Int)∧Hid (y2s.map SU.x=bodF f (zs.length+1) (cs.take q))∧fresh wo.heap.size y2s∧AIn B k wo (wo.heap.size+1) y0 y1 y2 (zs++[su0]++y2s) ((cs.take q).map Prod.fst) (begF f (zs.length+1) (cs.take q)) V U wq∧Below B w8 wq) (fun _ i _=>cs.length - (intOf i).toNat)
   case atStart=>exact⟨0,_,[],Nat.zero_le _,rfl,hid rfl,fresh.nil,by rw[List.append_nil];exact HIn9.out,HB9.out⟩
   case round=>
    clear HIn9 HB9;obtain⟨q,V,y2s,hq,rfl,HX2,hf2,hN2,hbq⟩:=hrel;have HN2:=hid hN2;have HBq:=hid hbq;have HF2:=hid hf2;have hwo:=hN2.ad.below.size;obtain⟨VVA,VVc,rfl,_⟩:=own_slice hN2.kr;obtain⟨UUA,UUc,rfl,_⟩:=own_slice hN2.br;have hyl2:y2s.length=(bodF f (zs.length+1) (cs.take q)).length:=by rw[←HX2.out,List.length_map]
    have hle2:=bodF_le f cs (zs.length+1) q
    by_cases hlq:q < cs.length
    ·have i3:(0:Int)≤(q:Int):=Int.natCast_nonneg q;have i4:(q:Int) < (cs.length:Int):=by omega
     have hmq:cs[q]∈cs:=List.getElem_mem hlq;have hle3:=bodF_le f cs (zs.length+1) (q+1);have hz2:(zs++[su0]++y2s).length=zs.length+1+y2s.length:=by simp only[List.length_append,List.length_cons,List.length_nil]
     have HP1:Hid ((cs.take (q+1)).map Prod.fst=(cs.take q).map Prod.fst++[cs[q].1]):=hid (by rw[List.take_succ_eq_append_getElem hlq,List.map_append];rfl)
     have HP2:Hid (begF f (zs.length+1) (cs.take (q+1))=begF f (zs.length+1) (cs.take q)++[(zs++[su0]++y2s).length]):=hid (by rw[begF_take f cs _ q hlq,hz2,hyl2])
     have HP3:Hid (bodF f (zs.length+1) (cs.take (q+1))=bodF f (zs.length+1) (cs.take q)++f (zs++[su0]++y2s).length cs[q].2):=hid (by rw[bodF_take f cs _ q hlq,hz2,hyl2])
     rw[HP3.out,List.length_append]at hle3;obtain⟨b1,o1,Ub,rfl,r1,r2,z0,z1,hU⟩:=(HV1.out _ hbq).casAt q hlq;obtain⟨UA,Uc,rfl,_⟩:=hU.form;have HCall:Hid (∀ W,B≤W.heap.size→Below B wr W→CodeAt B k W (zs++[su0]++y2s)→Calls Tryz.prog 52 #[.pointer (some ⟨k,0,none⟩),.slice UA cs[q].2.length Uc] W fun e w'=>e=.returned (.tuple #[])∧AddR B k W (zs++[su0]++y2s) (f (zs++[su0]++y2s).length cs[q].2) w'):=hid fun W h1 h2 h3=>
      HI.out _ hmq W _ _ h1 (hU.keep hE fun p _ h4=>h2.cell (Nat.lt_of_lt_of_le h4 hh)) h3 (by omega)
     have hkl:((cs.take q).map Prod.fst).length≤10000000:=by rw[List.length_map,List.length_take];omega
     have hbl:(begF f (zs.length+1) (cs.take q)).length≤10000000:=by rw[begF_len,List.length_take];omega
     have hzz:(zs++[su0]++y2s).length≤1000000000:=by omega
     clear hU hmq hle2 hle3 hyl2 hz2;generalize (cs.take q).map Prod.fst=ks at *;generalize begF f (zs.length+1) (cs.take q)=bg at *;generalize hq2:zs++[su0]++y2s=zs2 at *;have HQ2:=hid hq2;clear hq2;generalize cs[q]=cc at *;obtain⟨ck,cb⟩:=cc;dsimp only at z0 z1 HCall HP1 HP3;obtain⟨wA,ewA⟩:∃ W,W=wr.alloc (.cells #[.string ck,.slice UA cb.length Uc] 189):=⟨_,rfl⟩;obtain⟨wB,ewB⟩:∃ W,W=wA.alloc (.cells #[.string ck,.slice none 0 0] 189):=⟨_,rfl⟩;have hsA:wA.heap.size=wr.heap.size+1:=by rw[ewA,World.size_alloc]
     have hsB:wB.heap.size=wr.heap.size+2:=by rw[ewB,World.size_alloc,hsA]
     have hbA:Below wr.heap.size wr wA:=by rw[ewA];exact(Below.refl _ _).alloc (Nat.le_refl _) _
     have hbB:Below wr.heap.size wr wB:=by rw[ewB];exact hbA.alloc (by omega) _
     have hkA:Blk wA wr.heap.size 189 #[.string ck,.slice UA cb.length Uc]:=by rw[ewA];exact Blk.new wr _ _
     have hkB:Blk wB wr.heap.size 189 #[.string ck,.slice UA cb.length Uc]:=by rw[ewB];exact hkA.alloc _
     have hNB:=hN2.on hbB;have d3:=((hN2.on hbA).box.cell 3).trans (show _=some (.slice VVA ks.length VVc)from rfl);have kc0:=(hkA.cell 0).trans (show _=some (.string ck)from rfl);have hnw:=two_newsC wA (.string ck) (.slice none 0 0) 189;rw[←ewB,hsA]at hnw;have HNw:=hid hnw;have HNB:=hid hNB;have HKB:=hid hkB;have HWA:=hid ewA;have HWB:=hid ewB;have HbB:=hid hbB;have hylt:=hN2.box.lt;have hoV:∀ g,(Value.slice VVA ks.length VVc).ownBlock=some g→g < wr.heap.size:=fun g e=>(own_lt hN2.kr e).2;have hoU:∀ g,(Value.slice UUA bg.length UUc).ownBlock=some g→g < wr.heap.size:=fun g e=>(own_lt hN2.br e).2;have HoV:=hid hoV;have HoU:=hid hoU;clear hN2 hbq hf2 hbA hbB hkA hkB hNB hnw ewA ewB hoV hoU HI
     go_upto_region 10 with fail
     rw[←HWA.out]
     go_wp2_with (at_builtin;rw[←HWB.out];refine wpList_append_any rfl _ _ 124 rfl (wo.heap.size+1+1) 189 Tryz.underlying124 info_case rfl (by decide) (keyC ks) rfl HNB.out.kr [.string ck,.slice none 0 0] rfl rfl (.inr ⟨_,_,rfl,HNw.out⟩) (by simp[Value.oneCell']) (by unfold maxLen;omega) (by omega) (by omega) ?_)
     intro v7 w7 hown7 hgrow7 ho7;obtain⟨A7,c7,hv7,_⟩:=own_slice hown7;subst hv7;have hin:=HNB.out.key hgrow7 hown7 (by rw[hsB];exact ho7)
     have hb7:Blk w7 (wo.heap.size+1) 126 #[.int .i64 y0,.string y1,.int .i64 y2,.slice VVA ks.length VVc]:=(hgrow7.block _ HNB.out.box.lt fun e=>own_box HNB.out.kr (Nat.lt_succ_self _) e.symm).trans HNB.out.box;have hc7:Blk w7 wr.heap.size 189 #[.string ck,.slice UA cb.length Uc]:=(hgrow7.block _ HKB.out.lt fun e=>by have:=HoV.out _ e.symm;omega).trans HKB.out
     obtain⟨w8',ew8⟩:∃ W,W=w7.setCell ⟨wo.heap.size+1,3,none⟩ (.slice A7 (ks.length+1) c7):=⟨_,rfl⟩;have hc8:Blk w8' wr.heap.size 189 #[.string ck,.slice UA cb.length Uc]:=by rw[ew8];exact hc7.far (by show wr.heap.size≠wo.heap.size+1;omega) _
     have hBr:B≤wr.heap.size:=by omega
     have hbr7:Below B wr w7:=(HbB.out.mono hBr).grown hgrow7 (by omega) (fun r e=>by have:=(own_lt HNB.out.kr e).1;omega)
     have hbr8:Below B wr w8':=by rw[ew8];exact hbr7.setCell (p:=⟨wo.heap.size+1,3,none⟩) (by show B≤wo.heap.size+1;omega) _
     have d7:=(hb7.cell 3).trans (show _=some (.slice VVA ks.length VVc)from rfl);have f7:=hb7.frozen 3;rw[←ew8]at hin;obtain⟨_,sout,hs1',hs2'⟩:=hin.code;obtain⟨SA,Sc,rfl,_⟩:=own_slice hs2'.row;have k8:=(hs1'.cell 0).trans (show _=some (.slice SA zs2.length Sc)from rfl);obtain⟨wC,ewC⟩:∃ W,W=w8'.alloc (.cells #[.int .i64 (zs2.length:Int)] 3):=⟨_,rfl⟩;have hbC:Below w8'.heap.size w8' wC:=by rw[ewC];exact(Below.refl _ _).alloc (Nat.le_refl _) _
     have hinC:=hin.on hbC;have HBrC:Hid (Below B wr wC):=hid (hbr8.trans (hbC.mono (by have:=hbr8.size;omega)))
     have hcC:=hc8.below hbC hc8.lt;have hnC:=one_newsA w8' (.int .i64 (zs2.length:Int)) 3;rw[←ewC]at hnC;have HNC:=hid hnC;have HInC:=hid hinC;have HCC:=hid hcC;have HW8:=hid ew8;have HWC:=hid ewC;have hsC:wC.heap.size=w8'.heap.size+1:=by rw[ewC,World.size_alloc]
     have hgeC:=hinC.ad.below.size;have hyC:=hinC.box.lt;clear hown7 hgrow7 ho7 hin hb7 hc7 hbr7 hbr8 ew8 hc8 hs1' hs2' hbC hinC hcC hnC ewC
     go_upto_region 11 with fail
     rw[←HW8.out]
     go_wp2_with (at_builtin;rw[←HWC.out];refine wpList_append_any rfl _ _ 127 rfl (wo.heap.size+1+1) 3 Tryz.underlying127 info_intA rfl (by decide) (natC bg) rfl HInC.out.br [.int .i64 (zs2.length:Int)] rfl rfl (.inr ⟨_,_,rfl,HNC.out⟩) (by simp[Value.oneCell']) (by unfold maxLen;omega) (by omega) (by omega) ?_)
     intro v10 w10 hown10 hgrow10 ho10;obtain⟨A10,c10,hv10,_⟩:=own_slice hown10;subst hv10;have hin10:=HInC.out.beg hgrow10 hown10 (by rw[hsC];exact ho10)
     have hc10:Blk w10 wr.heap.size 189 #[.string ck,.slice UA cb.length Uc]:=(hgrow10.block _ HCC.out.lt fun e=>by have:=HoU.out _ e.symm;omega).trans HCC.out
     have kc1:=(hc10.cell 1).trans (show _=some (.slice UA cb.length Uc)from rfl);have HIn10:=hid hin10;have hB10:B≤w10.heap.size:=Nat.le_trans hBo hin10.ad.below.size;have HBr10:Hid (Below B wr w10):=hid (HBrC.out.grown hgrow10 (by have:=HBrC.out.size;omega) (fun r e=>by have:=(own_lt HInC.out.br e).1;omega))
     clear hown10 hgrow10 ho10 hin10 hc10;have HCl:=hid (HCall.out w10 hB10 HBr10.out HIn10.out.code);clear HCall k8 d7 f7 d3 kc0
     go_wp2_with fail
     refine HCl.out.mono ?_;clear HCl;rintro e w11 ⟨rfl,hA11,ys3,hy3,hC11,hf11⟩;have HIn11:=hid (HIn10.out.call hA11 hC11 hf11);have hw10:=HIn10.out.ad.below.size;have HF11:Hid (fresh wo.heap.size (y2s++ys3)):=hid (HF2.out.append (hf11.mono hw10));have HX11:Hid ((y2s++ys3).map SU.x=bodF f (zs.length+1) (cs.take (q+1))):=hid (by rw[List.map_append,HX2.out,hy3,←HP3.out])
     have HB11:Hid (Below B w8 w11):=hid ((HBq.out.trans HBr10.out).trans hA11.below);have HQ11:Hid (zs2++ys3=zs++[su0]++(y2s++ys3)):=hid (by rw[←HQ2.out];simp only[List.append_assoc])
     clear hA11 hC11 hf11 hy3
     go_wp2_with fail
     go_roundw
     case rel=>exact⟨q+1,_,y2s++ys3,by omega,by go_num,HX11.out,HF11.out,by rw[←HQ11.out,HP1.out,HP2.out];exact HIn11.out,HB11.out⟩
     case measure=>simp[intOf];omega
    ·obtain rfl:q=cs.length:=by omega
     have et:cs.take cs.length=cs:=List.take_length;rw[et]at HX2 hyl2 hN2 ⊢;have hz2:(zs++[su0]++y2s).length=zs.length+1+y2s.length:=by simp only[List.length_append,List.length_cons,List.length_nil]
     have hzt:zs.length < (zs++[su0]++y2s).length:=by omega
     have hzz:(zs++[su0]++y2s).length≤1000000000:=by omega
     have hbl:(begF f (zs.length+1) cs).length≤10000000:=by rw[begF_len];exact hcj
     have HTot:Hid ((zs++[su0]++y2s).length=zs.length+1+(bodF f (zs.length+1) cs).length):=hid (by rw[hz2,hyl2])
     clear et hle2 hbq;have hks:cs.map Prod.fst=cs.map Prod.fst:=rfl;generalize hkse:cs.map Prod.fst=ks at *;generalize hbge:begF f (zs.length+1) cs=bg at *;generalize hq2:zs++[su0]++y2s=zs2 at *;have HQ2:=hid hq2;have HKs:=hid hkse;have HBg:=hid hbge;clear hq2 hz2 hyl2 hks hkse hbge HN2 HI HV1;obtain⟨_,sout,hs1',hs2'⟩:=hN2.code;obtain⟨SA,Sc,rfl,_⟩:=own_slice hs2'.row;obtain⟨sg,rfl,hsg1,hsg2,_,hsg4⟩:=own_at hs2'.row 0 (by omega)
     obtain⟨wD,ewD⟩:∃ W,W=(wr.alloc (.cells #[.int .i64 (zs2.length:Int)] 3)).drew:=⟨_,rfl⟩;have hbD:Below wr.heap.size wr wD:=by rw[ewD];exact((Below.refl _ _).alloc (Nat.le_refl _) _).drew
     have hnD:∀ q u,([Value.int .i64 (zs2.length:Int)]:List Value)[q]? =some u→wD.cell? ⟨wr.heap.size,0+q,none⟩=some u:=by rw[ewD];exact one_newsA wr (.int .i64 (zs2.length:Int)) 3
     have hND:=hN2.on hbD;have k0:=(hs1'.cell 0).trans (show _=some (.slice (some ⟨sg,0,none⟩) zs2.length Sc)from rfl);have y0':=(hN2.box.cell 0).trans (show _=some (.int .i64 y0)from rfl);have y1':=(hN2.box.cell 1).trans (show _=some (.string y1)from rfl);have y2':=(hN2.box.cell 2).trans (show _=some (.int .i64 y2)from rfl);have y3':=(hN2.box.cell 3).trans (show _=some (.slice VVA ks.length VVc)from rfl);have kD:(wr.alloc (.cells #[.int .i64 (zs2.length:Int)] 3)).cell? ⟨k,0,none⟩=some (.slice (some ⟨sg,0,none⟩) zs2.length Sc):=(hs1'.alloc _).cell 0;have y0D:(wr.alloc (.cells #[.int .i64 (zs2.length:Int)] 3)).cell? ⟨wo.heap.size+1,0,none⟩=some (.int .i64 y0):=(hN2.box.alloc _).cell 0;have y1D:(wr.alloc (.cells #[.int .i64 (zs2.length:Int)] 3)).cell? ⟨wo.heap.size+1,1,none⟩=some (.string y1):=(hN2.box.alloc _).cell 1;have y2D:(wr.alloc (.cells #[.int .i64 (zs2.length:Int)] 3)).cell? ⟨wo.heap.size+1,2,none⟩=some (.int .i64 y2):=(hN2.box.alloc _).cell 2;have y3D:(wr.alloc (.cells #[.int .i64 (zs2.length:Int)] 3)).cell? ⟨wo.heap.size+1,3,none⟩=some (.slice VVA ks.length VVc):=(hN2.box.alloc _).cell 3;have kd:wr.drew.cell? ⟨k,0,none⟩=some (.slice (some ⟨sg,0,none⟩) zs2.length Sc):=k0;have kDd:(wr.alloc (.cells #[.int .i64 (zs2.length:Int)] 3)).drew.cell? ⟨k,0,none⟩=some (.slice (some ⟨sg,0,none⟩) zs2.length Sc):=kD;have y0d:wr.drew.cell? ⟨wo.heap.size+1,0,none⟩=some (.int .i64 y0):=y0'
     have y0Dd:(wr.alloc (.cells #[.int .i64 (zs2.length:Int)] 3)).drew.cell? ⟨wo.heap.size+1,0,none⟩=some (.int .i64 y0):=y0D;have y1d:wr.drew.cell? ⟨wo.heap.size+1,1,none⟩=some (.string y1):=y1';have y1Dd:(wr.alloc (.cells #[.int .i64 (zs2.length:Int)] 3)).drew.cell? ⟨wo.heap.size+1,1,none⟩=some (.string y1):=y1D;have y2d:wr.drew.cell? ⟨wo.heap.size+1,2,none⟩=some (.int .i64 y2):=y2';have y2Dd:(wr.alloc (.cells #[.int .i64 (zs2.length:Int)] 3)).drew.cell? ⟨wo.heap.size+1,2,none⟩=some (.int .i64 y2):=y2D;have y3d:wr.drew.cell? ⟨wo.heap.size+1,3,none⟩=some (.slice VVA ks.length VVc):=y3';have y3Dd:(wr.alloc (.cells #[.int .i64 (zs2.length:Int)] 3)).drew.cell? ⟨wo.heap.size+1,3,none⟩=some (.slice VVA ks.length VVc):=y3D;have hks:sg≠k:=fun e=>own_ne hs2'.row hs1' (by decide) (by rw[e];rfl)
     have hys:sg≠wo.heap.size+1:=fun e=>own_ne hs2'.row hN2.box (by decide) (by rw[e];rfl)
     have it1:(0:Int)≤(zs.length:Int):=Int.natCast_nonneg _;have it2:(zs.length:Int) < (zs2.length:Int):=by omega
     have hsD:wD.heap.size=wr.heap.size+1:=by rw[ewD];exact World.size_alloc ..
     have hgeD:=hND.ad.below.size;have hyD:=hND.box.lt;have HND:=hid hND;have HkD:Hid (Blk wD k 53 #[.slice (some ⟨sg,0,none⟩) zs2.length Sc,.slice none 0 0]):=hid (hs1'.below hbD hs1'.lt);have HnD:=hid hnD;have HWD:=hid ewD;clear hN2 hs1' hs2' hbD hnD hND ewD
     go_wp2_with fail
     go_region_held3 (fun w'=>w'.cell? ⟨k,0,none⟩=some (.slice (some ⟨sg,0,none⟩) zs2.length Sc)∧w'.cell? ⟨wo.heap.size+1,0,none⟩=some (.int .i64 y0)∧w'.cell? ⟨wo.heap.size+1,1,none⟩=some (.string y1)∧w'.cell? ⟨wo.heap.size+1,2,none⟩=some (.int .i64 y2)∧w'.cell? ⟨wo.heap.size+1,3,none⟩=some (.slice VVA ks.length VVc))
      (first
        | (with_reducible exact⟨k7,y0E,y1E,y2E,y3E⟩)
        | (with_reducible exact⟨kDd,y0Dd,y1Dd,y2Dd,y3Dd⟩)
        | (with_reducible exact⟨kd,y0d,y1d,y2d,y3d⟩)
        | (with_reducible exact⟨k0,y0',y1',y2',y3'⟩)
        | (simp only[ne_eq,hks,hys,not_false_eq_true,World.cell?_setCell_far,k7,y0E,y1E,y2E,y3E,and_self]))
      (first
        | (rw[←HWD.out]
           refine step_append_ownN (by rfl) _ _ 127 (by rfl) (wo.heap.size+1+1) 3 Tryz.underlying127 info_intA rfl (by decide) (natC bg) (by rfl) HND.out.br [.int .i64 (zs2.length:Int)] (by rfl) (by rfl) (.inr ⟨_,_,rfl,HnD.out⟩) (by simp[Value.oneCell']) (by unfold maxLen;omega) (by omega) (by omega) ?_
           intro v7 w7 hown7 hgrow7 ho7;obtain⟨A7,c7,hv7,_⟩:=own_slice hown7;subst hv7;have hin7:=HND.out.beg hgrow7 hown7 ho7;have HIn7:=hid hin7;have hk7:Blk w7 k 53 #[.slice (some ⟨sg,0,none⟩) zs2.length Sc,.slice none 0 0]:=(hgrow7.block k HkD.out.lt fun e=>own_ne HND.out.br HkD.out (by decide) e.symm).trans HkD.out
           have k7:=(hk7.cell 0).trans (show _=some (.slice (some ⟨sg,0,none⟩) zs2.length Sc)from rfl);have y0E:=(hin7.box.cell 0).trans (show _=some (.int .i64 y0)from rfl);have y1E:=(hin7.box.cell 1).trans (show _=some (.string y1)from rfl);have y2E:=(hin7.box.cell 2).trans (show _=some (.int .i64 y2)from rfl);have y3E:=(hin7.box.cell 3).trans (show _=some (.slice VVA ks.length VVc)from rfl);obtain⟨⟨e0,p0⟩,q0⟩:=hin7.at_ hzt k7 0 (by decide)
           obtain⟨⟨e1,p1⟩,q1⟩:=hin7.at_ hzt k7 1 (by decide)
           obtain⟨⟨e2,p2⟩,q2⟩:=hin7.at_ hzt k7 2 (by decide)
           obtain⟨⟨e3,p3⟩,q3⟩:=hin7.at_ hzt k7 3 (by decide)
           obtain⟨⟨e4,p4⟩,q4⟩:=hin7.at_ hzt k7 4 (by decide)
           obtain⟨⟨e5,p5⟩,q5⟩:=hin7.at_ hzt k7 5 (by decide)
           rw[Nat.add_zero]at p0 q0;clear hown7 hgrow7 ho7 hin7 hk7))
     have hsV:=fun r (e:(Value.slice VVA ks.length VVc).ownBlock=some r)=>(own_lt HIn7.out.kr e).1;have hsU:=fun r (e:(Value.slice A7 (bg.length+1) c7).ownBlock=some r)=>(own_lt HIn7.out.br e).1;have hfin:=HIn7.out.fin (i:=zs.length) (e:=zs2.length) hzt k7;have hset:zs2.set zs.length ⟨⟨y0,y1,y2,ks,bg++[zs2.length],zs2.length⟩,.slice VVA ks.length VVc,.slice A7 (bg.length+1) c7⟩=xs++(ys++[⟨⟨y0,y1,y2,ks,bg++[zs2.length],zs2.length⟩,.slice VVA ks.length VVc,.slice A7 (bg.length+1) c7⟩]++y2s):=by
      generalize (⟨⟨y0,y1,y2,ks,bg++[zs2.length],zs2.length⟩,.slice VVA ks.length VVc,.slice A7 (bg.length+1) c7⟩:SU)=su;rw[←HQ2.out,List.append_assoc,List.set_append_right _ _ (Nat.le_refl _),Nat.sub_self,←HZ.out];simp only[List.append_assoc,List.singleton_append,List.set_cons_zero,List.cons_append,List.nil_append]
     rw[hset]at hfin;have HFin:=hid hfin;have HXf:Hid ((ys++[⟨⟨y0,y1,y2,ks,bg++[zs2.length],zs2.length⟩,.slice VVA ks.length VVc,.slice A7 (bg.length+1) c7⟩]++y2s:List SU).map SU.x=rowF f xs.length (m.take (j+1))):=hid (by
      rw[List.map_append,List.map_append,HX.out,HX2.out,HTk.out,HOn.out,←HTot.out,List.append_assoc];rfl)
     have HFf:Hid (fresh w.heap.size (ys++[⟨⟨y0,y1,y2,ks,bg++[zs2.length],zs2.length⟩,.slice VVA ks.length VVc,.slice A7 (bg.length+1) c7⟩]++y2s:List SU)):=hid ((HF.out.append (fun s hs r hr=>by
      obtain rfl:=List.mem_singleton.1 hs;rcases hr with hr|hr
      ·have:=hsV r hr;omega
      ·have:=hsU r hr;omega)).append (HF2.out.mono hbs))
     clear hfin hset hsV hsU
     go_wp2_with fail
     go_roundw
     case rel=>exact⟨j+1,_,by omega,by go_num,HXf.out,HFin.out.2,HA.out.trans HFin.out.1,HFf.out⟩
     case measure=>simp[intOf];omega
  ·obtain rfl:j=m.length:=by omega
   have et:m.take m.length=m:=List.take_length;rw[et]at HX;have HCo:=hid hco;clear et hco had hfr
   go_wp2_with fail
   go_end0
   exact⟨rfl,HA.out,ys,HX.out,HCo.out,HF.out⟩
theorem cadd_any (B k N:Nat) (hN:N≤1000000000):(n:Nat)→(m:List (Nd n))→(v:Value)→(lo hi:Nat)→(xs:List SU)→(w:World)→hi≤B→MsgIn n m→ListOk (Enc.node n) w lo hi v m→CodeAt B k w xs→B≤w.heap.size→
 xs.length+(stpN n xs.length m).length≤N→Calls Tryz.prog 52 #[.pointer (some ⟨k,0,none⟩),v] w fun e w'=>e=.returned (.tuple #[])∧AddR B k w xs (stpN n xs.length m) w'
 | 0,m,v,lo,hi,xs,w,hh,hm,hv,hc,hB,hn=>by
   obtain rfl:=empty_list m;obtain⟨A,c,rfl,_⟩:=hv.form;exact add_walk (E:=Enc.none_) Enc.none_laws (fun _ _=>[]) B k N hN ([]:List (NdF Empty)) (.slice A 0 c) lo hi hh xs w (ListOk.nil c A) hc hB (Nat.zero_le _) hn (hid fun x hx=>by cases hx) (hid fun x hx=>by cases hx)
 | n+1,m,v,lo,hi,xs,w,hh,hm,hv,hc,hB,hn=>
   add_walk (E:=Enc.node n) (Enc.node_laws n) (stpN n) B k N hN (m:List (NdF (Nd n))) v lo hi hh xs w hv hc hB hm.len hn
    (hid fun x hx=>by have h1:smallF (SmallN n) x:=hm.each x hx;exact h1.2.1)
    (hid fun x hx c hc W U zs h1 h2 h3 h4=>cadd_any B k N hN n c.2 U lo hi zs W hh (hm.body hx (casesR_sub hc)) h2 h3 h1 h4)
end Go.Proofs.YtpfmmbbggcghiaaGreatDoor
