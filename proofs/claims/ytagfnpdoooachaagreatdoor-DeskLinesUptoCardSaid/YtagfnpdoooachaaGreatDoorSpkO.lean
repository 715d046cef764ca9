/- (*speaker).one: one node said. -/
import Derived.Test.YtagfnpdoooachaaGreatDoorSpkP
set_option linter.unusedSimpArgs false
set_option linter.unusedVariables false
namespace Go.Proofs.YtagfnpdoooachaaGreatDoor
open Go.RowKit
open Lib (hid)
structure SayW (B:Nat) (mb n:Nat) (f:ByteArray→Option ArgV) (w:World):Prop where
 ev:∀ W,Below B w W→EvV W
 own:∀ W,Below B w W→OwnsV W mb n (fun s=>(f s).map ArgV.val)
theorem SayW.on {B mb n:Nat} {f:ByteArray→Option ArgV} {w w':World} (h:SayW B mb n f w) (hb:Below B w w'):SayW B mb n f w':=⟨fun W hW=>h.ev W (hb.trans hW),fun W hW=>h.own W (hb.trans hW)⟩
theorem SpkAt.setOff {B k:Nat} {s:SetV} {am p:Value} {l:List UInt8} {w:World} (h:SpkAt B k s am p l w) {g:Nat} {t:TypeId} {cs:Array Value} (hg:Blk w g t cs) (hne:k≠g) (ht:t≠5) (j:Nat) (u:Value):SpkAt B k s am p l (w.setCell ⟨g,j,none⟩ u):=by
 obtain⟨hB,v,hb,hown,hn⟩:=h;exact⟨hB,v,(Below.heap_setCell _ _ _ _ (fun e=>hne (by simpa using e))).trans hb,hown.kept (row:=some g) ⟨rfl,rfl,rfl,by simp[World.setCell],fun i _ hi=>Below.heap_setCell _ _ _ _ (fun e=>hi (by simp[e]))⟩ (Or.inr (Lib.ownBlock_ne hown hg ht)),hn⟩
theorem Spk.setOff {B k:Nat} {s:SetV} {am:Value} {l:List UInt8} {w:World} (h:Spk B k s am l w) {g:Nat} {t:TypeId} {cs:Array Value} (hg:Blk w g t cs) (hne:k≠g) (ht:t≠5) (j:Nat) (u:Value):Spk B k s am l (w.setCell ⟨g,j,none⟩ u):=h.imp (·.setOff hg hne ht j u) (·.setOff hg hne ht j u)
set_option maxHeartbeats 6400000 in
set_option maxRecDepth 100000 in
theorem one_walk {β:Type} {E:Enc β} (hE:E.Laws) (rec:List β→DecV→List UInt8×Int) (B k mb n C:Nat) (s:SetV) (f:ByteArray→Option ArgV) (x:NdF β) (V:Value) (mark:DecV) (lo hi:Nat) (l:List UInt8) (w:World)
 (h:Spk B k s (.map (some mb)) l w) (hB:B≤w.heap.size) (hW:Hid (SayW B mb n f w)) (hV:ListOk (Enc.cas E) w lo hi V x.cases) (hh:hi≤B) (hcl:x.cases.length≤10000000) (hk:Hid (∀ c∈x.cases,c.1.size≤1000000000)) (hs:s.small)
 (ht:x.text.size≤C) (hC:400≤C∧C≤1000000000) (hf:Hid (ArgIn C f))
 (ho:x.kind=4→0≤x.off∧x.off≤1000) (hne:x.kind=4∨x.kind=5→x.cases≠[]) (hl:l.length+C≤140737488355328)
 (hrec:Hid (∀ c∈x.cases,x.kind=4∨x.kind=5→∀ W vB (d:DecV),Below B w W→Spk B k s (.map (some mb)) l W→ListOk E W lo hi vB c.2→Calls Tryz.prog 84 #[.pointer (some ⟨k,0,none⟩),vB,d.v] W fun e w'=>e=.returned (errD (rec c.2 d).2)∧Spk B k s (.map (some mb)) (l++(rec c.2 d).1) w'∧BwK B k W w')):
 Calls Tryz.prog 130 #[.pointer (some ⟨k,0,none⟩),.agg #[.int .i64 x.kind,.string x.text,.int .i64 x.off,V],mark.v] w fun e w'=>e=.returned (errD (oneO rec s f x mark).2)∧Spk B k s (.map (some mb)) (l++(oneO rec s f x mark).1) w'∧BwK B k w w':=by
 obtain⟨kd,tx,off,cs⟩:=x;dsimp only at hV hcl hk ht ho hne hrec ⊢;obtain⟨A,c,rfl,_⟩:=hV.form;obtain⟨W2,eW2⟩:∃ W2,W2=(w.alloc (.cells #[.int .i64 kd,.string tx,.int .i64 off,.slice A cs.length c] 197)).alloc (.cells #[.int .i64 mark.coef,.int .i64 mark.scale] 44):=⟨_,rfl⟩;have hN1:=Blk.new w 197 #[.int .i64 kd,.string tx,.int .i64 off,.slice A cs.length c];have hN2:Blk W2 w.heap.size 197 #[.int .i64 kd,.string tx,.int .i64 off,.slice A cs.length c]:=by rw[eW2];exact hN1.alloc _
 have hM2:Blk W2 (w.heap.size+1) 44 #[.int .i64 mark.coef,.int .i64 mark.scale]:=by
  rw[eW2];have h1:=Blk.new (w.alloc (.cells #[.int .i64 kd,.string tx,.int .i64 off,.slice A cs.length c] 197)) 44 #[.int .i64 mark.coef,.int .i64 mark.scale];rw[World.size_alloc]at h1;exact h1
 have hb2:Below w.heap.size w W2:=by rw[eW2];exact((Below.refl _ _).alloc (Nat.le_refl _) _).alloc (by simp) _
 have hz2:W2.heap.size=w.heap.size+2:=by rw[eW2];simp
 obtain⟨a,ea⟩:∃ a,a=argOf f tx:=⟨_,rfl⟩;have hO2:=(hW.out.own W2 (hb2.mono hB));have hzr:∀ W,(zeroValue 145).run Tryz.prog W=.ok (.agg #[.string ByteArray.empty,.bool false,.int .i64 0,.int .i64 0,.string ByteArray.empty]) W:=fun W=>by
  simp[Tryz.zeroValue145];rfl
 have hlk:(Instr.lookup 141 (.map (some mb)) (.string tx) false).run Tryz.prog W2.drew=.ok (.agg #[.string a.name,.bool a.isNum,.int .i64 a.num.coef,.int .i64 a.num.scale,.string a.text]) W2.drew:=by
  have h1:=(hO2.keep (w':=W2.drew) rfl).look (t:=141) (e:=145) (k:=tx) Tryz.underlying141 (hzr _) (by unfold maxLen;omega)
  rw[argOf_val f tx,←ea]at h1;exact h1
 have hS2:=h.keep hb2;have p5:=(hS2.cell 5 (by omega)).trans (show _=some (.map (some mb))from rfl)
 have hklt:=h.lt;have HKl:=hid hklt;clear hklt;have hal:Below W2.heap.size W2 (W2.alloc (.cells #[.string ⟨#[]⟩,.bool false,.int .i64 0,.int .i64 0,.string ⟨#[]⟩] 145)):=(Below.refl _ _).alloc (Nat.le_refl _) _;have q5:(W2.alloc (.cells #[.string ⟨#[]⟩,.bool false,.int .i64 0,.int .i64 0,.string ⟨#[]⟩] 145)).cell? ⟨k,5,none⟩=some (.map (some mb)):=((hS2.keep hal).cell 5 (by omega)).trans rfl
 have qn1:=((hN2.alloc (.cells #[.string ⟨#[]⟩,.bool false,.int .i64 0,.int .i64 0,.string ⟨#[]⟩] 145)).cell 1).trans (show _=some (.string tx)from rfl);have hlq:(Instr.lookup 141 (.map (some mb)) (.string tx) false).run Tryz.prog (W2.alloc (.cells #[.string ⟨#[]⟩,.bool false,.int .i64 0,.int .i64 0,.string ⟨#[]⟩] 145)).drew=.ok (.agg #[.string a.name,.bool a.isNum,.int .i64 a.num.coef,.int .i64 a.num.scale,.string a.text]) (W2.alloc (.cells #[.string ⟨#[]⟩,.bool false,.int .i64 0,.int .i64 0,.string ⟨#[]⟩] 145)).drew:=by
  have h1:=((hO2.below hal hO2.lt).keep (w':=(W2.alloc (.cells #[.string ⟨#[]⟩,.bool false,.int .i64 0,.int .i64 0,.string ⟨#[]⟩] 145)).drew) rfl).look (t:=141) (e:=145) (k:=tx) Tryz.underlying141 (hzr _) (by unfold maxLen;omega)
  rw[argOf_val f tx,←ea]at h1;exact h1
 have n0:=(hN2.cell 0).trans (show _=some (.int .i64 kd)from rfl);have n1:=(hN2.cell 1).trans (show _=some (.string tx)from rfl);have HS2:=hid hS2;have HN2:=hid hN2;have HM2:=hid hM2;have HB2:=hid (hb2.mono hB);have HO:=hid ho;have HNE:=hid hne;have HEa:=hid ea;have HV0:=hid hV;have HB0:=hid hb2;obtain⟨W3,eW3⟩:∃ W3,W3=(W2.alloc (.cells #[.string a.name,.bool a.isNum,.int .i64 a.num.coef,.int .i64 a.num.scale,.string a.text] 145)).drew:=⟨_,rfl⟩;have hb3:Below w.heap.size w W3:=by rw[eW3];exact(hb2.alloc (by omega) _).drew
 have hN3:Blk W3 w.heap.size 197 #[.int .i64 kd,.string tx,.int .i64 off,.slice A cs.length c]:=by rw[eW3];exact hN2.alloc _
 have hM3:Blk W3 (w.heap.size+1) 44 #[.int .i64 mark.coef,.int .i64 mark.scale]:=by rw[eW3];exact hM2.alloc _
 have hA3:Blk W3 (w.heap.size+2) 145 #[.string a.name,.bool a.isNum,.int .i64 a.num.coef,.int .i64 a.num.scale,.string a.text]:=by
  rw[eW3,←hz2];exact Blk.new W2 145 _
 have hS3:=h.keep hb3;have HS3:=hid hS3;have HB3:=hid (hb3.mono hB);have HB3s:=hid hb3;have HK3:Hid (BwK B k w W3):=hid (BwK.of hb3 hB);have HKd:Hid (BwK B k w W3.drew):=hid (BwK.of hb3.drew hB);have hB3:B≤W3.heap.size:=Nat.le_trans hB hb3.size;have HW3:=hid (hW.out.on HB3.out);have HE3:=hid (HW3.out.ev);have HV3:=hid (hV.keep (Enc.cas_laws hE) ((Alk.of_below hb3).mono (Nat.zero_le _) (Nat.le_trans hh hB)));have HM3:=hid hM3;have HA3:=hid hA3;have n0:=(hN3.cell 0).trans (show _=some (.int .i64 kd)from rfl);have n1:=(hN3.cell 1).trans (show _=some (.string tx)from rfl);have n2:=(hN3.cell 2).trans (show _=some (.int .i64 off)from rfl);have n3:=(hN3.cell 3).trans (show _=some (.slice A cs.length c)from rfl);have m0:=(hM3.cell 0).trans (show _=some (.int .i64 mark.coef)from rfl);have m1:=(hM3.cell 1).trans (show _=some (.int .i64 mark.scale)from rfl);have a1:=(hA3.cell 1).trans (show _=some (.bool a.isNum)from rfl);have a2:=(hA3.cell 2).trans (show _=some (.int .i64 a.num.coef)from rfl);have a3:=(hA3.cell 3).trans (show _=some (.int .i64 a.num.scale)from rfl);have a4:=(hA3.cell 4).trans (show _=some (.string a.text)from rfl);have fa4:=hA3.frozen 4;have HN2:=hid hN2;have HO:=hid ho;have HNE:=hid hne;have HEa:=hid ea;have HWs:Hid (∀(t:ByteArray) W,Spk B k s (.map (some mb)) l W→B≤W.heap.size→t.size≤C→Calls Tryz.prog 81 #[.pointer (some ⟨k,6,none⟩),.string t] W fun e w'=>e=.returned (.tuple #[.int .i64 t.size,.nilIface])∧Spk B k s (.map (some mb)) (l++bts t) w'∧BwK B k W w'):=
  hid fun t W h1 h2 h3=>wstrS_any B k s _ l t W h1 (by omega) h2
 have hA4:a.text.size≤C:=by rw[ea];exact hf.out.size tx
 have HTx:Hid (a.isNum=true→(Calls Tryz.prog 54 #[.agg #[.int .i64 a.num.coef,.int .i64 a.num.scale]] W3 fun e w'=>e=.returned (.string (str (textD a.num)))∧Below W3.heap.size W3 w')∧(str (textD a.num)).size≤C):=
  hid fun hn=>by
   have hok:a.num.ok:=by rw[ea];rw[ea]at hn;exact hf.out.ok tx hn
   refine⟨textD_any a.num W3 hok (HE3.out W3 (Below.refl _ _)).mv,?_⟩;rw[str_size];have:=textD_len a.num hok;omega
 have HNu:Hid (∀(d:DecV) W,Spk B k s (.map (some mb)) l W→Below B W3 W→Calls Tryz.prog 178 #[.pointer (some ⟨k,0,none⟩),.agg #[.int .i64 d.coef,.int .i64 d.scale]] W fun e w'=>e=.returned (errD (numE d))∧Spk B k s (.map (some mb)) (l++numT d) w'∧BwK B k W w'):=
  hid fun d W h1 h2=>number_say B k s _ l d W h1 (Nat.le_trans hB3 h2.size) (by omega) (hid fun W' hW'=>HE3.out W' (h2.trans hW'))
 clear hal hN1 hN2 hM2 hb2 hO2 hzr hS2 ho hne h hV hb3 hM3 hA3 hS3;have HN3:=hid hN3;clear hN3;obtain⟨po,ePo⟩:∃ po,po=oneO rec s f ⟨kd,tx,off,cs⟩ mark:=⟨_,rfl⟩;rw[←ePo];have HPo:=hid ePo;unfold oneO at HPo;dsimp only at HPo;rw[←HEa.out]at HPo;clear ePo ea;unfold DecV.v
 go_enter Tryz.func130,Tryz.ntmps130
 go_wp2_with fail
 rw[←eW2];clear eW2
 go_region
 all_goals
  rw[←eW3];clear eW3
  by_cases k1:kd=1
  ·have HP:=hid (HPo.out.trans (if_pos k1));clear HPo
   go_wp2_with fail
   go_region_with ((go_at_call 81;refine(HWs.out tx W3.drew HS3.out hB3 ht).mono ?_);rintro e wx ⟨rfl,hSx,hbx⟩)
   all_goals
    have HR:=hid (And.intro hSx (HKd.out.trans hbx));clear hSx hbx
    go_wp2_with fail
    go_ret
    exact⟨by rw[HP.out];rfl,by rw[HP.out];exact HR.out.1,HR.out.2⟩
  ·by_cases k6:kd=6
   ·have HP:=hid (HPo.out.trans ((if_neg k1).trans (if_pos k6)));clear HPo
    go_wp2_with fail
    refine(HNu.out mark W3 HS3.out (Below.refl _ _)).mono ?_;rintro e wx ⟨rfl,hSx,hbx⟩;have HR:=hid (And.intro hSx (HK3.out.trans hbx));clear hSx hbx
    go_wp2_with fail
    go_ret
    exact⟨by rw[HP.out];rfl,by rw[HP.out];exact HR.out.1,HR.out.2⟩
   ·by_cases k3:kd=3
    ·have HP:=hid (HPo.out.trans ((if_neg k1).trans ((if_neg k6).trans (if_pos k3))));clear HPo
     go_wp2_with fail
     refine(HNu.out a.num W3 HS3.out (Below.refl _ _)).mono ?_;rintro e wx ⟨rfl,hSx,hbx⟩;have HR:=hid (And.intro hSx (HK3.out.trans hbx));clear hSx hbx
     go_wp2_with fail
     go_ret
     exact⟨by rw[HP.out];rfl,by rw[HP.out];exact HR.out.1,HR.out.2⟩
    ·by_cases k4:kd=4
     ·subst k4;have HP:=hid (HPo.out.trans ((if_neg k1).trans ((if_neg k6).trans ((if_neg k3).trans (if_pos rfl)))));clear HPo;have hnn:=HNE.out (.inl rfl);obtain⟨i,ei⟩:∃ i,i=caseB s off a.num (cs.map Prod.fst):=⟨_,rfl⟩;have hil:i < cs.length:=by
       rw[ei];have:=caseB_lt s off a.num (cs.map Prod.fst) (fun hh=>hnn (List.map_eq_nil_iff.1 hh));rwa[List.length_map]at this
      obtain⟨ce,ece⟩:∃ ce,ce=caseE s off a.num:=⟨_,rfl⟩;obtain⟨cl,ecl⟩:∃ cl,cl=caseL s off a.num:=⟨_,rfl⟩;rw[←ei,←ece,←ecl]at HP;obtain⟨cb,co,vB,rfl,hc1,hc2,hc3,hc4,hc5⟩:=HV3.out.casAt i hil;obtain⟨A9,c9,rfl,_⟩:=hc5.form;have HCa:Hid (∀ W,Below W3.heap.size W3 W→Calls Tryz.prog 179 #[.agg #[.int .i64 4,.string tx,.int .i64 off,.slice (some ⟨cb,co,none⟩) cs.length c],.agg #[.string s.z,.string s.o,.string s.t,.string s.f,.string s.m],.agg #[.int .i64 a.num.coef,.int .i64 a.num.scale]] W fun e w'=>e=.returned (.tuple #[.int .i64 (i:Int),.agg #[.int .i64 cl.coef,.int .i64 cl.scale],errD ce])∧Below W.heap.size W w'):=hid fun W hW=>by
       have h1:=Case_any hE 4 off tx cs (.slice (some ⟨cb,co,none⟩) cs.length c) s a.num lo hi W (HV3.out.keep (Enc.cas_laws hE) ((Alk.of_below hW).mono (Nat.zero_le _) (Nat.le_trans hh hB3))) (Nat.le_trans (Nat.le_trans hh hB3) hW.size) hcl hk (HO.out rfl) hs (HE3.out W (hW.mono hB3));rw[←ei,←ece,←ecl]at h1;exact h1
      have HSay:Hid (ce=0→∀ W,Below W3.heap.size W3 W→Calls Tryz.prog 84 #[.pointer (some ⟨k,0,none⟩),(.slice A9 cs[i].2.length c9),.agg #[.int .i64 cl.coef,.int .i64 cl.scale]] W fun e w'=>e=.returned (errD po.2)∧Spk B k s (.map (some mb)) (l++po.1) w'∧BwK B k W w'):=hid fun h0 W hW=>by
       rw[HP.out,if_pos h0,bodyAt_get cs i hil];exact hrec.out cs[i] (List.getElem_mem hil) (.inl rfl) W (.slice A9 cs[i].2.length c9) cl (HB3.out.trans (hW.mono hB3)) (HS3.out.keep hW) (hc5.keep hE ((Alk.of_below hW).mono (Nat.zero_le _) (Nat.le_trans hh hB3)))
      have hcb:cb < W3.heap.size:=Nat.lt_of_lt_of_le hc2 (Nat.le_trans hh hB3);have hklt3:=HS3.out.lt;have HCb:Hid (cb < B):=hid (Nat.lt_of_lt_of_le hc2 hh);have q0:=(HS3.out.cell 0 (by omega)).trans (show _=some (.string s.z)from rfl)
      have q1:=(HS3.out.cell 1 (by omega)).trans (show _=some (.string s.o)from rfl)
      have q2:=(HS3.out.cell 2 (by omega)).trans (show _=some (.string s.t)from rfl)
      have q3:=(HS3.out.cell 3 (by omega)).trans (show _=some (.string s.f)from rfl)
      have q4:=(HS3.out.cell 4 (by omega)).trans (show _=some (.string s.m)from rfl)
      have HKS:Hid (∀ W,Below W3.heap.size W3 W→W.cell? ⟨w.heap.size,0,none⟩=some (.int .i64 4)∧W.cell? ⟨w.heap.size,1,none⟩=some (.string tx)∧W.cell? ⟨w.heap.size,2,none⟩=some (.int .i64 off)∧W.cell? ⟨w.heap.size,3,none⟩=some (.slice (some ⟨cb,co,none⟩) cs.length c)∧W.cell? ⟨k,0,none⟩=some (.string s.z)∧W.cell? ⟨k,1,none⟩=some (.string s.o)∧W.cell? ⟨k,2,none⟩=some (.string s.t)∧W.cell? ⟨k,3,none⟩=some (.string s.f)∧W.cell? ⟨k,4,none⟩=some (.string s.m)∧W.cell? ⟨w.heap.size+2,2,none⟩=some (.int .i64 a.num.coef)∧W.cell? ⟨w.heap.size+2,3,none⟩=some (.int .i64 a.num.scale)):=hid fun W hW=>
       ⟨(hW.cell (p:=⟨w.heap.size,0,none⟩) HN3.out.lt).trans n0,(hW.cell (p:=⟨w.heap.size,1,none⟩) HN3.out.lt).trans n1,(hW.cell (p:=⟨w.heap.size,2,none⟩) HN3.out.lt).trans n2,(hW.cell (p:=⟨w.heap.size,3,none⟩) HN3.out.lt).trans n3,
        (hW.cell (p:=⟨k,0,none⟩) hklt3).trans q0,(hW.cell (p:=⟨k,1,none⟩) hklt3).trans q1,(hW.cell (p:=⟨k,2,none⟩) hklt3).trans q2,(hW.cell (p:=⟨k,3,none⟩) hklt3).trans q3,(hW.cell (p:=⟨k,4,none⟩) hklt3).trans q4,
        (hW.cell (p:=⟨w.heap.size+2,2,none⟩) HA3.out.lt).trans a2,(hW.cell (p:=⟨w.heap.size+2,3,none⟩) HA3.out.lt).trans a3⟩
      have HKB:Hid (∀ W,Below W3.heap.size W3 W→∀ g,Blk W g 44 #[.int .i64 cl.coef,.int .i64 cl.scale]→W.cell? ⟨w.heap.size,3,none⟩=some (.slice (some ⟨cb,co,none⟩) cs.length c)∧W.cell? ⟨cb,co+i*2+1,none⟩=some (.slice A9 cs[i].2.length c9)∧W.cell? ⟨g,0,none⟩=some (.int .i64 cl.coef)∧W.cell? ⟨g,1,none⟩=some (.int .i64 cl.scale)):=hid fun W hW g hg=>
       ⟨(hW.cell (p:=⟨w.heap.size,3,none⟩) HN3.out.lt).trans n3,(hW.cell (p:=⟨cb,co+i*2+1,none⟩) hcb).trans hc4,(hg.cell 0).trans rfl,(hg.cell 1).trans rfl⟩
      have i1:(0:Int)≤(i:Int):=Int.natCast_nonneg i;have i2:(i:Int) < (cs.length:Int):=by omega
      have hq0:Below W3.heap.size W3 W3.drew:=(Below.refl _ _).drew;have HZ:Hid (Blk (W3.alloc (.cells #[.int .i64 0,.int .i64 0] 44)).drew W3.heap.size 44 #[.int .i64 0,.int .i64 0]):=hid (Blk.new W3 44 #[.int .i64 0,.int .i64 0]).drew;have hq1:Below W3.heap.size W3 (W3.alloc (.cells #[.int .i64 0,.int .i64 0] 44)).drew:=((Below.refl _ _).alloc (Nat.le_refl _) _).drew;have HQ0:=hid hq0;have HQ1:=hid hq1;clear hc1 hc2 hc3 hc4 hc5 hnn HNE HO HTx HNu HWs hcb q0 q1 q2 q3 q4 n1 n2 n3 m0 m1 a1 a2 a3 a4 fa4 hlk hlq q5 qn1 p5 hz2 hq0 hq1 ei ecl ece;generalize cs[i]=ci at*
      go_upto_region 13 with fail
      clear n0
      go_cut [8,9,10]from 53 (fun x y z wx=>∃ g,x=.int .i64 (i:Int)∧y=.pointer (some ⟨g,0,none⟩)∧z=errD ce∧W3.heap.size≤g∧Blk wx g 44 #[.int .i64 cl.coef,.int .i64 cl.scale]∧Below W3.heap.size W3 wx)
      case first=>
       go_region_held3 (fun w'=>w'.cell? ⟨w.heap.size,0,none⟩=some (.int .i64 4)∧w'.cell? ⟨w.heap.size,1,none⟩=some (.string tx)∧w'.cell? ⟨w.heap.size,2,none⟩=some (.int .i64 off)∧w'.cell? ⟨w.heap.size,3,none⟩=some (.slice (some ⟨cb,co,none⟩) cs.length c)∧w'.cell? ⟨k,0,none⟩=some (.string s.z)∧w'.cell? ⟨k,1,none⟩=some (.string s.o)∧w'.cell? ⟨k,2,none⟩=some (.string s.t)∧w'.cell? ⟨k,3,none⟩=some (.string s.f)∧w'.cell? ⟨k,4,none⟩=some (.string s.m)∧w'.cell? ⟨w.heap.size+2,2,none⟩=some (.int .i64 a.num.coef)∧w'.cell? ⟨w.heap.size+2,3,none⟩=some (.int .i64 a.num.scale))
        (first
          | exact HKS.out _ HQ0.out
          | exact HKS.out _ HQ1.out
          | exact HKS.out _ hbq
          | exact HKS.out _ (hbq.alloc hbq.size _)
          | exact HKS.out _ (by repeat' (with_reducible first|exact hbq|exact Nat.le_refl _|exact hbq.size|refine Below.alloc ?_ ?_ _|refine Below.setCell ?_ ?_ _))
          | fail)
        (first
          | (go_at_call 179
             (first|(with_reducible refine(HCa.out _ HQ0.out).mono ?_)|(with_reducible refine(HCa.out _ HQ1.out).mono ?_))
             rintro e wx ⟨rfl,hbx⟩;have hbq:Below W3.heap.size W3 wx:=by first|exact HQ1.out.trans (hbx.mono HQ1.out.size)|exact HQ0.out.trans (hbx.mono HQ0.out.size)
             (first|(have hz:=HZ.out.below hbx HZ.out.lt;have z0:=(hz.cell 0).trans (show _=some (.int .i64 0)from rfl);have z1:=(hz.cell 1).trans (show _=some (.int .i64 0)from rfl);have f0:=hz.frozen 0;have f1:=hz.frozen 1;have HZx:=hid hz;clear hz)|skip)
             clear hbx)
          | fail)
       all_goals
        go_wp2_with fail
        go_meet
        case rel=>
         first
          | exact⟨_,rfl,rfl,rfl,Nat.le_refl _,(HZx.out.set_ 0 _).set_ 1 _,(hbq.setCell (Nat.le_refl _) _).setCell (Nat.le_refl _) _⟩
          | exact⟨_,rfl,rfl,rfl,hbq.size,Blk.new _ _ _,hbq.alloc hbq.size _⟩
      case rest=>
       obtain⟨g,rfl,rfl,rfl,hg,hblk,hbc⟩:=hcut;have hP0:Hid (ce≠0→po=([],ce)):=hid fun h=>HP.out.trans (if_neg h);have HSt:Hid (Spk B k s (.map (some mb)) l wc∧BwK B k w wc):=hid ⟨HS3.out.keep hbc,BwK.of (HB3s.out.trans (hbc.mono HB3s.out.size)) hB⟩;have HKS3:Hid (∀ W',BwK B k wc W'→W'.cell? ⟨w.heap.size,3,none⟩=some (.slice (some ⟨cb,co,none⟩) cs.length c)∧W'.cell? ⟨cb,co+i*2+1,none⟩=some (.slice A9 ci.2.length c9)∧W'.cell? ⟨g,0,none⟩=some (.int .i64 cl.coef)∧W'.cell? ⟨g,1,none⟩=some (.int .i64 cl.scale)):=hid fun W' hK=>by
        have hkl:=HKl.out;have hkl3:=HS3.out.lt;have h1:=HKB.out wc hbc g hblk;have b1:=hK.blk (HN3.out.below hbc HN3.out.lt) (by omega) (by decide)
        have b2:=hK.blk hblk (by omega) (by decide)
        exact⟨(b1.cell 3).trans rfl,(hK.below.cell (p:=⟨cb,co+i*2+1,none⟩) HCb.out).trans h1.2.1,(b2.cell 0).trans rfl,(b2.cell 1).trans rfl⟩
       have HBc:=hid hbc;clear hblk hbc HKS HKB HZ HQ0 HQ1 HCa HP
       by_cases h0:ce=0
       ·subst h0;rw[errD_zero];have HDr:Hid (BwK B k wc wc.drew):=hid (BwK.of (Below.refl _ _).drew (Nat.le_trans hB3 HBc.out.size));have HS0:=hid (HSay.out rfl wc.drew HBc.out.drew);clear HSay hP0
        go_wp2_with fail
        go_region_held3 (fun w'=>w'.cell? ⟨w.heap.size,3,none⟩=some (.slice (some ⟨cb,co,none⟩) cs.length c)∧w'.cell? ⟨cb,co+i*2+1,none⟩=some (.slice A9 ci.2.length c9)∧w'.cell? ⟨g,0,none⟩=some (.int .i64 cl.coef)∧w'.cell? ⟨g,1,none⟩=some (.int .i64 cl.scale))
         (first
           | exact HKS3.out _ (HDr.out.trans hby)
           | exact HKS3.out _ HDr.out
           | fail)
         (first
           | (go_at_call 84
              (with_reducible refine HS0.out.mono ?_)
              rintro e wy ⟨rfl,hSy,hby⟩;have HR:=hid (And.intro hSy ((HSt.out.2.trans HDr.out).trans hby));clear hSy)
           | fail)
        all_goals
         clear hby
         go_wp2_with fail
         go_ret
         exact⟨rfl,HR.out⟩
       ·have hpo:=hP0.out h0;subst hpo;rw[errD_ne h0];clear HSay HKS3
        go_wp2_with fail
        go_ret
        refine⟨?_,?_⟩
        ·show _=Ending.returned (errD ce);rw[errD_ne h0]
         rfl
        ·exact⟨by simpa using HSt.out.1,HSt.out.2⟩
     ·by_cases k5:kd=5
      ·subst k5;have HP:=hid (HPo.out.trans ((if_neg k1).trans ((if_neg k6).trans ((if_neg k3).trans ((if_neg k4).trans (if_pos rfl))))));clear HPo;have hnn:=HNE.out (.inr rfl);obtain⟨i,ei⟩:∃ i,i=choF a.text (cs.map Prod.fst) 0 0:=⟨_,rfl⟩;have hil:i < cs.length:=by rw[ei];exact choF_lt _ _ 0 0 _ (List.length_pos_iff.2 hnn) (by simp)
       obtain⟨cb,co,vB,rfl,hc1,hc2,hc3,hc4,hc5⟩:=HV3.out.casAt i hil;obtain⟨A9,c9,rfl,_⟩:=hc5.form;have HCh:Hid (∀ W,Below W3.heap.size W3 W→Calls Tryz.prog 180 #[.agg #[.int .i64 5,.string tx,.int .i64 off,.slice (some ⟨cb,co,none⟩) cs.length c],.string a.text] W fun e w'=>e=.returned (.int .i64 (i:Int))∧Below W.heap.size W w'):=hid fun W hW=>by
        have h1:=Choice_any hE 5 off tx cs (.slice (some ⟨cb,co,none⟩) cs.length c) a.text lo hi W (HV3.out.keep (Enc.cas_laws hE) ((Alk.of_below hW).mono (Nat.zero_le _) (Nat.le_trans hh hB3))) (Nat.le_trans (Nat.le_trans hh hB3) hW.size) hcl;rw[←ei]at h1;exact h1
       have HSay:Hid (∀ W,Below W3.heap.size W3 W→Calls Tryz.prog 84 #[.pointer (some ⟨k,0,none⟩),(.slice A9 cs[i].2.length c9),.agg #[.int .i64 mark.coef,.int .i64 mark.scale]] W fun e w'=>e=.returned (errD po.2)∧Spk B k s (.map (some mb)) (l++po.1) w'∧BwK B k W w'):=hid fun W hW=>by
        rw[HP.out,←ei,bodyAt_get cs i hil];exact hrec.out cs[i] (List.getElem_mem hil) (.inr rfl) W (.slice A9 cs[i].2.length c9) mark (HB3.out.trans (hW.mono hB3)) (HS3.out.keep hW) (hc5.keep hE ((Alk.of_below hW).mono (Nat.zero_le _) (Nat.le_trans hh hB3)))
       have hcb:cb < W3.heap.size:=Nat.lt_of_lt_of_le hc2 (Nat.le_trans hh hB3);have HKS:Hid (∀ W,Below W3.heap.size W3 W→W.cell? ⟨w.heap.size,0,none⟩=some (.int .i64 5)∧W.cell? ⟨w.heap.size,1,none⟩=some (.string tx)∧W.cell? ⟨w.heap.size,2,none⟩=some (.int .i64 off)∧W.cell? ⟨w.heap.size,3,none⟩=some (.slice (some ⟨cb,co,none⟩) cs.length c)∧W.cell? ⟨w.heap.size+1,0,none⟩=some (.int .i64 mark.coef)∧W.cell? ⟨w.heap.size+1,1,none⟩=some (.int .i64 mark.scale)∧W.cell? ⟨w.heap.size+2,4,none⟩=some (.string a.text)∧W.cell? ⟨cb,co+i*2+1,none⟩=some (.slice A9 cs[i].2.length c9)):=hid fun W hW=>
        ⟨(hW.cell (p:=⟨w.heap.size,0,none⟩) HN3.out.lt).trans n0,(hW.cell (p:=⟨w.heap.size,1,none⟩) HN3.out.lt).trans n1,(hW.cell (p:=⟨w.heap.size,2,none⟩) HN3.out.lt).trans n2,(hW.cell (p:=⟨w.heap.size,3,none⟩) HN3.out.lt).trans n3,
         (hW.cell (p:=⟨w.heap.size+1,0,none⟩) HM3.out.lt).trans m0,(hW.cell (p:=⟨w.heap.size+1,1,none⟩) HM3.out.lt).trans m1,(hW.cell (p:=⟨w.heap.size+2,4,none⟩) HA3.out.lt).trans a4,(hW.cell (p:=⟨cb,co+i*2+1,none⟩) hcb).trans hc4⟩
       have HKS2:Hid (∀ W W',Below W3.heap.size W3 W→BwK B k W W'→W'.cell? ⟨w.heap.size,0,none⟩=some (.int .i64 5)∧W'.cell? ⟨w.heap.size,1,none⟩=some (.string tx)∧W'.cell? ⟨w.heap.size,2,none⟩=some (.int .i64 off)∧W'.cell? ⟨w.heap.size,3,none⟩=some (.slice (some ⟨cb,co,none⟩) cs.length c)∧W'.cell? ⟨w.heap.size+1,0,none⟩=some (.int .i64 mark.coef)∧W'.cell? ⟨w.heap.size+1,1,none⟩=some (.int .i64 mark.scale)∧W'.cell? ⟨w.heap.size+2,4,none⟩=some (.string a.text)∧W'.cell? ⟨cb,co+i*2+1,none⟩=some (.slice A9 cs[i].2.length c9)):=hid fun W W' hW hK=>by
        have hkl:=HKl.out;have b1:=hK.blk (HN3.out.below hW HN3.out.lt) (by omega) (by decide)
        have b2:=hK.blk (HM3.out.below hW HM3.out.lt) (by omega) (by decide)
        have b3:=hK.blk (HA3.out.below hW HA3.out.lt) (by omega) (by decide)
        exact⟨(b1.cell 0).trans rfl,(b1.cell 1).trans rfl,(b1.cell 2).trans rfl,(b1.cell 3).trans rfl,(b2.cell 0).trans rfl,(b2.cell 1).trans rfl,(b3.cell 4).trans rfl,(hK.below.cell (p:=⟨cb,co+i*2+1,none⟩) (Nat.lt_of_lt_of_le hc2 hh)).trans ((hW.cell (p:=⟨cb,co+i*2+1,none⟩) hcb).trans hc4)⟩
       have i1:(0:Int)≤(i:Int):=Int.natCast_nonneg i;have i2:(i:Int) < (cs.length:Int):=by omega
       have HQ0:Hid (Below W3.heap.size W3 W3.drew):=hid (Below.refl _ _).drew;clear hc1 hc2 hc3 hc4 hc5 hnn HNE HO HP HTx HNu HWs hcb ei n1 n2 n3 m0 m1 a1 a2 a3 a4 fa4 hlk hlq q5 qn1 p5 hz2;generalize cs[i]=ci at*
       go_wp2_with fail
       clear n0
       go_region_held3 (fun w'=>w'.cell? ⟨w.heap.size,0,none⟩=some (.int .i64 5)∧w'.cell? ⟨w.heap.size,1,none⟩=some (.string tx)∧w'.cell? ⟨w.heap.size,2,none⟩=some (.int .i64 off)∧w'.cell? ⟨w.heap.size,3,none⟩=some (.slice (some ⟨cb,co,none⟩) cs.length c)∧w'.cell? ⟨w.heap.size+1,0,none⟩=some (.int .i64 mark.coef)∧w'.cell? ⟨w.heap.size+1,1,none⟩=some (.int .i64 mark.scale)∧w'.cell? ⟨w.heap.size+2,4,none⟩=some (.string a.text)∧w'.cell? ⟨cb,co+i*2+1,none⟩=some (.slice A9 ci.2.length c9))
        (first
          | exact HKS2.out _ _ hbq hby
          | exact HKS.out _ HQ0.out
          | exact HKS.out _ hbq
          | fail)
        (first
          | (go_at_call 180
             (with_reducible refine(HCh.out _ HQ0.out).mono ?_)
             rintro e wx ⟨rfl,hbx⟩;have hbq:Below W3.heap.size W3 wx:=HQ0.out.trans (hbx.mono HQ0.out.size);clear hbx)
          | (go_at_call 84
             (with_reducible refine(HSay.out _ hbq).mono ?_)
             rintro e wy ⟨rfl,hSy,hby⟩;have HR:=hid (And.intro hSy ((BwK.of (HB3s.out.trans (hbq.mono HB3s.out.size)) hB).trans hby));clear hSy)
          | fail)
       all_goals
        clear hbq hby
        go_wp2_with fail
        go_ret
        exact⟨rfl,HR.out⟩
      ·have HP:=hid (HPo.out.trans ((if_neg k1).trans ((if_neg k6).trans ((if_neg k3).trans ((if_neg k4).trans (if_neg k5))))));clear HPo;cases hn:a.isNum with
       | false=>
         rw[hn]at a1;have HQ:=hid (HP.out.trans (show((showT a,0):List UInt8×Int)=(bts a.text,0) by unfold showT;rw[hn];rfl))
         go_wp2_with fail
         go_region_with ((go_at_call 81;refine(HWs.out a.text W3.drew HS3.out hB3 hA4).mono ?_);rintro e wx ⟨rfl,hSx,hbx⟩)
         all_goals
          have HR:=hid (And.intro hSx (HKd.out.trans hbx));clear hSx hbx
          go_wp2_with fail
          go_ret
          exact⟨by rw[HQ.out];rfl,by rw[HQ.out];exact HR.out.1,HR.out.2⟩
       | true=>
         rw[hn]at a1;have HQ:=hid (HP.out.trans (show((showT a,0):List UInt8×Int)=(textD a.num,0) by unfold showT;rw[hn];rfl))
         have HT:=hid (HTx.out hn)
         go_wp2_with fail
         refine HT.out.1.mono ?_;rintro e wx ⟨rfl,hbx⟩;have hmA:=HA3.out.below hbx HA3.out.lt;have fx4:=hmA.frozen 4;have x4:=(hmA.cell 4).trans (show _=some (.string a.text)from rfl);have hS5:=HS3.out.keep hbx;have h25:Below W3.heap.size W3 wx:=hbx;have HBx:=hid (HB3s.out.trans (hbx.mono HB3s.out.size));have hBx:B≤wx.heap.size:=Nat.le_trans hB3 hbx.size;obtain⟨W6,eW6⟩:∃ W6,W6=wx.setCell ⟨w.heap.size+2,4,none⟩ (.string (str (textD a.num))):=⟨_,rfl⟩;have hk2:k≠w.heap.size+2:=by have:=HKl.out;omega
         have hmS:Blk W6 (w.heap.size+2) 145 #[.string a.name,.bool a.isNum,.int .i64 a.num.coef,.int .i64 a.num.scale,.string (str (textD a.num))]:=by
          rw[eW6];exact hmA.set_ 4 _
         have hS6:Spk B k s (.map (some mb)) l W6:=by rw[eW6];exact hS5.setOff hmA hk2 (by decide) _ _
         have hB6:BwK B k w W6.drew:=by rw[eW6];exact BwK.of (HBx.out.setCell (p:=⟨w.heap.size+2,4,none⟩) (by show w.heap.size≤w.heap.size+2;omega) _).drew hB
         have hz6:B≤W6.heap.size:=by rw[eW6];simpa using hBx
         have b4:=(hmS.cell 4).trans (show _=some (.string (str (textD a.num)))from rfl);have HS6:=hid hS6;have HB6:=hid hB6;have HTl:=hid HT.out.2;clear hmS hS6 hB6 hmA hbx hS5 h25 HBx a4 fa4 n0 n1 n2 n3 a1 a2 a3 HT HTx
         go_wp2_with fail
         rw[←eW6];clear eW6 fx4 x4
         go_region_with ((go_at_call 81;refine(HWs.out (str (textD a.num)) W6.drew HS6.out hz6 HTl.out).mono ?_);rintro e wx ⟨rfl,hSx,hbx⟩)
         all_goals
          have HR:=hid (And.intro hSx (HB6.out.trans hbx));clear hSx hbx
          go_wp2_with fail
          go_ret
          exact⟨by rw[HQ.out];rfl,by rw[HQ.out];exact HR.out.1,HR.out.2⟩
end Go.Proofs.YtagfnpdoooachaaGreatDoor
