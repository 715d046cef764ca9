/- (*speaker).say: a message said, at any depth. -/
import Derived.Test.YtagfnpdoooachaaGreatDoorSpkO
import Derived.Test.YtagfnpdoooachaaGreatDoorLangB
import Derived.StillTailTactics
set_option linter.unusedSimpArgs false
set_option linter.unusedVariables false
set_option maxHeartbeats 6400000
set_option maxRecDepth 100000
namespace Go.Proofs.YtagfnpdoooachaaGreatDoor
open Go.RowKit
open Lib (hid)
theorem costs_at {β:Type} (cx:NdF β→Nat) (m:List (NdF β)) (j:Nat) (h:j < m.length):((m.drop j).map cx).sum=cx m[j]+((m.drop (j+1)).map cx).sum:=by
 rw[List.drop_eq_getElem_cons h,List.map_cons,List.sum_cons]
theorem say_walk {β:Type} {E:Enc β} (hE:E.Laws) (one:NdF β→List UInt8×Int) (cx:NdF β→Nat) (B k mb:Nat) (s:SetV) (m:List (NdF β)) (v:Value) (mark:DecV) (lo hi:Nat) (l:List UInt8) (w:World)
 (h:Spk B k s (.map (some mb)) l w) (hB:B≤w.heap.size) (hv:ListOk (Enc.nodeF E) w lo hi v m) (hh:hi≤B) (hl:m.length≤10000000)
 (hlen:∀ x∈m,(one x).1.length≤cx x) (hc:l.length+(m.map cx).sum≤140737488355328)
 (hone:Hid (∀ x∈m,∀ W V acc,Below B w W→Spk B k s (.map (some mb)) acc W→ListOk (Enc.cas E) W lo hi V x.cases→acc.length+cx x≤140737488355328→
   Calls Tryz.prog 130 #[.pointer (some ⟨k,0,none⟩),.agg #[.int .i64 x.kind,.string x.text,.int .i64 x.off,V],.agg #[.int .i64 mark.coef,.int .i64 mark.scale]] W fun e w'=>e=.returned (errD (one x).2)∧Spk B k s (.map (some mb)) (acc++(one x).1) w'∧BwK B k W w')):
 Calls Tryz.prog 84 #[.pointer (some ⟨k,0,none⟩),v,mark.v] w fun e w'=>e=.returned (errD (sayL one m).2)∧Spk B k s (.map (some mb)) (l++(sayL one m).1) w'∧BwK B k w w':=by
 obtain⟨A,c,rfl,_⟩:=hv.form;have hklt:=h.lt;obtain⟨W1,eW1⟩:∃ W1,W1=w.alloc (.cells #[.int .i64 mark.coef,.int .i64 mark.scale] 44):=⟨_,rfl⟩;have hM1:Blk W1 w.heap.size 44 #[.int .i64 mark.coef,.int .i64 mark.scale]:=by rw[eW1];exact Blk.new _ _ _
 have hb1:Below w.heap.size w W1:=by rw[eW1];exact(Below.refl _ _).alloc (Nat.le_refl _) _
 have HS1:=hid (h.keep hb1);have HK1:Hid (BwK B k w W1):=hid (BwK.of hb1 hB);have HM1:=hid hM1;have HV:Hid (∀ W,Below B w W→ListOk (Enc.nodeF E) W lo hi (.slice A m.length c) m):=hid fun W hW=>hv.keep (Enc.nodeF_laws hE) fun p _ hp=>hW.cell (Nat.lt_of_lt_of_le hp hh);have HLn:=hid hlen;have HC:=hid hc;have HKl:=hid hklt;obtain⟨po,ePo⟩:∃ po,po=sayL one m:=⟨_,rfl⟩;rw[←ePo];have HPo:=hid ePo;clear hM1 hb1 h hv hlen hc ePo hklt;unfold DecV.v
 go_enter Tryz.func84,Tryz.ntmps84
 go_wp2_with fail
 rw[←eW1];clear eW1
 go_loopw [8,9,12] (fun _ _ i wr=>∃(j:Nat) (acc:List UInt8),j≤m.length∧i=.int .i64 (j:Int)∧Hid (po=(acc++(sayL one (m.drop j)).1,(sayL one (m.drop j)).2)∧l.length+acc.length+((m.drop j).map cx).sum≤140737488355328)∧Spk B k s (.map (some mb)) (l++acc) wr∧BwK B k w wr∧Blk wr w.heap.size 44 #[.int .i64 mark.coef,.int .i64 mark.scale]) (fun _ _ i _=>m.length - (intOf i).toNat)
 case atStart=>exact⟨0,[],Nat.zero_le _,rfl,hid ⟨by rw[HPo.out];rfl,by simpa using HC.out⟩,by simpa using HS1.out,HK1.out,HM1.out⟩
 case round=>
  obtain⟨j,acc,hj,rfl,HNo,hS,hK,hM⟩:=hrel;obtain⟨wo,rfl⟩:∃ wo:World,wo=wr:=⟨_,rfl⟩;have HS:=hid hS;have HK:=hid hK;have HM:=hid hM
  by_cases hlt:j < m.length
  ·have i1:(0:Int)≤(j:Int):=Int.natCast_nonneg j;have i2:(j:Int) < (m.length:Int):=by omega
   have hmem:m[j]∈m:=List.getElem_mem hlt;obtain⟨b0,o0,V,rfl,_,hb0,x0,x1,x2,x3,hV⟩:=(HV.out _ hK.below).nodeAt j hlt;obtain⟨VA,Vc,rfl,_⟩:=hV.form;have hcs:=costs_at cx m j hlt;have hlj:=HLn.out _ hmem;have hkw:w.heap.size≤wo.heap.size:=hK.below.size;obtain⟨W2,eW2⟩:∃ W2,W2=wo.alloc (.cells #[.int .i64 m[j].kind,.string m[j].text,.int .i64 m[j].off,.slice VA m[j].cases.length Vc] 197):=⟨_,rfl⟩;have hb2:Below wo.heap.size wo W2:=by rw[eW2];exact(Below.refl _ _).alloc (Nat.le_refl _) _
   have hX2:Blk W2 wo.heap.size 197 #[.int .i64 m[j].kind,.string m[j].text,.int .i64 m[j].off,.slice VA m[j].cases.length Vc]:=by rw[eW2];exact Blk.new _ _ _
   have hK2:BwK B k w W2:=hK.trans (BwK.of hb2 (Nat.le_trans hB hkw));have HOne:=hid (hone.out _ hmem W2 (.slice VA m[j].cases.length Vc) (l++acc) hK2.below (hS.keep hb2) (hV.keep (Enc.cas_laws hE) fun p _ hp=>hb2.cell (Nat.lt_of_lt_of_le hp (Nat.le_trans hh (Nat.le_trans hB hkw)))) (by rw[List.length_append];have:=HNo.out.2;omega))
   have HBad:Hid ((one m[j]).2≠0→po=(acc++(one m[j]).1,(one m[j]).2)):=hid fun hb=>by rw[HNo.out.1,sayL_bad hlt hb]
   have HOn:Hid ((one m[j]).2=0→po=((acc++(one m[j]).1)++(sayL one (m.drop (j+1))).1,(sayL one (m.drop (j+1))).2)∧l.length+(acc++(one m[j]).1).length+((m.drop (j+1)).map cx).sum≤140737488355328):=hid fun hb=>by
    refine⟨by rw[HNo.out.1,sayL_on hlt hb,List.append_assoc],?_⟩
    rw[List.length_append];have:=HNo.out.2;omega
   have m0:=((hM.below hb2 hM.lt).cell 0).trans (show _=some (.int .i64 mark.coef)from rfl);have m1:=((hM.below hb2 hM.lt).cell 1).trans (show _=some (.int .i64 mark.scale)from rfl);have y0:=(hX2.cell 0).trans (show _=some (.int .i64 m[j].kind)from rfl);have y1:=(hX2.cell 1).trans (show _=some (.string m[j].text)from rfl);have y2:=(hX2.cell 2).trans (show _=some (.int .i64 m[j].off)from rfl);have y3:=(hX2.cell 3).trans (show _=some (.slice VA m[j].cases.length Vc)from rfl);have HM2:=hid (hM.below hb2 hM.lt);have HK2:=hid hK2;have HW2:=hid eW2;have hne:w.heap.size≠k:=by have:=HKl.out;omega
   clear hmem hV hcs hlj hb2 hX2 hK2 hS hK hM HNo eW2;generalize one m[j]=r at *;generalize m[j]=x at *;obtain⟨kd,tx,off,cs⟩:=x;obtain⟨rl,re⟩:=r;dsimp only at*
   go_upto_region 4 with fail
   rw[←HW2.out];clear HW2 x0 x1 x2 x3
   go_wp2_with fail
   refine HOne.out.mono ?_;clear HOne;rintro e w3 ⟨rfl,hS3,hb3⟩;have HS3:=hid hS3;have HK3:=hid (HK2.out.trans hb3);have HM3:=hid (hb3.blk HM2.out hne (by decide))
   clear hS3 hb3 HM2 HK2 HS HK HM m0 m1 y0 y1 y2 y3
   by_cases h0:re=0
   ·subst h0;have HN:=hid (HOn.out rfl);rw[errD_zero];clear HOn HBad
    go_wp2_with fail
    go_roundw
    case rel=>exact⟨j+1,acc++rl,by omega,by go_num,hid HN.out,by rw[←List.append_assoc];exact HS3.out,HK3.out,HM3.out⟩
    case measure=>simp[intOf];omega
   ·have HN:=hid (HBad.out h0);rw[errD_ne h0];clear HOn HBad
    go_wp2_with fail
    go_ret
    rw[HN.out];exact⟨by rw[errD_ne h0];rfl,by rw[←List.append_assoc];exact HS3.out,HK3.out⟩
  ·obtain rfl:j=m.length:=by omega
   have HN:Hid (po=(acc,0)):=hid (by rw[HNo.out.1,List.drop_length];simp[sayL])
   clear HNo hS hK hM
   go_wp2_with fail
   go_ret
   rw[HN.out];exact⟨rfl,HS.out,HK.out⟩
theorem say_any (C:Nat) (hC:400≤C∧C≤1000000000) (B k mb cn:Nat) (s:SetV) (hs:s.small) (f:ByteArray→Option ArgV) (hf:Hid (ArgIn C f)) (lo hi:Nat) (hh:hi≤B):
 (n:Nat)→(m:List (Nd n))→(v:Value)→(mark:DecV)→(l:List UInt8)→(w:World)→MsgIn n m→GoodN n m→TextN C n m→Spk B k s (.map (some mb)) l w→B≤w.heap.size→SayW B mb cn f w→ListOk (Enc.node n) w lo hi v m→l.length+costN C n m≤140737488355328→
 Calls Tryz.prog 84 #[.pointer (some ⟨k,0,none⟩),v,mark.v] w fun e w'=>e=.returned (errD (sayN s f n m mark).2)∧Spk B k s (.map (some mb)) (l++(sayN s f n m mark).1) w'∧BwK B k w w'
 | 0,m,v,mark,l,w,hm,hg,ht,h,hB,hW,hv,hc=>by
   obtain rfl:=empty_list m;obtain⟨A,c,rfl,_⟩:=hv.form;exact say_walk (E:=Enc.none_) Enc.none_laws (fun _=>([],0)) (fun _=>0) B k mb s ([]:List (NdF Empty)) (.slice A 0 c) mark lo hi l w h hB (ListOk.nil c A) hh (Nat.zero_le _) (fun x hx=>by cases hx) (by simpa[costN]using hc) (hid fun x hx=>by cases hx)
 | n+1,m,v,mark,l,w,hm,hg,ht,h,hB,hW,hv,hc=>by
   refine say_walk (E:=Enc.node n) (Enc.node_laws n) (fun x=>oneO (sayN s f n) s f x mark) (costF (costN C n) C) B k mb s (m:List (NdF (Nd n))) v mark lo hi l w h hB hv hh hm.len
    (fun x hx=>oneO_len hC.1 (ht x hx).1 hf.out (hg x hx) fun c hc hk d=>sayN_len hC.1 hf.out n c.2 d (((hg x hx).2 hk).2 c hc) ((ht x hx).2 c hc)) hc (hid fun x hx W V acc hW' hS hV hac=> ?_)
   have h1:smallF (SmallN n) x:=hm.each x hx;have hcost:C≤costF (costN C n) C x:=Nat.le_add_right _ _;exact one_walk (Enc.node_laws n) (sayN s f n) B k mb cn C s f x V mark lo hi acc W hS (Nat.le_trans hB hW'.size) (hid (hW.on hW')) hV hh h1.2.1 (hid fun c hc=>(h1.2.2 c hc).1) hs (ht x hx).1 hC hf (hg x hx).1 (fun hk=>((hg x hx).2 hk).1) (by omega)
    (hid fun c hcm hk W2 vB d hW2 hS2 hV2=>say_any C hC B k mb cn s hs f hf lo hi hh n c.2 vB d acc W2 (hm.body hx hcm) (((hg x hx).2 hk).2 c hcm) ((ht x hx).2 c hcm) hS2 (Nat.le_trans hB (hW'.trans hW2).size) (hW.on (hW'.trans hW2)) hV2 (by
      have h2:=mem_sum (fun c:ByteArray×List (Nd n)=>costN C n c.2) x.cases c hcm;have h3:costF (costN C n) C x=C+(x.cases.map fun c=>costN C n c.2).sum:=rfl;omega))
end Go.Proofs.YtagfnpdoooachaaGreatDoor
namespace Go.Proofs.YtagfnpdoooachaaGreatDoor
open Go.RowKit Go.Maps
open Lib (hid)
def sayS (n:Nat) (m:List (Nd n)) (lang:ByteArray) (args:List ArgV):List UInt8×Int:=
 if fitsR n m args≠0 then([],fitsR n m args)else if(sayN (langS lang) (argF args) n m ⟨0,0⟩).2≠0 then([],(sayN (langS lang) (argF args) n m ⟨0,0⟩).2)else((sayN (langS lang) (argF args) n m ⟨0,0⟩).1,0)
structure SayIn (n:Nat) (m:List (Nd n)) (args:List ArgV):Prop where
 bulk:(m.map (Enc.node n).bulk).sum≤1048576
 len:args.length≤1000000
 name:∀ a∈args,a.name.size≤1048576
 text:∀ a∈args,a.text.size≤1048576
theorem langS_small (s:ByteArray):(langS s).small:=langR_small s
theorem spk_set (w w':World) (B k:Nat) (s:SetV) (am:Value) (hB:B≤k) (h:Blk w' k 143 (spkC s am (.pointer none) (.slice none 0 0))):Spk B k s am [] w':=
 Or.inl ⟨hB,.slice none 0 0,h,World.ownsRow_nil _ _ _ _,by simp[Value.ownBlock]⟩
theorem Say_any (n:Nat) (m:List (Nd n)) (v:Value) (lang:ByteArray) (args:List ArgV) (vA:Value) (lo loA:Nat) (w:World) (hi:SayIn n m args) (hL:lang.size≤maxLen) (hv:ListOk (Enc.node n) w lo w.heap.size v m) (hA:ListOk Enc.argV w loA w.heap.size vA args) (hV:EvV w):
 Calls Tryz.prog 45 #[v,.string lang,vA] w fun e w'=>e=.returned (.tuple #[.string (str (sayS n m lang args).1),errD (sayS n m lang args).2])∧Below w.heap.size w w':=by
 obtain⟨A,c,rfl,_⟩:=hA.form;obtain⟨Av,cv,rfl,_⟩:=hv.form;have hb10:(m.map (Enc.node n).bulk).sum≤10000000:=Nat.le_trans hi.bulk (by decide)
 have hmi:=msgIn_of_bulk n m hb10;have HFi:=hid (fits_any n m (.slice Av m.length cv) lo args (.slice A args.length c) loA w hmi (Nat.le_trans (cnt_of_bulk n m) hb10) hv hV.mv hA hi.len (hid fun a ha=>Nat.le_trans (hi.name a ha) (by decide)))
 have HAr:Hid (∀ W,Below w.heap.size w W→ListOk Enc.argV W loA w.heap.size (.slice A args.length c) args):=hid fun W hW=>hA.below Enc.argV_laws hW;have HSay:Hid (fitsR n m args=0→∀ k mb cn s W,s.small→Spk k k s (.map (some mb)) [] W→k≤W.heap.size→w.heap.size≤k→Below w.heap.size w W→SayW k mb cn (argF args) W→
  Calls Tryz.prog 84 #[.pointer (some ⟨k,0,none⟩),.slice Av m.length cv,.agg #[.int .i64 0,.int .i64 0]] W fun e w'=>e=.returned (errD (sayN s (argF args) n m ⟨0,0⟩).2)∧Spk k k s (.map (some mb)) (sayN s (argF args) n m ⟨0,0⟩).1 w'∧BwK k k W w'):=hid fun h0 k mb cn s W hs hS hk hwk hbw hSW=>by
  have h1:=say_any 1048576 ⟨by decide,by decide⟩ k k mb cn s hs (argF args) (hid (argIn_of hi.text (fits_args h0))) lo w.heap.size hwk n m (.slice Av m.length cv) ⟨0,0⟩ [] W hmi (good_of_fits h0) (textN_of_bulk _ n m hi.bulk) hS hk hSW (hv.keep (Enc.node_laws n) fun p _ hp=>hbw.cell hp) (by
   have h2:=costN_le 1048576 n m;have h3:=Nat.mul_le_mul_left 1048576 hi.bulk;show 0+_≤_;omega)
  rw[List.nil_append]at h1;exact h1
 have HEv:Hid (∀ W,Below w.heap.size w W→EvV W):=hid fun W hW=>hV.below hW;have HRu:Hid (∀ W,Calls Tryz.prog 25 #[.string lang] W fun e w'=>e=.returned (.tuple #[(langS lang).val,errD (langE lang)])∧Below W.heap.size W w'):=hid fun W=>Rules_any lang W hL;have HNs:Hid (∀ a∈args,a.name.size≤maxLen):=hid fun a ha=>Nat.le_trans (hi.name a ha) (by decide)
 have HLn:Hid (langE lang≠0→langS lang=set_no):=hid fun h=>by
  unfold langE at h;unfold langS;cases e:langR lang with
  | none=>rfl
  | some v=>rw[e]at h;exact absurd rfl h
 have HEq:Hid (sayS n m lang args=if fitsR n m args≠0 then([],fitsR n m args)else if(sayN (langS lang) (argF args) n m ⟨0,0⟩).2≠0 then([],(sayN (langS lang) (argF args) n m ⟨0,0⟩).2)else((sayN (langS lang) (argF args) n m ⟨0,0⟩).1,0)):=hid rfl
 have hlen:=hi.len;have HSm:=hid (langS_small lang);obtain⟨fr,hfr⟩:∃ fr,fr=fitsR n m args:=⟨_,rfl⟩;rw[←hfr]at HFi HSay HEq;obtain⟨S,hS⟩:∃ S,S=langS lang:=⟨_,rfl⟩;rw[←hS]at HRu HEq HLn HSm;obtain⟨le,hle⟩:∃ le,le=langE lang:=⟨_,rfl⟩;rw[←hle]at HRu HLn;have HS9:Hid (∀ k mb cn W,fr=0→Spk k k S (.map (some mb)) [] W→k≤W.heap.size→w.heap.size≤k→Below w.heap.size w W→SayW k mb cn (argF args) W→
  Calls Tryz.prog 84 #[.pointer (some ⟨k,0,none⟩),.slice Av m.length cv,.agg #[.int .i64 0,.int .i64 0]] W fun e w'=>e=.returned (errD (sayN S (argF args) n m ⟨0,0⟩).2)∧Spk k k S (.map (some mb)) (sayN S (argF args) n m ⟨0,0⟩).1 w'∧BwK k k W w'):=hid fun k mb cn W h0=>HSay.out h0 k mb cn S W HSm.out
 obtain⟨sr,hsr⟩:∃ sr,sr=sayN S (argF args) n m ⟨0,0⟩:=⟨_,rfl⟩;rw[←hsr]at HEq;have HS8:Hid (∀ k mb cn W,fr=0→Spk k k S (.map (some mb)) [] W→k≤W.heap.size→w.heap.size≤k→Below w.heap.size w W→SayW k mb cn (argF args) W→
  Calls Tryz.prog 84 #[.pointer (some ⟨k,0,none⟩),.slice Av m.length cv,.agg #[.int .i64 0,.int .i64 0]] W fun e w'=>e=.returned (errD sr.2)∧Spk k k S (.map (some mb)) sr.1 w'∧BwK k k W w'):=hid (by rw[hsr];exact HS9.out)
 obtain⟨po,hpo⟩:∃ po,po=sayS n m lang args:=⟨_,rfl⟩;rw[←hpo]at HEq ⊢;have hmm:=@run_makeMap Tryz.prog;clear HSay HS9 hv hA hV hi hb10 hmi hfr hS hle hsr hpo HSm hL
 go_enter Tryz.func45,Tryz.ntmps45
 go_wp2_with fail
 refine HFi.out.mono ?_;clear HFi;rintro e w1 ⟨rfl,hb1⟩;have HB1:=hid hb1;clear hb1
 by_cases h0:fr=0
 ·subst h0;rw[errV_zero];have hs1:=HB1.out.size;obtain⟨mb,hmbe⟩:∃ mb,mb=w1.heap.size:=⟨_,rfl⟩;obtain⟨k,hke⟩:∃ k,k=w1.heap.size+1:=⟨_,rfl⟩;obtain⟨W2,eW2⟩:∃ W2,W2=(w1.alloc (.map #[] 0)).alloc (.cells #[.string ⟨#[]⟩,.string ⟨#[]⟩,.string ⟨#[]⟩,.string ⟨#[]⟩,.string ⟨#[]⟩,.map (some mb),.pointer none,.slice none 0 0] 143):=⟨_,rfl⟩;have hb12:Below w1.heap.size w1 W2:=by rw[eW2];exact((Below.refl _ _).alloc (Nat.le_refl _) _).alloc (by simp) _
  have hM2:Blk W2 k 143 (spkC set_no (.map (some mb)) (.pointer none) (.slice none 0 0)):=by
   have h1:=Blk.new (w1.alloc (.map #[] 0)) 143 #[.string ⟨#[]⟩,.string ⟨#[]⟩,.string ⟨#[]⟩,.string ⟨#[]⟩,.string ⟨#[]⟩,.map (some mb),.pointer none,.slice none 0 0];rw[World.size_alloc,←hke,←eW2]at h1;exact h1
  have hO2:OwnsV W2 mb 0 (fun s=>(argF (args.take 0) s).map ArgV.val):=by
   have h1:OwnsV (w1.alloc (.map #[] 0)) mb 0 (fun s=>(argF (args.take 0) s).map ArgV.val):=by rw[hmbe];exact OwnsV.made w1
   rw[eW2];exact h1.below ((Below.refl _ _).alloc (Nat.le_refl _) _) h1.lt
  have HM2:=hid hM2;have HO2:=hid hO2;have HB12:=hid hb12;have HMb:=hid hmbe;have HKe:=hid hke;have hkm:k=mb+1:=by omega
  have HKm:=hid hkm;have HR2:=hid (HRu.out W2);have EW2:=hid eW2;clear hM2 hO2 hb12 hkm eW2 HRu
  go_wp2_with fail
  rw[←HKe.out,←HMb.out,←EW2.out];clear EW2 hmbe hke;refine HR2.out.mono ?_;clear HR2;rintro e w3 ⟨rfl,hb3⟩;have HB3:=hid hb3;have HM3:=hid (HM2.out.below hb3 HM2.out.lt);have HO3:=hid (HO2.out.below hb3 HO2.out.lt);have HB13:=hid (HB12.out.trans (hb3.mono HB12.out.size));clear hb3 HM2 HO2 HB12 HB3;obtain⟨W4,eW4⟩:∃ W4,W4=w3.alloc (.cells #[.string S.z,.string S.o,.string S.t,.string S.f,.string S.m] 54):=⟨_,rfl⟩;have hb34:Below w3.heap.size w3 W4:=by rw[eW4];exact(Below.refl _ _).alloc (Nat.le_refl _) _
  have hT4:Blk W4 w3.heap.size 54 #[.string S.z,.string S.o,.string S.t,.string S.f,.string S.m]:=by rw[eW4];exact Blk.new _ _ _
  have hM4:=HM3.out.below hb34 HM3.out.lt;have HM4:=hid hM4;have HO4:=hid (HO3.out.below hb34 HO3.out.lt);have HB14:=hid (HB13.out.trans (hb34.mono HB13.out.size));have t0:=(hT4.cell 0).trans (show _=some (.string S.z)from rfl);have t1:=(hT4.cell 1).trans (show _=some (.string S.o)from rfl);have t2:=(hT4.cell 2).trans (show _=some (.string S.t)from rfl);have t3:=(hT4.cell 3).trans (show _=some (.string S.f)from rfl);have t4:=(hT4.cell 4).trans (show _=some (.string S.m)from rfl);have k0:=(hM4.cell 0).trans (show _=some (.string ⟨#[]⟩)from rfl);have k1:=(hM4.cell 1).trans (show _=some (.string ⟨#[]⟩)from rfl);have k2:=(hM4.cell 2).trans (show _=some (.string ⟨#[]⟩)from rfl);have k3:=(hM4.cell 3).trans (show _=some (.string ⟨#[]⟩)from rfl);have k4:=(hM4.cell 4).trans (show _=some (.string ⟨#[]⟩)from rfl);have f0:=hM4.frozen 0;have f1:=hM4.frozen 1;have f2:=hM4.frozen 2;have f3:=hM4.frozen 3;have f4:=hM4.frozen 4;have EW4:=hid eW4;clear hb34 hT4 hM4 HM3 HO3 HB13 eW4;obtain⟨sz,so,st,sf,sm⟩:=S;unfold SetV.val;dsimp only at *;obtain⟨Z,hZ⟩:∃ Z,Z=decide (le=0):=⟨_,rfl⟩;have HG:∀ W:World,Sem.run Tryz.prog (eqGuard BinOp.eql 47 (Operand.tmp 29) (Operand.const Value.nilIface) (errD le) Value.nilIface) W=.ok () W:=fun W=>by
   by_cases h:le=0
   ·rw[h];rfl
   ·rw[errD_ne h];rfl
  have HQ:∀ W:World,Sem.run Tryz.prog (binOp BinOp.eql 47 (errD le) Value.nilIface) W=.ok (.bool Z) W:=fun W=>by
   by_cases h:le=0
   ·rw[hZ,decide_eq_true h,h];rfl
   ·rw[hZ,decide_eq_false h,errD_ne h];rfl
  have HZ:=hid hZ;clear hZ;generalize errD le=eL at*
  go_upto_if 30 with fail
  rw[←EW4.out];clear EW4 HG HQ
  go_cut []from 31 (fun wx=>Blk wx k 143 (spkC ⟨sz,so,st,sf,sm⟩ (.map (some mb)) (.pointer none) (.slice none 0 0))∧OwnsV wx mb 0 (fun s=>(argF (args.take 0) s).map ArgV.val)∧Below w1.heap.size w1 wx)
  case first=>
   cases Z with
   | true=>
     go_wp2_with fail
     go_meet
     case rel=>
      have hb5:Below k W4 (((((W4.setCell ⟨k,0,none⟩ (.string sz)).setCell ⟨k,1,none⟩ (.string so)).setCell ⟨k,2,none⟩ (.string st)).setCell ⟨k,3,none⟩ (.string sf)).setCell ⟨k,4,none⟩ (.string sm)):=
       (((((Below.refl k W4).setCell (p:=⟨k,0,none⟩) (Nat.le_refl k) _).setCell (p:=⟨k,1,none⟩) (Nat.le_refl k) _).setCell (p:=⟨k,2,none⟩) (Nat.le_refl k) _).setCell (p:=⟨k,3,none⟩) (Nat.le_refl k) _).setCell (p:=⟨k,4,none⟩) (Nat.le_refl k) _
      have hkm:=HKm.out;have hkw:w1.heap.size≤k:=by have:=HKe.out;omega
      exact⟨((((HM4.out.set_ 0 _).set_ 1 _).set_ 2 _).set_ 3 _).set_ 4 _,HO4.out.below hb5 (by omega),HB14.out.trans (hb5.mono hkw)⟩
   | false=>
     have hn:=HLn.out (of_decide_eq_false HZ.out.symm)
     go_wp2_with fail
     go_meet
     case rel=>
      rw[hn];exact⟨HM4.out,HO4.out,HB14.out⟩
  case rest=>
   obtain⟨hM,hO,hB⟩:=hcut;have HM:=hid hM;have HO:=hid hO;have HB:=hid hB;clear hM hO hB HM4 HO4 HB14 HLn HZ t0 t1 t2 t3 t4 k0 k1 k2 k3 k4 f0 f1 f2 f3 f4
   go_wp2_with fail
   go_loopw [13,37] (fun _ i wr=>∃(j cnt:Nat),j≤args.length∧cnt≤j∧i=.int .i64 (j:Int)∧Blk wr k 143 (spkC ⟨sz,so,st,sf,sm⟩ (.map (some mb)) (.pointer none) (.slice none 0 0))∧OwnsV wr mb cnt (fun s=>(argF (args.take j) s).map ArgV.val)∧Below w1.heap.size w1 wr) (fun _ i _=>args.length - (intOf i).toNat)
   case atStart=>exact⟨0,0,Nat.zero_le _,Nat.le_refl _,rfl,HM.out,HO.out,HB.out⟩
   case round=>
    clear HM HO HB;obtain⟨j,cnt,hj,hcnt,rfl,hM,hO,hB⟩:=hrel;obtain⟨wo,rfl⟩:∃ wo:World,wo=wr:=⟨_,rfl⟩;have HM:=hid hM;have HO:=hid hO;have HB:=hid hB;have HBw:=hid (HB1.out.trans (hB.mono hs1))
    by_cases hlt:j < args.length
    ·have i1:(0:Int)≤(j:Int):=Int.natCast_nonneg j;have i2:(j:Int) < (args.length:Int):=by omega
     obtain⟨b1,o1,rfl,_,_,x0,x1,x2,x3,x4⟩:=(HAr.out _ HBw.out).argVAt j hlt;have HSn:=hid (argF_snoc args j hlt);have hsz:=HNs.out _ (List.getElem_mem hlt);generalize args[j]=a at *;obtain⟨nm,isn,⟨co,sc⟩,tx⟩:=a;dsimp only at x0 x1 x2 x3 x4 HSn hsz;obtain⟨W3,eW3⟩:∃ W3,W3=wo.alloc (.cells #[.string nm,.bool isn,.int .i64 co,.int .i64 sc,.string tx] 145):=⟨_,rfl⟩;have mk3:Blk W3 wo.heap.size 145 #[.string nm,.bool isn,.int .i64 co,.int .i64 sc,.string tx]:=by rw[eW3];exact Blk.new _ _ _
     have hb3:Below wo.heap.size wo W3:=by rw[eW3];exact(Below.refl _ _).alloc (Nat.le_refl _) _
     have EW:=hid eW3;have y0:=(mk3.cell 0).trans (show _=some (.string nm)from rfl);have y1:=(mk3.cell 1).trans (show _=some (.bool isn)from rfl);have y2:=(mk3.cell 2).trans (show _=some (.int .i64 co)from rfl);have y3:=(mk3.cell 3).trans (show _=some (.int .i64 sc)from rfl);have y4:=(mk3.cell 4).trans (show _=some (.string tx)from rfl);have hM3:=hM.below hb3 hM.lt;have z5:=(hM3.cell 5).trans (show _=some (.map (some mb))from rfl);have HM3:=hid hM3;have HO3:Hid (OwnsV W3.drew mb cnt (fun s=>(argF (args.take j) s).map ArgV.val)):=hid ((hO.below hb3 hO.lt).keep rfl);have HB3:=hid (hB.trans (hb3.mono hB.size));have hne:k≠mb:=by have:=HKm.out;omega
     clear eW3 mk3 hb3 hM3 hM hO hB
     go_upto_region 11 with fail
     rw[←EW.out];clear EW x0 x1 x2 x3 x4
     go_still_tail 7,(by kernel_rfl)
     change wpList _ _ _ _ _ W3.drew
     go_wp2_with (at_mapUpdate;refine wpList_update_V rfl _ _ _ 141 145 rfl Tryz.underlying141 mb cnt _ rfl HO3.out (by unfold maxLen;omega) nm (.agg #[.string nm,.bool isn,.int .i64 co,.int .i64 sc,.string tx]) rfl rfl hsz ?_)
     intro w5 hO5 hg5;have HO5:Hid (OwnsV w5 mb (cnt+1) (fun s=>(argF (args.take (j+1)) s).map ArgV.val)):=hid (hO5.same fun s=>by rw[HSn.out];exact putA_val _ _ _)
     have HM5:Hid (Blk w5 k 143 (spkC ⟨sz,so,st,sf,sm⟩ (.map (some mb)) (.pointer none) (.slice none 0 0))):=hid ((hg5.block k HM3.out.lt (fun e=>hne (Option.some.inj e))).trans HM3.out);have HB5:Hid (Below w1.heap.size w1 w5):=hid (HB3.out.drew.grown hg5 HB3.out.size (fun r e=>by injection e with e;have:=HMb.out;omega))
     clear hO5 hg5 HO3 HM3 HB3 y0 y1 y2 y3 y4 z5
     go_wp2_with fail
     go_roundw
     case rel=>exact⟨j+1,cnt+1,by omega,by omega,by go_num,HM5.out,HO5.out,HB5.out⟩
     case measure=>simp[intOf];omega
    ·obtain rfl:j=args.length:=by omega
     rw[List.take_length]at HO;have HW:Hid (Spk k k ⟨sz,so,st,sf,sm⟩ (.map (some mb)) [] wo∧k≤wo.heap.size∧w.heap.size≤k∧Below w.heap.size w wo∧SayW k mb cnt (argF args) wo):=hid (by
      have hkm:=HKm.out;have hke:=HKe.out;refine⟨spk_set wo wo k k _ _ (Nat.le_refl _) HM.out,Nat.le_of_lt HM.out.lt,by omega,HBw.out,⟨fun W hW=>HEv.out W (HBw.out.trans (hW.mono (by omega))),fun W hW=>HO.out.below hW (by omega)⟩⟩)
     obtain⟨hS,hk,hwk,hbw,hSW⟩:=HW.out;have HC:=hid (HS8.out k mb cnt wo (by trivial) hS hk hwk hbw hSW)
     have HBo:=hid hbw;have hwk':=hwk;clear hS hk hbw hSW HS8 HW hM hO hB HM HO HB
     go_wp2_with fail
     refine HC.out.mono ?_;clear HC;rintro e w6 ⟨rfl,hS6,hb6⟩;have HB6:=hid (HBo.out.trans (hb6.below.mono hwk'));have hk6:k≤w6.heap.size:=Nat.le_of_lt hS6.lt;have HTx:=hid (textS_any k k sr.1 _ _ w6 hS6 hk6);clear hS6 hb6;obtain⟨sl,se⟩:=sr;dsimp only at*
     by_cases hz:se=0
     ·subst hz;have HP:Hid (po=(sl,0)):=hid (by rw[HEq.out];simp)
      rw[errD_zero];clear HEq
      go_wp2_with fail
      refine HTx.out.mono ?_;clear HTx;rintro e w7 ⟨rfl,hb7⟩;have HB7:=hid (HB6.out.trans (hb7.mono hwk'));clear hb7
      go_wp2_with fail
      go_ret2
      exact⟨by rw[HP.out];rfl,HB7.out⟩
     ·have HP:Hid (po=([],se)):=hid (by rw[HEq.out];simp[hz])
      rw[errD_ne hz];clear HEq HTx
      go_wp2_with fail
      go_ret2
      exact⟨by rw[HP.out,errD_ne hz];rfl,HB6.out⟩
 ·have HP:Hid (po=([],fr)):=hid (by rw[HEq.out,if_pos h0])
  rw[errV_ne h0];clear HEq
  go_wp2_with fail
  go_ret2
  exact⟨by rw[HP.out,errD_ne h0];rfl,HB1.out⟩
end Go.Proofs.YtagfnpdoooachaaGreatDoor
