/- (*speaker).say: a message said, at any depth. -/
import Derived.Test.YtpfmmbbggcghiaaGreatDoorSpkO
set_option linter.unusedSimpArgs false
set_option linter.unusedVariables false
set_option maxHeartbeats 6400000
set_option maxRecDepth 100000
namespace Go.Proofs.YtpfmmbbggcghiaaGreatDoor
open Go.RowKit
open Lib (hid)
theorem costs_at {β:Type} (cx:NdF β→Nat) (m:List (NdF β)) (j:Nat) (h:j < m.length):((m.drop j).map cx).sum=cx m[j]+((m.drop (j+1)).map cx).sum:=by
 rw[List.drop_eq_getElem_cons h,List.map_cons,List.sum_cons]
theorem say_walk {β:Type} {E:Enc β} (hE:E.Laws) (one:NdF β→List UInt8×Int) (cx:NdF β→Nat) (B k mb:Nat) (s:SetV) (m:List (NdF β)) (v:Value) (mark:DecV) (lo hi:Nat) (l:List UInt8) (w:World)
 (h:Spk B k s (.map (some mb)) l w) (hB:B≤w.heap.size) (hv:ListOk (Enc.nodeF E) w lo hi v m) (hh:hi≤B) (hl:m.length≤10000000)
 (hlen:∀ x∈m,(one x).1.length≤cx x) (hc:l.length+(m.map cx).sum≤140737488355328)
 (hone:Hid (∀ x∈m,∀ W V acc,Below B w W→Spk B k s (.map (some mb)) acc W→ListOk (Enc.cas E) W lo hi V x.cases→acc.length+cx x≤140737488355328→
   Calls Tryz.prog 90 #[.pointer (some ⟨k,0,none⟩),.agg #[.int .i64 x.kind,.string x.text,.int .i64 x.off,V],.agg #[.int .i64 mark.coef,.int .i64 mark.scale]] W fun e w'=>e=.returned (errD (one x).2)∧Spk B k s (.map (some mb)) (acc++(one x).1) w'∧BwK B k W w')):
 Calls Tryz.prog 50 #[.pointer (some ⟨k,0,none⟩),v,mark.v] w fun e w'=>e=.returned (errD (sayL one m).2)∧Spk B k s (.map (some mb)) (l++(sayL one m).1) w'∧BwK B k w w':=by
 obtain⟨A,c,rfl,_⟩:=hv.form;have hklt:=h.lt;obtain⟨W1,eW1⟩:∃ W1,W1=w.alloc (.cells #[.int .i64 mark.coef,.int .i64 mark.scale] 65):=⟨_,rfl⟩;have hM1:Blk W1 w.heap.size 65 #[.int .i64 mark.coef,.int .i64 mark.scale]:=by rw[eW1];exact Blk.new _ _ _
 have hb1:Below w.heap.size w W1:=by rw[eW1];exact(Below.refl _ _).alloc (Nat.le_refl _) _
 have HS1:=hid (h.keep hb1);have HK1:Hid (BwK B k w W1):=hid (BwK.of hb1 hB);have HM1:=hid hM1;have HV:Hid (∀ W,Below B w W→ListOk (Enc.nodeF E) W lo hi (.slice A m.length c) m):=hid fun W hW=>hv.keep (Enc.nodeF_laws hE) fun p _ hp=>hW.cell (Nat.lt_of_lt_of_le hp hh);have HLn:=hid hlen;have HC:=hid hc;have HKl:=hid hklt;obtain⟨po,ePo⟩:∃ po,po=sayL one m:=⟨_,rfl⟩;rw[←ePo];have HPo:=hid ePo;clear hM1 hb1 h hv hlen hc ePo hklt;unfold DecV.v
 go_enter Tryz.func50,Tryz.ntmps50
 go_wp2_with fail
 rw[←eW1];clear eW1
 go_loopw [8,9,12] (fun _ _ i wr=>∃(j:Nat) (acc:List UInt8),j≤m.length∧i=.int .i64 (j:Int)∧Hid (po=(acc++(sayL one (m.drop j)).1,(sayL one (m.drop j)).2)∧l.length+acc.length+((m.drop j).map cx).sum≤140737488355328)∧Spk B k s (.map (some mb)) (l++acc) wr∧BwK B k w wr∧Blk wr w.heap.size 65 #[.int .i64 mark.coef,.int .i64 mark.scale]) (fun _ _ i _=>m.length - (intOf i).toNat)
 case atStart=>exact⟨0,[],Nat.zero_le _,rfl,hid ⟨by rw[HPo.out];rfl,by simpa using HC.out⟩,by simpa using HS1.out,HK1.out,HM1.out⟩
 case round=>
  obtain⟨j,acc,hj,rfl,HNo,hS,hK,hM⟩:=hrel;obtain⟨wo,rfl⟩:∃ wo:World,wo=wr:=⟨_,rfl⟩;have HS:=hid hS;have HK:=hid hK;have HM:=hid hM
  by_cases hlt:j < m.length
  ·have i1:(0:Int)≤(j:Int):=Int.natCast_nonneg j;have i2:(j:Int) < (m.length:Int):=by omega
   have hmem:m[j]∈m:=List.getElem_mem hlt;obtain⟨b0,o0,V,rfl,_,hb0,x0,x1,x2,x3,hV⟩:=(HV.out _ hK.below).nodeAt j hlt;obtain⟨VA,Vc,rfl,_⟩:=hV.form;have hcs:=costs_at cx m j hlt;have hlj:=HLn.out _ hmem;have hkw:w.heap.size≤wo.heap.size:=hK.below.size;obtain⟨W2,eW2⟩:∃ W2,W2=wo.alloc (.cells #[.int .i64 m[j].kind,.string m[j].text,.int .i64 m[j].off,.slice VA m[j].cases.length Vc] 126):=⟨_,rfl⟩;have hb2:Below wo.heap.size wo W2:=by rw[eW2];exact(Below.refl _ _).alloc (Nat.le_refl _) _
   have hX2:Blk W2 wo.heap.size 126 #[.int .i64 m[j].kind,.string m[j].text,.int .i64 m[j].off,.slice VA m[j].cases.length Vc]:=by rw[eW2];exact Blk.new _ _ _
   have hK2:BwK B k w W2:=hK.trans (BwK.of hb2 (Nat.le_trans hB hkw));have HOne:=hid (hone.out _ hmem W2 (.slice VA m[j].cases.length Vc) (l++acc) hK2.below (hS.keep hb2) (hV.keep (Enc.cas_laws hE) fun p _ hp=>hb2.cell (Nat.lt_of_lt_of_le hp (Nat.le_trans hh (Nat.le_trans hB hkw)))) (by rw[List.length_append];have:=HNo.out.2;omega))
   have HBad:Hid ((one m[j]).2≠0→po=(acc++(one m[j]).1,(one m[j]).2)):=hid fun hb=>by rw[HNo.out.1,sayL_bad hlt hb]
   have HOn:Hid ((one m[j]).2=0→po=((acc++(one m[j]).1)++(sayL one (m.drop (j+1))).1,(sayL one (m.drop (j+1))).2)∧l.length+(acc++(one m[j]).1).length+((m.drop (j+1)).map cx).sum≤140737488355328):=hid fun hb=>by
    refine⟨by rw[HNo.out.1,sayL_on hlt hb,List.append_assoc],?_⟩
    rw[List.length_append];have:=HNo.out.2;omega
   have m0:=((hM.below hb2 hM.lt).cell 0).trans (show _=some (.int .i64 mark.coef)from rfl);have m1:=((hM.below hb2 hM.lt).cell 1).trans (show _=some (.int .i64 mark.scale)from rfl);have y0:=(hX2.cell 0).trans (show _=some (.int .i64 m[j].kind)from rfl);have y1:=(hX2.cell 1).trans (show _=some (.string m[j].text)from rfl);have y2:=(hX2.cell 2).trans (show _=some (.int .i64 m[j].off)from rfl);have y3:=(hX2.cell 3).trans (show _=some (.slice VA m[j].cases.length Vc)from rfl);have HM2:=hid (hM.below hb2 hM.lt);have HK2:=hid hK2;have HW2:=hid eW2;have hne:w.heap.size≠k:=by have:=HKl.out;omega
   clear hmem hV hcs hlj hb2 hX2 hK2 hS hK hM HNo eW2;generalize one m[j]=r at *;generalize m[j]=x at *;obtain⟨kd,tx,off,cs⟩:=x;obtain⟨rl,re⟩:=r;dsimp only at*
   go_upto_region 4 with fail
   rw[←HW2.out];clear HW2 x0 x1 x2 x3
   go_wp2_with fail
   refine HOne.out.mono ?_;clear HOne;rintro e w3 ⟨rfl,hS3,hb3⟩;have HS3:=hid hS3;have HK3:=hid (HK2.out.trans hb3);have HM3:=hid (hb3.blk HM2.out hne (by decide))
   clear hS3 hb3 HM2 HK2 HS HK HM m0 m1 y0 y1 y2 y3
   by_cases h0:re=0
   ·subst h0;have HN:=hid (HOn.out rfl);rw[errD_zero];clear HOn HBad
    go_wp2_with fail
    go_roundw
    case rel=>exact⟨j+1,acc++rl,by omega,by go_num,hid HN.out,by rw[←List.append_assoc];exact HS3.out,HK3.out,HM3.out⟩
    case measure=>simp[intOf];omega
   ·have HN:=hid (HBad.out h0);rw[errD_ne h0];clear HOn HBad
    go_wp2_with fail
    go_ret
    rw[HN.out];exact⟨by rw[errD_ne h0];rfl,by rw[←List.append_assoc];exact HS3.out,HK3.out⟩
  ·obtain rfl:j=m.length:=by omega
   have HN:Hid (po=(acc,0)):=hid (by rw[HNo.out.1,List.drop_length];simp[sayL])
   clear HNo hS hK hM
   go_wp2_with fail
   go_ret
   rw[HN.out];exact⟨rfl,HS.out,HK.out⟩
theorem say_any (C:Nat) (hC:400≤C∧C≤1000000000) (B k mb cn:Nat) (s:SetV) (hs:s.small) (f:ByteArray→Option ArgV) (hf:Hid (ArgIn C f)) (lo hi:Nat) (hh:hi≤B):
 (n:Nat)→(m:List (Nd n))→(v:Value)→(mark:DecV)→(l:List UInt8)→(w:World)→MsgIn n m→GoodN n m→TextN C n m→Spk B k s (.map (some mb)) l w→B≤w.heap.size→SayW B mb cn f w→ListOk (Enc.node n) w lo hi v m→l.length+costN C n m≤140737488355328→
 Calls Tryz.prog 50 #[.pointer (some ⟨k,0,none⟩),v,mark.v] w fun e w'=>e=.returned (errD (sayN s f n m mark).2)∧Spk B k s (.map (some mb)) (l++(sayN s f n m mark).1) w'∧BwK B k w w'
 | 0,m,v,mark,l,w,hm,hg,ht,h,hB,hW,hv,hc=>by
   obtain rfl:=empty_list m;obtain⟨A,c,rfl,_⟩:=hv.form;exact say_walk (E:=Enc.none_) Enc.none_laws (fun _=>([],0)) (fun _=>0) B k mb s ([]:List (NdF Empty)) (.slice A 0 c) mark lo hi l w h hB (ListOk.nil c A) hh (Nat.zero_le _) (fun x hx=>by cases hx) (by simpa[costN]using hc) (hid fun x hx=>by cases hx)
 | n+1,m,v,mark,l,w,hm,hg,ht,h,hB,hW,hv,hc=>by
   refine say_walk (E:=Enc.node n) (Enc.node_laws n) (fun x=>oneO (sayN s f n) s f x mark) (costF (costN C n) C) B k mb s (m:List (NdF (Nd n))) v mark lo hi l w h hB hv hh hm.len
    (fun x hx=>oneO_len hC.1 (ht x hx).1 hf.out (hg x hx) fun c hc hk d=>sayN_len hC.1 hf.out n c.2 d (((hg x hx).2 hk).2 c hc) ((ht x hx).2 c hc)) hc (hid fun x hx W V acc hW' hS hV hac=> ?_)
   have h1:smallF (SmallN n) x:=hm.each x hx;have hcost:C≤costF (costN C n) C x:=Nat.le_add_right _ _;exact one_walk (Enc.node_laws n) (sayN s f n) B k mb cn C s f x V mark lo hi acc W hS (Nat.le_trans hB hW'.size) (hid (hW.on hW')) hV hh h1.2.1 (hid fun c hc=>(h1.2.2 c hc).1) hs (ht x hx).1 hC hf (hg x hx).1 (fun hk=>((hg x hx).2 hk).1) (by omega)
    (hid fun c hcm hk W2 vB d hW2 hS2 hV2=>say_any C hC B k mb cn s hs f hf lo hi hh n c.2 vB d acc W2 (hm.body hx hcm) (((hg x hx).2 hk).2 c hcm) ((ht x hx).2 c hcm) hS2 (Nat.le_trans hB (hW'.trans hW2).size) (hW.on (hW'.trans hW2)) hV2 (by
      have h2:=mem_sum (fun c:ByteArray×List (Nd n)=>costN C n c.2) x.cases c hcm;have h3:costF (costN C n) C x=C+(x.cases.map fun c=>costN C n c.2).sum:=rfl;omega))
end Go.Proofs.YtpfmmbbggcghiaaGreatDoor
namespace Go.Proofs.YtpfmmbbggcghiaaGreatDoor
open Go.RowKit Go.Maps
open Lib (hid)
def set_en:SetV:=⟨⟨#[]⟩,⟨#[105,32,61,32,49,32,97,110,100,32,118,32,61,32,48]⟩,⟨#[]⟩,⟨#[]⟩,⟨#[]⟩⟩
def set_de:SetV:=⟨⟨#[]⟩,⟨#[105,32,61,32,49,32,97,110,100,32,118,32,61,32,48]⟩,⟨#[]⟩,⟨#[]⟩,⟨#[]⟩⟩
def set_fr:SetV:=⟨⟨#[]⟩,⟨#[105,32,61,32,48,44,49]⟩,⟨#[]⟩,⟨#[]⟩,⟨#[]⟩⟩
def set_ja:SetV:=⟨⟨#[]⟩,⟨#[]⟩,⟨#[]⟩,⟨#[]⟩,⟨#[]⟩⟩
def set_pl:SetV:=⟨⟨#[]⟩,⟨#[105,32,61,32,49,32,97,110,100,32,118,32,61,32,48]⟩,⟨#[]⟩,⟨#[118,32,61,32,48,32,97,110,100,32,105,32,37,32,49,48,32,61,32,50,46,46,52,32,97,110,100,32,105,32,37,32,49,48,48,32,33,61,32,49,50,46,46,49,52]⟩,⟨#[118,32,61,32,48,32,97,110,100,32,105,32,33,61,32,49,32,97,110,100,32,105,32,37,32,49,48,32,61,32,48,46,46,49,32,111,114,32,118,32,61,32,48,32,97,110,100,32,105,32,37,32,49,48,32,61,32,53,46,46,57,32,111,114,32,118,32,61,32,48,32,97,110,100,32,105,32,37,32,49,48,48,32,61,32,49,50,46,46,49,52]⟩⟩
def set_ru:SetV:=⟨⟨#[]⟩,⟨#[118,32,61,32,48,32,97,110,100,32,105,32,37,32,49,48,32,61,32,49,32,97,110,100,32,105,32,37,32,49,48,48,32,33,61,32,49,49]⟩,⟨#[]⟩,⟨#[118,32,61,32,48,32,97,110,100,32,105,32,37,32,49,48,32,61,32,50,46,46,52,32,97,110,100,32,105,32,37,32,49,48,48,32,33,61,32,49,50,46,46,49,52]⟩,⟨#[118,32,61,32,48,32,97,110,100,32,105,32,37,32,49,48,32,61,32,48,32,111,114,32,118,32,61,32,48,32,97,110,100,32,105,32,37,32,49,48,32,61,32,53,46,46,57,32,111,114,32,118,32,61,32,48,32,97,110,100,32,105,32,37,32,49,48,48,32,61,32,49,49,46,46,49,52]⟩⟩
def set_ar:SetV:=⟨⟨#[110,32,61,32,48]⟩,⟨#[110,32,61,32,49]⟩,⟨#[110,32,61,32,50]⟩,⟨#[110,32,37,32,49,48,48,32,61,32,51,46,46,49,48]⟩,⟨#[110,32,37,32,49,48,48,32,61,32,49,49,46,46,57,57]⟩⟩
def set_lv:SetV:=⟨⟨#[110,32,37,32,49,48,32,61,32,48,32,111,114,32,110,32,37,32,49,48,48,32,61,32,49,49,46,46,49,57,32,111,114,32,118,32,61,32,50,32,97,110,100,32,102,32,37,32,49,48,48,32,61,32,49,49,46,46,49,57]⟩,⟨#[110,32,37,32,49,48,32,61,32,49,32,97,110,100,32,110,32,37,32,49,48,48,32,33,61,32,49,49,32,111,114,32,118,32,61,32,50,32,97,110,100,32,102,32,37,32,49,48,32,61,32,49,32,97,110,100,32,102,32,37,32,49,48,48,32,33,61,32,49,49,32,111,114,32,118,32,33,61,32,50,32,97,110,100,32,102,32,37,32,49,48,32,61,32,49]⟩,⟨#[]⟩,⟨#[]⟩,⟨#[]⟩⟩
def set_no:SetV:=⟨⟨#[]⟩,⟨#[]⟩,⟨#[]⟩,⟨#[]⟩,⟨#[]⟩⟩
def langR (s:ByteArray):Option SetV:=
 if s=⟨#[108,118]⟩then some set_lv else if s=⟨#[97,114]⟩then some set_ar else if s=⟨#[114,117]⟩then some set_ru else if s=⟨#[112,108]⟩then some set_pl else if s=⟨#[106,97]⟩then some set_ja else if s=⟨#[102,114]⟩then some set_fr else if s=⟨#[100,101]⟩then some set_de else if s=⟨#[101,110]⟩then some set_en else none
theorem set_small:set_en.small∧set_de.small∧set_fr.small∧set_ja.small∧set_pl.small∧set_ru.small∧set_ar.small∧set_lv.small∧set_no.small:=by
 refine⟨?_,?_,?_,?_,?_,?_,?_,?_,?_⟩ <;> (intro t ht;revert t;decide)
theorem langR_small (s:ByteArray):((langR s).getD set_no).small:=by
 obtain⟨h1,h2,h3,h4,h5,h6,h7,h8,h9⟩:=set_small;unfold langR
 repeat' split
 all_goals assumption
def rulesF:ByteArray→Option Value:=putV (putV (putV (putV (putV (putV (putV (putV (fun _=>none) ⟨#[101,110]⟩ set_en.val) ⟨#[100,101]⟩ set_de.val) ⟨#[102,114]⟩ set_fr.val) ⟨#[106,97]⟩ set_ja.val) ⟨#[112,108]⟩ set_pl.val) ⟨#[114,117]⟩ set_ru.val) ⟨#[97,114]⟩ set_ar.val) ⟨#[108,118]⟩ set_lv.val
theorem rulesF_eq (s:ByteArray):rulesF s=(langR s).map SetV.val:=by
 unfold rulesF langR;simp only[putV]
 repeat' split
 all_goals rfl
theorem setTurn {w w':World} {b:Nat} {B:Nat} (h:w.grownBy w' (some b)) (hB:B≤b) (hs:B≤w.heap.size) {w0:World} (hb:Below B w0 w):Below B w0 w':=hb.grown h hs (fun k e=>by cases e;exact hB)
theorem rules_any (w:World):Calls Tryz.prog 89 #[] w fun e w'=>∃ b,e=.returned (.map (some b))∧w.heap.size≤b∧OwnsV w' b 8 rulesF∧Below w.heap.size w w':=by
 have hmm:=@run_makeMap Tryz.prog;obtain⟨W1,eW1⟩:∃ W1,W1=w.alloc (.cells #[.string ⟨#[]⟩,.string ⟨#[105,32,61,32,49,32,97,110,100,32,118,32,61,32,48]⟩,.string ⟨#[]⟩,.string ⟨#[]⟩,.string ⟨#[]⟩] 108):=⟨_,rfl⟩;have mb:Blk W1 w.heap.size 108 #[.string ⟨#[]⟩,.string ⟨#[105,32,61,32,49,32,97,110,100,32,118,32,61,32,48]⟩,.string ⟨#[]⟩,.string ⟨#[]⟩,.string ⟨#[]⟩]:=by rw[eW1];exact Blk.new _ _ _
 have hs1:W1.heap.size=w.heap.size+1:=by rw[eW1];simp
 have HB1:Hid (Below w.heap.size w (W1.alloc (.map #[] 0))):=hid (by rw[eW1];exact((Below.refl _ _).alloc (Nat.le_refl _) _).alloc (by simp) _)
 have HO0:Hid (OwnsV (W1.alloc (.map #[] 0)) (w.heap.size+1) 0 (fun _=>none)):=hid (by have h:=OwnsV.made W1;rwa[hs1]at h)
 have MB:=hid mb;have EW:=hid eW1;have hz:(W1.alloc (.map #[] 0)).heap.size=w.heap.size+2:=by simp[hs1]
 have HZ:=hid hz;have mb1:=mb.alloc (.map #[] 0);have k0:=(mb1.cell 0).trans (show _=some (.string ⟨#[]⟩)from rfl);have k1:=(mb1.cell 1).trans (show _=some (.string ⟨#[105,32,61,32,49,32,97,110,100,32,118,32,61,32,48]⟩)from rfl);have k2:=(mb1.cell 2).trans (show _=some (.string ⟨#[]⟩)from rfl);have k3:=(mb1.cell 3).trans (show _=some (.string ⟨#[]⟩)from rfl);have k4:=(mb1.cell 4).trans (show _=some (.string ⟨#[]⟩)from rfl);have MB1:=hid mb1;clear eW1 mb mb1 hz
 go_enter Tryz.func89,Tryz.ntmps89
 go_upto_region 2 with fail
 rw[←EW.out];clear EW
 go_wp2_with (refine wpList_insert_V rfl _ _ _ 181 108 rfl Tryz.underlying181 (w.heap.size+1) 0 _ rfl HO0.out (by decide) ⟨#[101,110]⟩ (.agg #[.string ⟨#[]⟩,.string ⟨#[105,32,61,32,49,32,97,110,100,32,118,32,61,32,48]⟩,.string ⟨#[]⟩,.string ⟨#[]⟩,.string ⟨#[]⟩]) rfl rfl (by decide) ?_)
 intro w1 hown1 hg1;have HO1:=hid hown1;have HZ1:Hid (w.heap.size+2≤w1.heap.size):=hid (by have:=hg1.size;have:=HZ.out;omega)
 have HC1:Hid (Below w.heap.size w w1):=hid (setTurn hg1 (by omega) (by have:=HZ.out;omega) HB1.out)
 have mb2:Blk w1 w.heap.size 108 _:=(hg1.block w.heap.size MB1.out.lt (by simp)).trans MB1.out
 have d0:=(mb2.cell 0).trans (show _=some (.string ⟨#[]⟩)from rfl);have d1:=(mb2.cell 1).trans (show _=some (.string ⟨#[105,32,61,32,49,32,97,110,100,32,118,32,61,32,48]⟩)from rfl);have d2:=(mb2.cell 2).trans (show _=some (.string ⟨#[]⟩)from rfl);have d3:=(mb2.cell 3).trans (show _=some (.string ⟨#[]⟩)from rfl);have d4:=(mb2.cell 4).trans (show _=some (.string ⟨#[]⟩)from rfl);clear mb2 k0 k1 k2 k3 k4;clear hown1 hg1
 go_wp2_with (refine wpList_insert_V rfl _ _ _ 181 108 rfl Tryz.underlying181 (w.heap.size+1) 1 _ rfl HO1.out (by decide) ⟨#[100,101]⟩ (.agg #[.string ⟨#[]⟩,.string ⟨#[105,32,61,32,49,32,97,110,100,32,118,32,61,32,48]⟩,.string ⟨#[]⟩,.string ⟨#[]⟩,.string ⟨#[]⟩]) rfl rfl (by decide) ?_)
 intro w2 hown2 hg2;have HO2:=hid hown2;have HZ2:Hid (w.heap.size+2≤w2.heap.size):=hid (by have:=hg2.size;have:=HZ1.out;omega)
 have HC2:Hid (Below w.heap.size w w2):=hid (setTurn hg2 (by omega) (by have:=HZ1.out;omega) HC1.out)
 clear d0 d1 d2 d3 d4;clear hown2 hg2
 go_wp2_with (refine wpList_insert_V rfl _ _ _ 181 108 rfl Tryz.underlying181 (w.heap.size+1) 2 _ rfl HO2.out (by decide) ⟨#[102,114]⟩ (.agg #[.string ⟨#[]⟩,.string ⟨#[105,32,61,32,48,44,49]⟩,.string ⟨#[]⟩,.string ⟨#[]⟩,.string ⟨#[]⟩]) rfl rfl (by decide) ?_)
 intro w3 hown3 hg3;have HO3:=hid hown3;have HZ3:Hid (w.heap.size+2≤w3.heap.size):=hid (by have:=hg3.size;have:=HZ2.out;omega)
 have HC3:Hid (Below w.heap.size w w3):=hid (setTurn hg3 (by omega) (by have:=HZ2.out;omega) HC2.out)
 clear hown3 hg3
 go_wp2_with (refine wpList_insert_V rfl _ _ _ 181 108 rfl Tryz.underlying181 (w.heap.size+1) 3 _ rfl HO3.out (by decide) ⟨#[106,97]⟩ (.agg #[.string ⟨#[]⟩,.string ⟨#[]⟩,.string ⟨#[]⟩,.string ⟨#[]⟩,.string ⟨#[]⟩]) rfl rfl (by decide) ?_)
 intro w4 hown4 hg4;have HO4:=hid hown4;have HZ4:Hid (w.heap.size+2≤w4.heap.size):=hid (by have:=hg4.size;have:=HZ3.out;omega)
 have HC4:Hid (Below w.heap.size w w4):=hid (setTurn hg4 (by omega) (by have:=HZ3.out;omega) HC3.out)
 clear hown4 hg4
 go_wp2_with (refine wpList_insert_V rfl _ _ _ 181 108 rfl Tryz.underlying181 (w.heap.size+1) 4 _ rfl HO4.out (by decide) ⟨#[112,108]⟩ (.agg #[.string ⟨#[]⟩,.string ⟨#[105,32,61,32,49,32,97,110,100,32,118,32,61,32,48]⟩,.string ⟨#[]⟩,.string ⟨#[118,32,61,32,48,32,97,110,100,32,105,32,37,32,49,48,32,61,32,50,46,46,52,32,97,110,100,32,105,32,37,32,49,48,48,32,33,61,32,49,50,46,46,49,52]⟩,.string ⟨#[118,32,61,32,48,32,97,110,100,32,105,32,33,61,32,49,32,97,110,100,32,105,32,37,32,49,48,32,61,32,48,46,46,49,32,111,114,32,118,32,61,32,48,32,97,110,100,32,105,32,37,32,49,48,32,61,32,53,46,46,57,32,111,114,32,118,32,61,32,48,32,97,110,100,32,105,32,37,32,49,48,48,32,61,32,49,50,46,46,49,52]⟩]) rfl rfl (by decide) ?_)
 intro w5 hown5 hg5;have HO5:=hid hown5;have HZ5:Hid (w.heap.size+2≤w5.heap.size):=hid (by have:=hg5.size;have:=HZ4.out;omega)
 have HC5:Hid (Below w.heap.size w w5):=hid (setTurn hg5 (by omega) (by have:=HZ4.out;omega) HC4.out)
 clear hown5 hg5
 go_wp2_with (refine wpList_insert_V rfl _ _ _ 181 108 rfl Tryz.underlying181 (w.heap.size+1) 5 _ rfl HO5.out (by decide) ⟨#[114,117]⟩ (.agg #[.string ⟨#[]⟩,.string ⟨#[118,32,61,32,48,32,97,110,100,32,105,32,37,32,49,48,32,61,32,49,32,97,110,100,32,105,32,37,32,49,48,48,32,33,61,32,49,49]⟩,.string ⟨#[]⟩,.string ⟨#[118,32,61,32,48,32,97,110,100,32,105,32,37,32,49,48,32,61,32,50,46,46,52,32,97,110,100,32,105,32,37,32,49,48,48,32,33,61,32,49,50,46,46,49,52]⟩,.string ⟨#[118,32,61,32,48,32,97,110,100,32,105,32,37,32,49,48,32,61,32,48,32,111,114,32,118,32,61,32,48,32,97,110,100,32,105,32,37,32,49,48,32,61,32,53,46,46,57,32,111,114,32,118,32,61,32,48,32,97,110,100,32,105,32,37,32,49,48,48,32,61,32,49,49,46,46,49,52]⟩]) rfl rfl (by decide) ?_)
 intro w6 hown6 hg6;have HO6:=hid hown6;have HZ6:Hid (w.heap.size+2≤w6.heap.size):=hid (by have:=hg6.size;have:=HZ5.out;omega)
 have HC6:Hid (Below w.heap.size w w6):=hid (setTurn hg6 (by omega) (by have:=HZ5.out;omega) HC5.out)
 clear hown6 hg6
 go_wp2_with (refine wpList_insert_V rfl _ _ _ 181 108 rfl Tryz.underlying181 (w.heap.size+1) 6 _ rfl HO6.out (by decide) ⟨#[97,114]⟩ (.agg #[.string ⟨#[110,32,61,32,48]⟩,.string ⟨#[110,32,61,32,49]⟩,.string ⟨#[110,32,61,32,50]⟩,.string ⟨#[110,32,37,32,49,48,48,32,61,32,51,46,46,49,48]⟩,.string ⟨#[110,32,37,32,49,48,48,32,61,32,49,49,46,46,57,57]⟩]) rfl rfl (by decide) ?_)
 intro w7 hown7 hg7;have HO7:=hid hown7;have HZ7:Hid (w.heap.size+2≤w7.heap.size):=hid (by have:=hg7.size;have:=HZ6.out;omega)
 have HC7:Hid (Below w.heap.size w w7):=hid (setTurn hg7 (by omega) (by have:=HZ6.out;omega) HC6.out)
 clear hown7 hg7
 go_wp2_with (refine wpList_insert_V rfl _ _ _ 181 108 rfl Tryz.underlying181 (w.heap.size+1) 7 _ rfl HO7.out (by decide) ⟨#[108,118]⟩ (.agg #[.string ⟨#[110,32,37,32,49,48,32,61,32,48,32,111,114,32,110,32,37,32,49,48,48,32,61,32,49,49,46,46,49,57,32,111,114,32,118,32,61,32,50,32,97,110,100,32,102,32,37,32,49,48,48,32,61,32,49,49,46,46,49,57]⟩,.string ⟨#[110,32,37,32,49,48,32,61,32,49,32,97,110,100,32,110,32,37,32,49,48,48,32,33,61,32,49,49,32,111,114,32,118,32,61,32,50,32,97,110,100,32,102,32,37,32,49,48,32,61,32,49,32,97,110,100,32,102,32,37,32,49,48,48,32,33,61,32,49,49,32,111,114,32,118,32,33,61,32,50,32,97,110,100,32,102,32,37,32,49,48,32,61,32,49]⟩,.string ⟨#[]⟩,.string ⟨#[]⟩,.string ⟨#[]⟩]) rfl rfl (by decide) ?_)
 intro w8 hown8 hg8;have HO8:=hid hown8;have HZ8:Hid (w.heap.size+2≤w8.heap.size):=hid (by have:=hg8.size;have:=HZ7.out;omega)
 have HC8:Hid (Below w.heap.size w w8):=hid (setTurn hg8 (by omega) (by have:=HZ7.out;omega) HC7.out)
 clear hown8 hg8
 go_wp2_with fail
 go_ret
 exact⟨w.heap.size+1,rfl,Nat.le_succ _,HO8.out,HC8.out⟩
end Go.Proofs.YtpfmmbbggcghiaaGreatDoor
