/- Args as arguments; a row of args that a call makes; linguistersame.Args at the same. -/
import Derived.Test.YtpfmmbbggcghiaaGreatDoorLangB
import Derived.StillTailTactics
set_option linter.unusedSimpArgs false
set_option linter.unusedVariables false
set_option maxHeartbeats 6400000
set_option maxRecDepth 100000
namespace Go.Proofs.YtpfmmbbggcghiaaGreatDoor
open Go.RowKit
open Lib (hid)
def Enc.bool:Enc Bool:=⟨1,1,fun _ _ _ cs b=>cs=[.bool b],fun _ _=>True,fun _=>1⟩
theorem opens_bool {P:Program} {t:TypeId} (ht:P.underlying t=some .bool):Opens P Enc.bool t:=by
 intro H enc w sp held fuel cs x hi h _;obtain⟨b,rfl,rfl⟩:=DataW.trod_bool ht h;exact⟨b,rfl,fun _ _=>trivial,by simp[Enc.bool,Rows.uptoBulk]⟩
def Enc.dec:Enc DecV:=⟨2,16,fun _ _ _ cs d=>cs=[.int .i64 d.coef,.int .i64 d.scale],fun _ d=>(Lit.int .i64 d.coef).wf=true∧(Lit.int .i64 d.scale).wf=true,fun _=>2⟩
theorem opens_dec:Opens Tryz.prog Enc.dec 65:=
 opens_struct2 (A:=Enc.int) (B:=Enc.int) (E:=Enc.dec) (opens_int Tryz.underlying3) (opens_int Tryz.underlying3) Tryz.underlying65 rfl rfl (by kernel_rfl) (by kernel_rfl) (by kernel_rfl)
  DecV.mk
  (fun w lo hi c d a b h1 h2=>by
    obtain rfl:c=[.int .i64 a]:=h1;obtain rfl:d=[.int .i64 b]:=h2;exact rfl)
  (fun n a b h1 h2=>⟨h1,h2⟩) (fun a b=>by simp only[Enc.dec,Enc.int];omega)
theorem opens_argV:Opens Tryz.prog Enc.argV 67:=
 opens_struct4 (A:=Enc.str) (B:=Enc.bool) (C:=Enc.dec) (D:=Enc.str) (E:=Enc.argV) (opens_str Tryz.underlying9) (opens_bool Tryz.underlying4) opens_dec (opens_str Tryz.underlying9) Tryz.underlying67 rfl rfl rfl rfl (by kernel_rfl) (by kernel_rfl) (by kernel_rfl) (by kernel_rfl) (by kernel_rfl)
  ArgV.mk
  (fun w lo hi c d e f a b g k h1 h2 h3 h4=>by
    obtain rfl:c=[.string a]:=h1;obtain rfl:d=[.bool b]:=h2;obtain rfl:e=[.int .i64 g.coef,.int .i64 g.scale]:=h3;obtain rfl:f=[.string k]:=h4;exact rfl)
  (fun n a b g k h1 h2 h3 h4=>⟨h1,h3,h4⟩) (fun a b g k=>by simp only[Enc.argV,Enc.str,Enc.bool,Enc.dec];omega)
theorem mem_sum5:∀ l:List ArgV,l.length*5≤(l.map Enc.argV.bulk).sum
 | []=>Nat.le_refl _
 | a::l=>by
   have ih:=mem_sum5 l;have f5:Enc.argV.bulk a=a.name.size+a.text.size+5:=rfl;rw[List.map_cons,List.sum_cons,List.length_cons];omega
end Go.Proofs.YtpfmmbbggcghiaaGreatDoor
namespace Go.Proofs.YtpfmmbbggcghiaaGreatDoor
open Go.RowKit Go.Maps
open Lib (hid)
theorem errDV (n:Int):errV n=errD n:=rfl
def sayS (n:Nat) (m:List (Nd n)) (lang:ByteArray) (args:List ArgV):List UInt8×Int:=
 if fitsR n m args≠0 then([],fitsR n m args)else if(sayN (langS lang) (argF args) n m ⟨0,0⟩).2≠0 then([],(sayN (langS lang) (argF args) n m ⟨0,0⟩).2)else((sayN (langS lang) (argF args) n m ⟨0,0⟩).1,0)
structure SayIn (n:Nat) (m:List (Nd n)) (args:List ArgV):Prop where
 bulk:(m.map (Enc.node n).bulk).sum≤1048576
 len:args.length≤1000000
 name:∀ a∈args,a.name.size≤1048576
 text:∀ a∈args,a.text.size≤1048576
theorem langS_small (s:ByteArray):(langS s).small:=langR_small s
theorem spk_set (w w':World) (B k:Nat) (s:SetV) (am:Value) (hB:B≤k) (h:Blk w' k 114 (spkC s am (.pointer none) (.slice none 0 0))):Spk B k s am [] w':=
 Or.inl ⟨hB,.slice none 0 0,h,World.ownsRow_nil _ _ _ _,by simp[Value.ownBlock]⟩
theorem Say_any (n:Nat) (m:List (Nd n)) (v:Value) (lang:ByteArray) (args:List ArgV) (vA:Value) (lo loA:Nat) (w:World) (hi:SayIn n m args) (hL:lang.size≤maxLen) (hv:ListOk (Enc.node n) w lo w.heap.size v m) (hA:ListOk Enc.argV w loA w.heap.size vA args) (hV:EvV w):
 Calls Tryz.prog 16 #[v,.string lang,vA] w fun e w'=>e=.returned (.tuple #[.string (str (sayS n m lang args).1),errD (sayS n m lang args).2])∧Below w.heap.size w w':=by
 obtain⟨A,c,rfl,_⟩:=hA.form;obtain⟨Av,cv,rfl,_⟩:=hv.form;have hb10:(m.map (Enc.node n).bulk).sum≤10000000:=Nat.le_trans hi.bulk (by decide)
 have hmi:=msgIn_of_bulk n m hb10;have HFi:=hid (fits_any n m (.slice Av m.length cv) lo args (.slice A args.length c) loA w hmi (Nat.le_trans (cnt_of_bulk n m) hb10) hv hV.mv hA hi.len (hid fun a ha=>Nat.le_trans (hi.name a ha) (by decide)))
 have HAr:Hid (∀ W,Below w.heap.size w W→ListOk Enc.argV W loA w.heap.size (.slice A args.length c) args):=hid fun W hW=>hA.below Enc.argV_laws hW;have HSay:Hid (fitsR n m args=0→∀ k mb cn s W,s.small→Spk k k s (.map (some mb)) [] W→k≤W.heap.size→w.heap.size≤k→Below w.heap.size w W→SayW k mb cn (argF args) W→
  Calls Tryz.prog 50 #[.pointer (some ⟨k,0,none⟩),.slice Av m.length cv,.agg #[.int .i64 0,.int .i64 0]] W fun e w'=>e=.returned (errD (sayN s (argF args) n m ⟨0,0⟩).2)∧Spk k k s (.map (some mb)) (sayN s (argF args) n m ⟨0,0⟩).1 w'∧BwK k k W w'):=hid fun h0 k mb cn s W hs hS hk hwk hbw hSW=>by
  have h1:=say_any 1048576 ⟨by decide,by decide⟩ k k mb cn s hs (argF args) (hid (argIn_of hi.text (fits_args h0))) lo w.heap.size hwk n m (.slice Av m.length cv) ⟨0,0⟩ [] W hmi (good_of_fits h0) (textN_of_bulk _ n m hi.bulk) hS hk hSW (hv.keep (Enc.node_laws n) fun p _ hp=>hbw.cell hp) (by
   have h2:=costN_le 1048576 n m;have h3:=Nat.mul_le_mul_left 1048576 hi.bulk;show 0+_≤_;omega)
  rw[List.nil_append]at h1;exact h1
 have HEv:Hid (∀ W,Below w.heap.size w W→EvV W):=hid fun W hW=>hV.below hW;have HRu:Hid (∀ W,Calls Tryz.prog 49 #[.string lang] W fun e w'=>e=.returned (.tuple #[(langS lang).val,errD (langE lang)])∧Below W.heap.size W w'):=hid fun W=>Rules_any lang W hL;have HNs:Hid (∀ a∈args,a.name.size≤maxLen):=hid fun a ha=>Nat.le_trans (hi.name a ha) (by decide)
 have HLn:Hid (langE lang≠0→langS lang=set_no):=hid fun h=>by
  unfold langE at h;unfold langS;cases e:langR lang with
  | none=>rfl
  | some v=>rw[e]at h;exact absurd rfl h
 have HEq:Hid (sayS n m lang args=if fitsR n m args≠0 then([],fitsR n m args)else if(sayN (langS lang) (argF args) n m ⟨0,0⟩).2≠0 then([],(sayN (langS lang) (argF args) n m ⟨0,0⟩).2)else((sayN (langS lang) (argF args) n m ⟨0,0⟩).1,0)):=hid rfl
 have hlen:=hi.len;have HSm:=hid (langS_small lang);obtain⟨fr,hfr⟩:∃ fr,fr=fitsR n m args:=⟨_,rfl⟩;rw[←hfr]at HFi HSay HEq;obtain⟨S,hS⟩:∃ S,S=langS lang:=⟨_,rfl⟩;rw[←hS]at HRu HEq HLn HSm;obtain⟨le,hle⟩:∃ le,le=langE lang:=⟨_,rfl⟩;rw[←hle]at HRu HLn;have HS9:Hid (∀ k mb cn W,fr=0→Spk k k S (.map (some mb)) [] W→k≤W.heap.size→w.heap.size≤k→Below w.heap.size w W→SayW k mb cn (argF args) W→
  Calls Tryz.prog 50 #[.pointer (some ⟨k,0,none⟩),.slice Av m.length cv,.agg #[.int .i64 0,.int .i64 0]] W fun e w'=>e=.returned (errD (sayN S (argF args) n m ⟨0,0⟩).2)∧Spk k k S (.map (some mb)) (sayN S (argF args) n m ⟨0,0⟩).1 w'∧BwK k k W w'):=hid fun k mb cn W h0=>HSay.out h0 k mb cn S W HSm.out
 obtain⟨sr,hsr⟩:∃ sr,sr=sayN S (argF args) n m ⟨0,0⟩:=⟨_,rfl⟩;rw[←hsr]at HEq;have HS8:Hid (∀ k mb cn W,fr=0→Spk k k S (.map (some mb)) [] W→k≤W.heap.size→w.heap.size≤k→Below w.heap.size w W→SayW k mb cn (argF args) W→
  Calls Tryz.prog 50 #[.pointer (some ⟨k,0,none⟩),.slice Av m.length cv,.agg #[.int .i64 0,.int .i64 0]] W fun e w'=>e=.returned (errD sr.2)∧Spk k k S (.map (some mb)) sr.1 w'∧BwK k k W w'):=hid (by rw[hsr];exact HS9.out)
 obtain⟨po,hpo⟩:∃ po,po=sayS n m lang args:=⟨_,rfl⟩;rw[←hpo]at HEq ⊢;have hmm:=@run_makeMap Tryz.prog;clear HSay HS9 hv hA hV hi hb10 hmi hfr hS hle hsr hpo HSm hL
 go_enter Tryz.func16,Tryz.ntmps16
 go_wp2_with fail
 refine HFi.out.mono ?_;clear HFi;rintro e w1 ⟨rfl,hb1⟩;have HB1:=hid hb1;clear hb1
 by_cases h0:fr=0
 ·subst h0;rw[errV_zero];have hs1:=HB1.out.size;obtain⟨mb,hmbe⟩:∃ mb,mb=w1.heap.size:=⟨_,rfl⟩;obtain⟨k,hke⟩:∃ k,k=w1.heap.size+1:=⟨_,rfl⟩;obtain⟨W2,eW2⟩:∃ W2,W2=(w1.alloc (.map #[] 0)).alloc (.cells #[.string ⟨#[]⟩,.string ⟨#[]⟩,.string ⟨#[]⟩,.string ⟨#[]⟩,.string ⟨#[]⟩,.map (some mb),.pointer none,.slice none 0 0] 114):=⟨_,rfl⟩;have hb12:Below w1.heap.size w1 W2:=by rw[eW2];exact((Below.refl _ _).alloc (Nat.le_refl _) _).alloc (by simp) _
  have hM2:Blk W2 k 114 (spkC set_no (.map (some mb)) (.pointer none) (.slice none 0 0)):=by
   have h1:=Blk.new (w1.alloc (.map #[] 0)) 114 #[.string ⟨#[]⟩,.string ⟨#[]⟩,.string ⟨#[]⟩,.string ⟨#[]⟩,.string ⟨#[]⟩,.map (some mb),.pointer none,.slice none 0 0];rw[World.size_alloc,←hke,←eW2]at h1;exact h1
  have hO2:OwnsV W2 mb 0 (fun s=>(argF (args.take 0) s).map ArgV.val):=by
   have h1:OwnsV (w1.alloc (.map #[] 0)) mb 0 (fun s=>(argF (args.take 0) s).map ArgV.val):=by rw[hmbe];exact OwnsV.made w1
   rw[eW2];exact h1.below ((Below.refl _ _).alloc (Nat.le_refl _) _) h1.lt
  have HM2:=hid hM2;have HO2:=hid hO2;have HB12:=hid hb12;have HMb:=hid hmbe;have HKe:=hid hke;have hkm:k=mb+1:=by omega
  have HKm:=hid hkm;have HR2:=hid (HRu.out W2);have EW2:=hid eW2;clear hM2 hO2 hb12 hkm eW2 HRu
  go_wp2_with fail
  rw[←HKe.out,←HMb.out,←EW2.out];clear EW2 hmbe hke;refine HR2.out.mono ?_;clear HR2;rintro e w3 ⟨rfl,hb3⟩;have HB3:=hid hb3;have HM3:=hid (HM2.out.below hb3 HM2.out.lt);have HO3:=hid (HO2.out.below hb3 HO2.out.lt);have HB13:=hid (HB12.out.trans (hb3.mono HB12.out.size));clear hb3 HM2 HO2 HB12 HB3;obtain⟨W4,eW4⟩:∃ W4,W4=w3.alloc (.cells #[.string S.z,.string S.o,.string S.t,.string S.f,.string S.m] 108):=⟨_,rfl⟩;have hb34:Below w3.heap.size w3 W4:=by rw[eW4];exact(Below.refl _ _).alloc (Nat.le_refl _) _
  have hT4:Blk W4 w3.heap.size 108 #[.string S.z,.string S.o,.string S.t,.string S.f,.string S.m]:=by rw[eW4];exact Blk.new _ _ _
  have hM4:=HM3.out.below hb34 HM3.out.lt;have HM4:=hid hM4;have HO4:=hid (HO3.out.below hb34 HO3.out.lt);have HB14:=hid (HB13.out.trans (hb34.mono HB13.out.size));have t0:=(hT4.cell 0).trans (show _=some (.string S.z)from rfl);have t1:=(hT4.cell 1).trans (show _=some (.string S.o)from rfl);have t2:=(hT4.cell 2).trans (show _=some (.string S.t)from rfl);have t3:=(hT4.cell 3).trans (show _=some (.string S.f)from rfl);have t4:=(hT4.cell 4).trans (show _=some (.string S.m)from rfl);have k0:=(hM4.cell 0).trans (show _=some (.string ⟨#[]⟩)from rfl);have k1:=(hM4.cell 1).trans (show _=some (.string ⟨#[]⟩)from rfl);have k2:=(hM4.cell 2).trans (show _=some (.string ⟨#[]⟩)from rfl);have k3:=(hM4.cell 3).trans (show _=some (.string ⟨#[]⟩)from rfl);have k4:=(hM4.cell 4).trans (show _=some (.string ⟨#[]⟩)from rfl);have f0:=hM4.frozen 0;have f1:=hM4.frozen 1;have f2:=hM4.frozen 2;have f3:=hM4.frozen 3;have f4:=hM4.frozen 4;have EW4:=hid eW4;clear hb34 hT4 hM4 HM3 HO3 HB13 eW4;obtain⟨sz,so,st,sf,sm⟩:=S;unfold SetV.val;dsimp only at *;obtain⟨Z,hZ⟩:∃ Z,Z=decide (le=0):=⟨_,rfl⟩;have HG:∀ W:World,Sem.run Tryz.prog (eqGuard BinOp.eql 27 (Operand.tmp 29) (Operand.const Value.nilIface) (errD le) Value.nilIface) W=.ok () W:=fun W=>by
   by_cases h:le=0
   ·rw[h];rfl
   ·rw[errD_ne h];rfl
  have HQ:∀ W:World,Sem.run Tryz.prog (binOp BinOp.eql 27 (errD le) Value.nilIface) W=.ok (.bool Z) W:=fun W=>by
   by_cases h:le=0
   ·rw[hZ,decide_eq_true h,h];rfl
   ·rw[hZ,decide_eq_false h,errD_ne h];rfl
  have HZ:=hid hZ;clear hZ;generalize errD le=eL at*
  go_upto_if 30 with fail
  rw[←EW4.out];clear EW4 HG HQ
  go_cut []from 31 (fun wx=>Blk wx k 114 (spkC ⟨sz,so,st,sf,sm⟩ (.map (some mb)) (.pointer none) (.slice none 0 0))∧OwnsV wx mb 0 (fun s=>(argF (args.take 0) s).map ArgV.val)∧Below w1.heap.size w1 wx)
  case first=>
   cases Z with
   | true=>
     go_wp2_with fail
     go_meet
     case rel=>
      have hb5:Below k W4 (((((W4.setCell ⟨k,0,none⟩ (.string sz)).setCell ⟨k,1,none⟩ (.string so)).setCell ⟨k,2,none⟩ (.string st)).setCell ⟨k,3,none⟩ (.string sf)).setCell ⟨k,4,none⟩ (.string sm)):=
       (((((Below.refl k W4).setCell (p:=⟨k,0,none⟩) (Nat.le_refl k) _).setCell (p:=⟨k,1,none⟩) (Nat.le_refl k) _).setCell (p:=⟨k,2,none⟩) (Nat.le_refl k) _).setCell (p:=⟨k,3,none⟩) (Nat.le_refl k) _).setCell (p:=⟨k,4,none⟩) (Nat.le_refl k) _
      have hkm:=HKm.out;have hkw:w1.heap.size≤k:=by have:=HKe.out;omega
      exact⟨((((HM4.out.set_ 0 _).set_ 1 _).set_ 2 _).set_ 3 _).set_ 4 _,HO4.out.below hb5 (by omega),HB14.out.trans (hb5.mono hkw)⟩
   | false=>
     have hn:=HLn.out (of_decide_eq_false HZ.out.symm)
     go_wp2_with fail
     go_meet
     case rel=>
      rw[hn];exact⟨HM4.out,HO4.out,HB14.out⟩
  case rest=>
   obtain⟨hM,hO,hB⟩:=hcut;have HM:=hid hM;have HO:=hid hO;have HB:=hid hB;clear hM hO hB HM4 HO4 HB14 HLn HZ t0 t1 t2 t3 t4 k0 k1 k2 k3 k4 f0 f1 f2 f3 f4
   go_wp2_with fail
   go_loopw [13,37] (fun _ i wr=>∃(j cnt:Nat),j≤args.length∧cnt≤j∧i=.int .i64 (j:Int)∧Blk wr k 114 (spkC ⟨sz,so,st,sf,sm⟩ (.map (some mb)) (.pointer none) (.slice none 0 0))∧OwnsV wr mb cnt (fun s=>(argF (args.take j) s).map ArgV.val)∧Below w1.heap.size w1 wr) (fun _ i _=>args.length - (intOf i).toNat)
   case atStart=>exact⟨0,0,Nat.zero_le _,Nat.le_refl _,rfl,HM.out,HO.out,HB.out⟩
   case round=>
    clear HM HO HB;obtain⟨j,cnt,hj,hcnt,rfl,hM,hO,hB⟩:=hrel;obtain⟨wo,rfl⟩:∃ wo:World,wo=wr:=⟨_,rfl⟩;have HM:=hid hM;have HO:=hid hO;have HB:=hid hB;have HBw:=hid (HB1.out.trans (hB.mono hs1))
    by_cases hlt:j < args.length
    ·have i1:(0:Int)≤(j:Int):=Int.natCast_nonneg j;have i2:(j:Int) < (args.length:Int):=by omega
     obtain⟨b1,o1,rfl,_,_,x0,x1,x2,x3,x4⟩:=(HAr.out _ HBw.out).argVAt j hlt;have HSn:=hid (argF_snoc args j hlt);have hsz:=HNs.out _ (List.getElem_mem hlt);generalize args[j]=a at *;obtain⟨nm,isn,⟨co,sc⟩,tx⟩:=a;dsimp only at x0 x1 x2 x3 x4 HSn hsz;obtain⟨W3,eW3⟩:∃ W3,W3=wo.alloc (.cells #[.string nm,.bool isn,.int .i64 co,.int .i64 sc,.string tx] 67):=⟨_,rfl⟩;have mk3:Blk W3 wo.heap.size 67 #[.string nm,.bool isn,.int .i64 co,.int .i64 sc,.string tx]:=by rw[eW3];exact Blk.new _ _ _
     have hb3:Below wo.heap.size wo W3:=by rw[eW3];exact(Below.refl _ _).alloc (Nat.le_refl _) _
     have EW:=hid eW3;have y0:=(mk3.cell 0).trans (show _=some (.string nm)from rfl);have y1:=(mk3.cell 1).trans (show _=some (.bool isn)from rfl);have y2:=(mk3.cell 2).trans (show _=some (.int .i64 co)from rfl);have y3:=(mk3.cell 3).trans (show _=some (.int .i64 sc)from rfl);have y4:=(mk3.cell 4).trans (show _=some (.string tx)from rfl);have hM3:=hM.below hb3 hM.lt;have z5:=(hM3.cell 5).trans (show _=some (.map (some mb))from rfl);have HM3:=hid hM3;have HO3:Hid (OwnsV W3.drew mb cnt (fun s=>(argF (args.take j) s).map ArgV.val)):=hid ((hO.below hb3 hO.lt).keep rfl);have HB3:=hid (hB.trans (hb3.mono hB.size));have hne:k≠mb:=by have:=HKm.out;omega
     clear eW3 mk3 hb3 hM3 hM hO hB
     go_upto_region 11 with fail
     rw[←EW.out];clear EW x0 x1 x2 x3 x4
     go_still_tail 7,(by kernel_rfl)
     change wpList _ _ _ _ _ W3.drew
     go_wp2_with (at_mapUpdate;refine wpList_update_V rfl _ _ _ 106 67 rfl Tryz.underlying106 mb cnt _ rfl HO3.out (by unfold maxLen;omega) nm (.agg #[.string nm,.bool isn,.int .i64 co,.int .i64 sc,.string tx]) rfl rfl hsz ?_)
     intro w5 hO5 hg5;have HO5:Hid (OwnsV w5 mb (cnt+1) (fun s=>(argF (args.take (j+1)) s).map ArgV.val)):=hid (hO5.same fun s=>by rw[HSn.out];exact putA_val _ _ _)
     have HM5:Hid (Blk w5 k 114 (spkC ⟨sz,so,st,sf,sm⟩ (.map (some mb)) (.pointer none) (.slice none 0 0))):=hid ((hg5.block k HM3.out.lt (fun e=>hne (Option.some.inj e))).trans HM3.out);have HB5:Hid (Below w1.heap.size w1 w5):=hid (HB3.out.drew.grown hg5 HB3.out.size (fun r e=>by injection e with e;have:=HMb.out;omega))
     clear hO5 hg5 HO3 HM3 HB3 y0 y1 y2 y3 y4 z5
     go_wp2_with fail
     go_roundw
     case rel=>exact⟨j+1,cnt+1,by omega,by omega,by go_num,HM5.out,HO5.out,HB5.out⟩
     case measure=>simp[intOf];omega
    ·obtain rfl:j=args.length:=by omega
     rw[List.take_length]at HO;have HW:Hid (Spk k k ⟨sz,so,st,sf,sm⟩ (.map (some mb)) [] wo∧k≤wo.heap.size∧w.heap.size≤k∧Below w.heap.size w wo∧SayW k mb cnt (argF args) wo):=hid (by
      have hkm:=HKm.out;have hke:=HKe.out;refine⟨spk_set wo wo k k _ _ (Nat.le_refl _) HM.out,Nat.le_of_lt HM.out.lt,by omega,HBw.out,⟨fun W hW=>HEv.out W (HBw.out.trans (hW.mono (by omega))),fun W hW=>HO.out.below hW (by omega)⟩⟩)
     obtain⟨hS,hk,hwk,hbw,hSW⟩:=HW.out;have HC:=hid (HS8.out k mb cnt wo (by trivial) hS hk hwk hbw hSW)
     have HBo:=hid hbw;have hwk':=hwk;clear hS hk hbw hSW HS8 HW hM hO hB HM HO HB
     go_wp2_with fail
     refine HC.out.mono ?_;clear HC;rintro e w6 ⟨rfl,hS6,hb6⟩;have HB6:=hid (HBo.out.trans (hb6.below.mono hwk'));have hk6:k≤w6.heap.size:=Nat.le_of_lt hS6.lt;have HTx:=hid (textS_any k k sr.1 _ _ w6 hS6 hk6);clear hS6 hb6;obtain⟨sl,se⟩:=sr;dsimp only at*
     by_cases hz:se=0
     ·subst hz;have HP:Hid (po=(sl,0)):=hid (by rw[HEq.out];simp)
      rw[errD_zero];clear HEq
      go_wp2_with fail
      refine HTx.out.mono ?_;clear HTx;rintro e w7 ⟨rfl,hb7⟩;have HB7:=hid (HB6.out.trans (hb7.mono hwk'));clear hb7
      go_wp2_with fail
      go_ret2
      exact⟨by rw[HP.out];rfl,HB7.out⟩
     ·have HP:Hid (po=([],se)):=hid (by rw[HEq.out];simp[hz])
      rw[errD_ne hz];clear HEq HTx
      go_wp2_with fail
      go_ret2
      exact⟨by rw[HP.out,errD_ne hz];rfl,HB6.out⟩
 ·have HP:Hid (po=([],fr)):=hid (by rw[HEq.out,if_pos h0])
  rw[errV_ne h0];clear HEq
  go_wp2_with fail
  go_ret2
  exact⟨by rw[HP.out,errD_ne h0];rfl,HB1.out⟩
end Go.Proofs.YtpfmmbbggcghiaaGreatDoor
namespace Go.Proofs.YtpfmmbbggcghiaaGreatDoor
open Go.RowKit
open Lib (hid)
def keySigns:ByteArray:=⟨#[97,98,99,100,101,102,103,104,105,106,107,108,109,110,111,112,113,114,115,116,117,118,119,120,121,122,48,49,50,51,52,53,54,55,56,57,46,95]⟩
theorem keySigns_all:∀ n,n < 256→(bts keySigns).contains (UInt8.ofNat n)=isKey (UInt8.ofNat n):=by decide +kernel
theorem keySigns_is (c:UInt8):(bts keySigns).contains c=isKey c:=by
 have:=keySigns_all c.toNat c.toNat_lt;rwa[UInt8.ofNat_toNat]at this
theorem dropWhile_nil {α:Type} (p:α→Bool):∀ l:List α,l.dropWhile p=[]↔l.all p=true
 | []=>by simp
 | a::l=>by
   rw[List.dropWhile_cons,List.all_cons];cases h:p a with
   | true=>simp[dropWhile_nil p l]
   | false=>simp
theorem dropWhile_head {α:Type} (p:α→Bool):∀(l:List α),(l.dropWhile p).all p=true→l.dropWhile p=[]
 | [],_=>rfl
 | a::l,h=>by
   rw[List.dropWhile_cons]at h ⊢;cases hp:p a with
   | true=>rw[hp]at h;simp only[if_true]at h ⊢;exact dropWhile_head p l h
   | false=>rw[hp]at h;simp[hp]at h
theorem trimS_nil (l cs:List UInt8):Lib.trimS l cs=[]↔l.all (cs.contains ·)=true:=by
 unfold Lib.trimS Lib.trimLeftS Lib.trimRightS;rw[dropWhile_nil,List.all_reverse]
 constructor
 ·intro h;have h1:=dropWhile_head _ _ h;rw[dropWhile_nil,List.all_reverse]at h1;exact h1
 ·intro h;have h1:l.reverse.dropWhile (cs.contains ·)=[]:=by rw[dropWhile_nil,List.all_reverse];exact h
  rw[h1];rfl
theorem trim_key (s:ByteArray):(Lib.trimS (bts s) (bts keySigns)=[])↔(bts s).all isKey=true:=by
 rw[trimS_nil];have:((bts keySigns).contains ·)=isKey:=funext keySigns_is;rw[this]
theorem low_any (c:UInt8) (w:World):Calls Tryz.prog 42 #[.int .u8 c.toNat] w fun e w'=>e=.returned (.bool (isLow c))∧w=w':=by
 have h:Hid (isLow c=(decide (97≤c.toNat) && decide (c.toNat≤122))):=rfl;generalize c.toNat=n at h ⊢
 go_enter Tryz.func42,Tryz.ntmps42
 go_wp2
 all_goals
  go_ret
  exact⟨ret_bool (by rw[h.out,Bool.eq_iff_iff];simp only[decide_eq_true_eq,Bool.and_eq_true,Bool.false_eq_true];refine⟨fun h=> ?_,fun h=> ?_⟩ <;> first|exact h.elim|omega),rfl⟩
theorem high_any (c:UInt8) (w:World):Calls Tryz.prog 81 #[.int .u8 c.toNat] w fun e w'=>e=.returned (.bool (isHigh c))∧w=w':=by
 have h:Hid (isHigh c=(decide (65≤c.toNat) && decide (c.toNat≤90))):=rfl;generalize c.toNat=n at h ⊢
 go_enter Tryz.func81,Tryz.ntmps81
 go_wp2
 all_goals
  go_ret
  exact⟨ret_bool (by rw[h.out,Bool.eq_iff_iff];simp only[decide_eq_true_eq,Bool.and_eq_true,Bool.false_eq_true];refine⟨fun h=> ?_,fun h=> ?_⟩ <;> first|exact h.elim|omega),rfl⟩
theorem digit_any (c:UInt8) (w:World):Calls Tryz.prog 82 #[.int .u8 c.toNat] w fun e w'=>e=.returned (.bool (isDig c))∧w=w':=by
 have h:Hid (isDig c=(decide (48≤c.toNat) && decide (c.toNat≤57))):=rfl;generalize c.toNat=n at h ⊢
 go_enter Tryz.func82,Tryz.ntmps82
 go_wp2
 all_goals
  go_ret
  exact⟨ret_bool (by rw[h.out,Bool.eq_iff_iff];simp only[decide_eq_true_eq,Bool.and_eq_true,Bool.false_eq_true];refine⟨fun h=> ?_,fun h=> ?_⟩ <;> first|exact h.elim|omega),rfl⟩
theorem both_any (c:UInt8) (w:World):Calls Tryz.prog 84 #[.int .u8 c.toNat] w fun e w'=>e=.returned (.bool (isBoth c))∧w=w':=by
 have h:Hid (isBoth c=(isLow c || isDig c)):=rfl;have H1:=hid (low_any c);have H2:=hid (digit_any c);generalize c.toNat=n at H1 H2 ⊢
 go_enter Tryz.func84,Tryz.ntmps84
 go_wp2_with (first
  | (go_at_call 42;refine(H1.out _).mono ?_;rintro e w1 ⟨rfl,rfl⟩)
  | (go_at_call 82;refine(H2.out _).mono ?_;rintro e w1 ⟨rfl,rfl⟩))
 all_goals
  go_ret
  exact⟨ret_bool (by rw[h.out];simp_all),rfl⟩
theorem bts_get (s:ByteArray) (q:Nat) (h:q < s.size):(bts s)[q]'(by rw[bts_len];exact h)=s[q]:=by
 cases s with
 | mk d=>exact Array.getElem_toList (xs:=d) h
theorem all_bts (p:UInt8→Bool) (s:ByteArray) (h:∀ q (h:q < s.size),p s[q]=true):(bts s).all p=true:=by
 rw[List.all_eq_true];intro x hx;obtain⟨q,hq,rfl⟩:=List.getElem_of_mem hx;rw[bts_len]at hq;rw[bts_get s q hq];exact h q hq
theorem not_all_bts (p:UInt8→Bool) (s:ByteArray) (j:Nat) (hj:j < s.size) (h:p s[j]=false):(bts s).all p=false:=by
 rw[←Bool.not_eq_true,List.all_eq_true];intro hx;have:=hx _ (List.getElem_mem (l:=bts s) (n:=j) (by rw[bts_len];exact hj))
 rw[bts_get s j hj,h]at this;cases this
def Says (f:FuncId) (p:UInt8→Bool):Prop:=∀(c:UInt8) (w:World),Calls Tryz.prog f #[.int .u8 c.toNat] w fun e w'=>e=.returned (.bool (p c))∧w=w'
theorem made_any (f:FuncId) (p:UInt8→Bool) (he:∀ args w,(callFunc f args).run Tryz.prog w=.ok (.enter f args) w) (hp:Says f p) (s:ByteArray) (a b:Nat) (w:World) (hs:s.size≤9223372036854775807) (_ha:a≤1000) (_hb:b≤1000):
 Calls Tryz.prog 43 #[.func (.func f) #[] #[],.string s,.int .i64 a,.int .i64 b] w fun e w'=>e=.returned (.bool (made p s a b))∧w=w':=by
 have HP:=hid hp
 go_enter Tryz.func43,Tryz.ntmps43
 go_wp2
 go_loop [12] (fun i=>∃ j:Nat,j≤s.size∧i=.int .i64 j∧(∀ q,(h:q < s.size)→q < j→p s[q]=true)) (fun i=>s.size - (intOf i).toNat)
 case atStart=>exact⟨0,Nat.zero_le _,rfl,fun _ _ h=>absurd h (by omega)⟩
 case round=>
  obtain⟨j,hj,rfl,hno0⟩:=hrel;have hno:=hid hno0;clear hno0
  by_cases hlt:j < s.size
  ·go_wp2_with (go_at_fn f;refine(HP.out _ _).mono ?_;rintro e w1 ⟨rfl,rfl⟩)
   ·have hpj:(!p s[j])=true:=by assumption
    go_ret
    exact⟨ret_bool (by unfold made;rw[not_all_bts p s j hlt (by simpa using hpj)];rfl),rfl⟩
   ·have hpj0:(!p s[j])=false:=by assumption
    have hpj:p s[j]=true:=by simpa using hpj0
    refine⟨⟨j+1,by omega,by go_num,fun q h hq=> ?_⟩,by simp only[intOf];omega⟩
    rcases Nat.lt_or_eq_of_le (Nat.le_of_lt_succ hq)with h1|h1
    ·exact hno.out q h h1
    ·subst h1;exact hpj
  ·have hall:=all_bts p s (fun q h=>hno.out q h (by omega))
   go_wp2
   ·go_ret
    have h1:a≤s.size:=by assumption
    exact⟨ret_bool (by unfold made;rw[hall];simp[h1]),rfl⟩
   ·go_ret
    have h1:¬ a≤s.size:=by assumption
    exact⟨ret_bool (by unfold made;rw[hall];simp[h1]),rfl⟩
theorem enters_low:∀ args w,(callFunc 42 args).run Tryz.prog w=.ok (.enter 42 args) w:=enters_of Tryz.func42 (by kernel_rfl) rfl
theorem enters_high:∀ args w,(callFunc 81 args).run Tryz.prog w=.ok (.enter 81 args) w:=enters_of Tryz.func81 (by kernel_rfl) rfl
theorem enters_digit:∀ args w,(callFunc 82 args).run Tryz.prog w=.ok (.enter 82 args) w:=enters_of Tryz.func82 (by kernel_rfl) rfl
theorem enters_both:∀ args w,(callFunc 84 args).run Tryz.prog w=.ok (.enter 84 args) w:=enters_of Tryz.func84 (by kernel_rfl) rfl
theorem made_low (s:ByteArray) (a b:Nat) (w:World) (hs:s.size≤9223372036854775807) (ha:a≤1000) (hb:b≤1000):Calls Tryz.prog 43 #[.func (.func 42) #[] #[],.string s,.int .i64 a,.int .i64 b] w fun e w'=>e=.returned (.bool (made isLow s a b))∧w=w':=made_any _ _ enters_low low_any s a b w hs ha hb
theorem made_high (s:ByteArray) (a b:Nat) (w:World) (hs:s.size≤9223372036854775807) (ha:a≤1000) (hb:b≤1000):Calls Tryz.prog 43 #[.func (.func 81) #[] #[],.string s,.int .i64 a,.int .i64 b] w fun e w'=>e=.returned (.bool (made isHigh s a b))∧w=w':=made_any _ _ enters_high high_any s a b w hs ha hb
theorem made_dig (s:ByteArray) (a b:Nat) (w:World) (hs:s.size≤9223372036854775807) (ha:a≤1000) (hb:b≤1000):Calls Tryz.prog 43 #[.func (.func 82) #[] #[],.string s,.int .i64 a,.int .i64 b] w fun e w'=>e=.returned (.bool (made isDig s a b))∧w=w':=made_any _ _ enters_digit digit_any s a b w hs ha hb
theorem made_both (s:ByteArray) (a b:Nat) (w:World) (hs:s.size≤9223372036854775807) (ha:a≤1000) (hb:b≤1000):Calls Tryz.prog 43 #[.func (.func 84) #[] #[],.string s,.int .i64 a,.int .i64 b] w fun e w'=>e=.returned (.bool (made isBoth s a b))∧w=w':=made_any _ _ enters_both both_any s a b w hs ha hb
theorem region_any (s:ByteArray) (w:World) (hs:s.size≤9223372036854775807):Calls Tryz.prog 45 #[.string s] w fun e w'=>e=.returned (.bool (regionB s))∧w=w':=by
 have h:Hid (regionB s=(made isHigh s 2 2 || made isDig s 3 3)):=rfl;have H1:=hid (made_high s 2 2 w hs (by omega) (by omega))
 have H2:=hid (made_dig s 3 3 w hs (by omega) (by omega))
 generalize made isHigh s 2 2=m at h H1;generalize made isDig s 3 3=k at h H2;cases m with
 | true=>
   go_enter Tryz.func45,Tryz.ntmps45
   go_wp2_with (go_at_call 43;refine(H1.out).mono ?_;rintro e w1 ⟨rfl,rfl⟩)
   go_ret
   exact⟨ret_bool (by rw[h.out];rfl),rfl⟩
 | false=>
   go_enter Tryz.func45,Tryz.ntmps45
   go_wp2_with fail
   refine(H1.out).mono ?_;rintro e w1 ⟨rfl,rfl⟩
   go_wp2_with fail
   refine(H2.out).mono ?_;rintro e w1 ⟨rfl,rfl⟩
   go_wp2_with fail
   go_ret
   exact⟨ret_bool (by rw[h.out];rfl),rfl⟩
end Go.Proofs.YtpfmmbbggcghiaaGreatDoor
