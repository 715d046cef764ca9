/- code.Say: a message in one row says what the message says. -/
import Derived.Test.YtpfmmbbggcghiaaGreatDoorFrmR
set_option linter.unusedSimpArgs false
set_option linter.unusedVariables false
namespace Go.Proofs.YtpfmmbbggcghiaaGreatDoor
open Go.RowKit Go.Maps
open Lib (hid)
theorem bulk_map (n:Nat) (h:∀ m:List (Nd n),((cpyN n m).map (Enc.node n).bulk).sum≤(m.map (Enc.node n).bulk).sum):∀ m:List (NdF (Nd n)),((m.map (cpyX (cpyN n))).map fun x:NdF (Nd n)=>(Enc.node (n+1)).bulk x).sum≤(m.map fun x:NdF (Nd n)=>(Enc.node (n+1)).bulk x).sum
 | []=>Nat.le_refl _
 | x::r=>by
   have h1:∀ cs:List (ByteArray×List (Nd n)),((cs.map fun c=>(c.1,cpyN n c.2)).map (Enc.cas (Enc.node n)).bulk).sum≤(cs.map (Enc.cas (Enc.node n)).bulk).sum:=by
    intro cs
    induction cs with
    | nil=>exact Nat.le_refl _
    | cons c cs ih=>
      rw[List.map_cons,List.map_cons,List.map_cons,List.sum_cons,List.sum_cons,cas_bulk,cas_bulk];have:=h c.2;dsimp only;omega
   have h2:((casesR x).map (Enc.cas (Enc.node n)).bulk).sum≤(x.cases.map (Enc.cas (Enc.node n)).bulk).sum:=by
    unfold casesR;split
    ·exact Nat.le_refl _
    ·exact Nat.zero_le _
   have h3:=h1 (casesR x);have h4:=bulk_map n h r;have e:(Enc.node (n+1)).bulk (cpyX (cpyN n) x)=x.text.size+1+((((casesR x).map fun c=>(c.1,cpyN n c.2)).map (Enc.cas (Enc.node n)).bulk).sum+1):=rfl;rw[List.map_cons,List.map_cons,List.map_cons,List.sum_cons,List.sum_cons];rw[e,node_bulk n x];omega
theorem bulk_cpy:(n:Nat)→(m:List (Nd n))→((cpyN n m).map (Enc.node n).bulk).sum≤(m.map (Enc.node n).bulk).sum
 | 0,_=>Nat.zero_le _
 | n+1,m=>bulk_map n (bulk_cpy n) m
structure MSt (kc ks mb cnt:Nat) (out U:Value) (zs:List SU) (S:SetV) (f:ByteArray→Option ArgV) (w:World):Prop where
 ev:EvV w
 code:Blk w kc 53 #[out,U]
 set:Blk w ks 108 #[.string S.z,.string S.o,.string S.t,.string S.f,.string S.m]
 own:OwnsV w mb cnt (fun s=>(f s).map ArgV.val)
 row:∃ b,SRow b w out zs
set_option maxHeartbeats 6400000 in
set_option maxRecDepth 100000 in
theorem cSay_any (n:Nat) (m:List (Nd n)) (out U:Value) (zs:List SU) (Bz lo:Nat) (lang:ByteArray) (args:List ArgV) (vA:Value) (loA:Nat) (w:World) (hi:SayIn n m args) (hL:lang.size≤maxLen) (hz:zs.map SU.x=stpN n 0 m) (hs:SRow Bz w out zs) (hU:ListOk (Enc.node n) w lo w.heap.size U (cpyN n m)) (hA:ListOk Enc.argV w loA w.heap.size vA args) (hV:EvV w):
 Calls Tryz.prog 18 #[.agg #[out,U],.string lang,vA] w fun e w'=>e=.returned (.tuple #[.string (str (sayS n m lang args).1),errD (sayS n m lang args).2])∧Below w.heap.size w w':=by
 obtain⟨A,c,rfl,_⟩:=hA.form;obtain⟨Av,cv,rfl,_⟩:=hU.form;obtain⟨Ao,co,rfl,_⟩:=own_slice hs.row;have hb10:(m.map (Enc.node n).bulk).sum≤10000000:=Nat.le_trans hi.bulk (by decide)
 have hbc:=Nat.le_trans (bulk_cpy n m) hb10;obtain⟨W1,eW1⟩:∃ W,W=w.alloc (.cells #[.slice Ao zs.length co,.slice Av (cpyN n m).length cv] 53):=⟨_,rfl⟩;have hb1:Below w.heap.size w W1:=by rw[eW1];exact(Below.refl _ _).alloc (Nat.le_refl _) _
 have hs1:W1.heap.size=w.heap.size+1:=by rw[eW1,World.size_alloc]
 have hk1:Blk W1 w.heap.size 53 #[.slice Ao zs.length co,.slice Av (cpyN n m).length cv]:=by rw[eW1];exact Blk.new w _ _
 have HFi:=fits_any n (cpyN n m) (.slice Av (cpyN n m).length cv) lo args (.slice A args.length c) loA W1 (msgIn_of_bulk n _ hbc) (Nat.le_trans (cnt_of_bulk n _) hbc) ((hU.below (Enc.node_laws n) hb1).mono (Enc.node_laws n) (Nat.le_refl _) hb1.size) (hV.below hb1).mv ((hA.below Enc.argV_laws hb1).mono Enc.argV_laws (Nat.le_refl _) hb1.size) hi.len (hid fun a ha=>Nat.le_trans (hi.name a ha) (by decide))
 rw[fitsR_cpy]at HFi;have HFi:=hid HFi;have HAr:Hid (∀ W,Below w.heap.size w W→ListOk Enc.argV W loA w.heap.size (.slice A args.length c) args):=hid fun W hW=>hA.below Enc.argV_laws hW;have HEv:Hid (∀ W,Below w.heap.size w W→EvV W):=hid fun W hW=>hV.below hW;have HRow:Hid (∀ W,Below w.heap.size w W→SRow Bz W (.slice Ao zs.length co) zs):=hid fun W hW=>hs.below hW;have HRu:Hid (∀ W,Calls Tryz.prog 49 #[.string lang] W fun e w'=>e=.returned (.tuple #[(langS lang).val,errD (langE lang)])∧Below W.heap.size W w'):=hid fun W=>Rules_any lang W hL;have HNs:Hid (∀ a∈args,a.name.size≤maxLen):=hid fun a ha=>Nat.le_trans (hi.name a ha) (by decide)
 have HLn:Hid (langE lang≠0→langS lang=set_no):=hid fun h=>by
  unfold langE at h;unfold langS;cases e:langR lang with
  | none=>rfl
  | some v=>rw[e]at h;exact absurd rfl h
 have HEq:Hid (sayS n m lang args=if fitsR n m args≠0 then([],fitsR n m args)else if(sayN (langS lang) (argF args) n m ⟨0,0⟩).2≠0 then([],(sayN (langS lang) (argF args) n m ⟨0,0⟩).2)else((sayN (langS lang) (argF args) n m ⟨0,0⟩).1,0)):=hid rfl
 have hlen:=hi.len;have HSm:=hid (langS_small lang);have hzl:zs.length≤1048576:=by
  have h1:=congrArg List.length hz;rw[List.length_map]at h1;rw[h1];exact Nat.le_trans (stpN_len n 0 m) hi.bulk
 have HGo:Hid (fitsR n m args=0→KGo 1048576 ⟨n,m,⟨0,0⟩⟩∧ArgIn 1048576 (argF args)):=hid fun h=>⟨⟨⟨good_of_fits h,textN_of_bulk _ n m hi.bulk,msgIn_of_bulk n m hb10⟩,kind_of_check n m false (check_of_fits h)⟩,argIn_of hi.text (fits_args h)⟩;have HCo:Hid (costN 1048576 n m≤1048576*1048576):=hid (Nat.le_trans (costN_le 1048576 n m) (Nat.mul_le_mul_left 1048576 hi.bulk));have HLa:Hid (LaidK (zs.map SU.x) 0 [⟨n,m,⟨0,0⟩⟩] [⟨zs.length,0,⟨0,0⟩⟩]):=hid (by
  refine⟨Nat.zero_le _,⟨[],?_⟩,?_,rfl,fun h=>absurd rfl h,trivial⟩
  ·rw[List.drop_zero,hz,List.append_nil]
  ·show 0+(stpN n 0 m).length=zs.length;rw[←hz,List.length_map,Nat.zero_add])
 obtain⟨fr,hfr⟩:∃ fr,fr=fitsR n m args:=⟨_,rfl⟩;rw[←hfr]at HFi HEq HGo;obtain⟨S,hS⟩:∃ S,S=langS lang:=⟨_,rfl⟩;rw[←hS]at HRu HEq HLn HSm;obtain⟨le,hle⟩:∃ le,le=langE lang:=⟨_,rfl⟩;rw[←hle]at HRu HLn;obtain⟨po,hpo⟩:∃ po,po=sayS n m lang args:=⟨_,rfl⟩;rw[←hpo]at HEq ⊢;obtain⟨N,hN⟩:∃ N,N=zs.length:=⟨_,rfl⟩;obtain⟨M,hM⟩:∃ M,M=(cpyN n m).length:=⟨_,rfl⟩;rw[←hN,←hM]at eW1 hk1;rw[←hM]at HFi hU;rw[←hN]at HRow HLa hzl hs;have hmm:=@run_makeMap Tryz.prog;have HB1:=hid hb1;have HK1:=hid hk1;have EW1:=hid eW1;have x0:=(hk1.cell 0).trans (show _=some (.slice Ao N co)from rfl);have x1:=(hk1.cell 1).trans (show _=some (.slice Av M cv)from rfl);rw[←hN,←hM];have HN:=hid hN;clear hs hU hA hV hi hb10 hbc hfr hS hle hpo hL hz hb1 hk1 eW1 hM hN
 go_enter Tryz.func18,Tryz.ntmps18
 go_upto_region 1 with fail
 rw[←EW1.out];clear EW1
 go_wp2_with fail
 refine HFi.out.mono ?_;clear HFi;rintro e w1 ⟨rfl,hb1⟩;have HBw1:=hid (HB1.out.trans (hb1.mono HB1.out.size));have HK2:=hid (HK1.out.below hb1 HK1.out.lt);clear hb1 x0 x1 HK1 HB1
 by_cases h0:fr=0
 ·subst h0;rw[errV_zero];have hs1:=HBw1.out.size;have hk2l:=HK2.out.lt;have HR1:=hid (HRu.out w1);have y0:=(HK2.out.cell 0).trans (show _=some (.slice Ao N co)from rfl);clear HRu
  go_wp2_with fail
  refine HR1.out.mono ?_;clear HR1;rintro e w2 ⟨rfl,hb2⟩;have HB2:=hid (HBw1.out.trans (hb2.mono HBw1.out.size));have HK3:=hid (HK2.out.below hb2 hk2l);obtain⟨W3,eW3⟩:∃ W3,W3=w2.alloc (.cells #[.string S.z,.string S.o,.string S.t,.string S.f,.string S.m] 108):=⟨_,rfl⟩;have hb3:Below w2.heap.size w2 W3:=by rw[eW3];exact(Below.refl _ _).alloc (Nat.le_refl _) _
  have hT3:Blk W3 w2.heap.size 108 #[.string S.z,.string S.o,.string S.t,.string S.f,.string S.m]:=by rw[eW3];exact Blk.new _ _ _
  have hk3l:=HK3.out.lt;have HK4:=hid (HK3.out.below hb3 hk3l);have HT3:=hid hT3;have HB3:=hid (HB2.out.trans (hb3.mono HB2.out.size));have t0:=(hT3.cell 0).trans (show _=some (.string S.z)from rfl);have t1:=(hT3.cell 1).trans (show _=some (.string S.o)from rfl);have t2:=(hT3.cell 2).trans (show _=some (.string S.t)from rfl);have t3:=(hT3.cell 3).trans (show _=some (.string S.f)from rfl);have t4:=(hT3.cell 4).trans (show _=some (.string S.m)from rfl);have f0:=hT3.frozen 0;have f1:=hT3.frozen 1;have f2:=hT3.frozen 2;have f3:=hT3.frozen 3;have f4:=hT3.frozen 4;have EW3:=hid eW3;clear hb2 hb3 hT3 eW3 HK2 HK3 y0;obtain⟨sz,so,st,sf,sm⟩:=S;unfold SetV.val;dsimp only at *;obtain⟨Z,hZ⟩:∃ Z,Z=decide (le≠0):=⟨_,rfl⟩;have HG:∀ W:World,Sem.run Tryz.prog (eqGuard BinOp.neq 27 (Operand.tmp 36) (Operand.const Value.nilIface) (errD le) Value.nilIface) W=.ok () W:=fun W=>by
   by_cases h:le=0
   ·rw[h];rfl
   ·rw[errD_ne h];rfl
  have HQ:∀ W:World,Sem.run Tryz.prog (binOp BinOp.neq 27 (errD le) Value.nilIface) W=.ok (.bool Z) W:=fun W=>by
   by_cases h:le=0
   ·rw[hZ,h];rfl
   ·rw[hZ,decide_eq_true h,errD_ne h];rfl
  have HZ:=hid hZ;clear hZ;generalize errD le=eL at*
  go_upto_if 37 with fail
  rw[←EW3.out];clear EW3 HG HQ
  go_cut []from 38 (fun wx=>Blk wx w2.heap.size 108 #[.string sz,.string so,.string st,.string sf,.string sm]∧Below w2.heap.size W3 wx)
  case first=>
   cases Z with
   | true=>
     have hn:=HLn.out (of_decide_eq_true HZ.out.symm);injection hn with n0 n1 n2 n3 n4;subst n0;subst n1;subst n2;subst n3;subst n4
     go_wp2_with fail
     go_meet
     case rel=>
      refine⟨((((HT3.out.set_ 0 _).set_ 1 _).set_ 2 _).set_ 3 _).set_ 4 _,?_⟩;exact(((((Below.refl w2.heap.size W3).setCell (p:=⟨w2.heap.size,0,none⟩) (Nat.le_refl _) _).setCell (p:=⟨w2.heap.size,1,none⟩) (Nat.le_refl _) _).setCell (p:=⟨w2.heap.size,2,none⟩) (Nat.le_refl _) _).setCell (p:=⟨w2.heap.size,3,none⟩) (Nat.le_refl _) _).setCell (p:=⟨w2.heap.size,4,none⟩) (Nat.le_refl _) _
   | false=>
     go_wp2_with fail
     go_meet
     case rel=>exact⟨HT3.out,Below.refl _ _⟩
  case rest=>
   obtain⟨hT,hBx⟩:=hcut;obtain⟨ks,hkse⟩:∃ ks,ks=w2.heap.size:=⟨_,rfl⟩;rw[←hkse]at hT hBx ⊢;have hkk:w.heap.size < ks:=by have:=HB2.out.size;omega
   clear hkse;have HK5:=hid (HK4.out.below hBx (by omega))
   have HB5:=hid (HB3.out.trans (hBx.mono (by omega)))
   clear hBx HLn HZ t0 t1 t2 t3 t4 f0 f1 f2 f3 f4 HT3 HK4 HB2 HB3;obtain⟨w5,hw5⟩:∃ w5,w5=wc:=⟨_,rfl⟩;subst hw5;have HT:=hid hT;clear hT;obtain⟨mb,hmbe⟩:∃ mb,mb=w5.heap.size:=⟨_,rfl⟩;obtain⟨W6,eW6⟩:∃ W6,W6=w5.alloc (.map #[] 0):=⟨_,rfl⟩;have hb6:Below w5.heap.size w5 W6:=by rw[eW6];exact(Below.refl _ _).alloc (Nat.le_refl _) _
   have hO6:OwnsV W6 mb 0 (fun s=>(argF (args.take 0) s).map ArgV.val):=by rw[eW6,hmbe];exact OwnsV.made w5
   have hz5:ks < w5.heap.size:=HT.out.lt;have HO6:=hid hO6;have hmb6:mb≤W6.heap.size:=Nat.le_of_lt hO6.lt;have HK6:=hid (HK5.out.below hb6 (by omega))
   have HT6:=hid (HT.out.below hb6 hz5);have HB6:=hid (HB5.out.trans (hb6.mono (by omega)))
   have hmw:w.heap.size < mb:=by omega
   have hms:ks < mb:=by omega
   have HMb:=hid hmbe;have EW6:=hid eW6;clear hb6 hO6 eW6 HK5 HT HB5
   go_upto_region 8 with fail
   rw[←HMb.out,←EW6.out];clear EW6 hmbe
   go_wp2_with fail
   go_loopw [13,42] (fun _ i wr=>∃(j cnt:Nat),j≤args.length∧cnt≤j∧i=.int .i64 (j:Int)∧OwnsV wr mb cnt (fun s=>(argF (args.take j) s).map ArgV.val)∧Below mb W6 wr) (fun _ i _=>args.length - (intOf i).toNat)
   case atStart=>exact⟨0,0,Nat.zero_le _,Nat.le_refl _,rfl,HO6.out,Below.refl _ _⟩
   case round=>
    clear HO6;obtain⟨j,cnt,hj,hcnt,rfl,hO,hB⟩:=hrel;obtain⟨wo,rfl⟩:∃ wo:World,wo=wr:=⟨_,rfl⟩;have HO:=hid hO;have HB:=hid hB;have HBw:=hid (HB6.out.trans (hB.mono (by omega)))
    by_cases hlt:j < args.length
    ·have i1:(0:Int)≤(j:Int):=Int.natCast_nonneg j;have i2:(j:Int) < (args.length:Int):=by omega
     obtain⟨b1,o1,rfl,_,_,x0,x1,x2,x3,x4⟩:=(HAr.out _ HBw.out).argVAt j hlt;have HSn:=hid (argF_snoc args j hlt);have hsz:=HNs.out _ (List.getElem_mem hlt);generalize args[j]=a at *;obtain⟨nm,isn,⟨co',sc⟩,tx⟩:=a;dsimp only at x0 x1 x2 x3 x4 HSn hsz;obtain⟨W3,eW3⟩:∃ W3,W3=wo.alloc (.cells #[.string nm,.bool isn,.int .i64 co',.int .i64 sc,.string tx] 67):=⟨_,rfl⟩;have mk3:Blk W3 wo.heap.size 67 #[.string nm,.bool isn,.int .i64 co',.int .i64 sc,.string tx]:=by rw[eW3];exact Blk.new _ _ _
     have hb3:Below wo.heap.size wo W3:=by rw[eW3];exact(Below.refl _ _).alloc (Nat.le_refl _) _
     have EW:=hid eW3;have y0:=(mk3.cell 0).trans (show _=some (.string nm)from rfl);have y1:=(mk3.cell 1).trans (show _=some (.bool isn)from rfl);have y2:=(mk3.cell 2).trans (show _=some (.int .i64 co')from rfl);have y3:=(mk3.cell 3).trans (show _=some (.int .i64 sc)from rfl);have y4:=(mk3.cell 4).trans (show _=some (.string tx)from rfl);have HO3:Hid (OwnsV W3 mb cnt (fun s=>(argF (args.take j) s).map ArgV.val)):=hid (hO.below hb3 hO.lt);have HB3:=hid (hB.trans (hb3.mono (by have:=hO.lt;omega)))
     clear eW3 mk3 hb3 hO hB
     go_upto_region 11 with fail
     rw[←EW.out];clear EW x0 x1 x2 x3 x4
     go_wp2_with (at_mapUpdate;refine wpList_update_V rfl _ _ _ 106 67 rfl Tryz.underlying106 mb cnt _ rfl HO3.out (by unfold maxLen;omega) nm (.agg #[.string nm,.bool isn,.int .i64 co',.int .i64 sc,.string tx]) rfl rfl hsz ?_)
     intro w7 hO7 hg7;have HO7:Hid (OwnsV w7 mb (cnt+1) (fun s=>(argF (args.take (j+1)) s).map ArgV.val)):=hid (hO7.same fun s=>by rw[HSn.out];exact putA_val _ _ _)
     have HB7:Hid (Below mb W6 w7):=hid (HB3.out.grown hg7 (Nat.le_trans hmb6 HB3.out.size) (fun r e=>by injection e with e;omega))
     clear hO7 hg7 HO3 HB3 y0 y1 y2 y3 y4
     go_wp2_with fail
     go_roundw
     case rel=>
      exact⟨j+1,cnt+1,by omega,by omega,by go_num,HO7.out,HB7.out⟩
     case measure=>simp[intOf];omega
    ·obtain rfl:j=args.length:=by omega
     rw[List.take_length]at HO;have hmO:=HO.out.lt;obtain⟨kb,hkbe⟩:∃ kb,kb=wo.heap.size:=⟨_,rfl⟩;have HMs:Hid (∀ W,Below kb wo W→MSt w.heap.size ks mb cnt (.slice Ao N co) (.slice Av M cv) zs ⟨sz,so,st,sf,sm⟩ (argF args) W):=hid fun W hW=>by
      have hW':Below mb W6 W:=HB.out.trans (hW.mono (by omega))
      exact⟨HEv.out W (HB6.out.trans (hW'.mono (by omega))),HK6.out.below hW' hmw,HT6.out.below hW' hms,HO.out.below hW (by omega),⟨Bz,HRow.out W (HB6.out.trans (hW'.mono (by omega)))⟩⟩
     have HBo:=HBw;have hwk:w.heap.size≤kb:=by have:=HBo.out.size;omega
     obtain⟨W8,eW8⟩:∃ W8,W8=wo.alloc (.cells #[.pointer none,.slice none 0 0] 112):=⟨_,rfl⟩;have hz8:W8.heap.size=kb+1:=by rw[eW8,World.size_alloc,hkbe]
     have hb8:Below kb wo W8:=by rw[eW8];exact(Below.refl _ _).alloc (by omega) _
     have hL8:Bld kb kb [] W8:=by rw[eW8,hkbe];exact bld_new wo
     obtain⟨W9,eW9⟩:∃ W9,W9=W8.alloc (.cells #[.int .i64 (N:Int),.int .i64 0,.int .i64 0,.int .i64 0] 122):=⟨_,rfl⟩;have hb89:Below W8.heap.size W8 W9:=by rw[eW9];exact(Below.refl _ _).alloc (by omega) _
     have hL9:Bld kb kb [] W9:=hL8.on hb89;have hF9:FRow kb W9 (.slice (some ⟨kb+1,0,none⟩) 1 1) [⟨N,0,⟨0,0⟩⟩]:=by
      have h1:=frow_one kb W8 ⟨N,0,⟨0,0⟩⟩ (by omega)
      rw[hz8]at h1;rw[eW9];exact h1
     have HB9:=hid (hb8.trans (hb89.mono (by omega)))
     have x0:=((HMs.out W8 hb8).code.cell 0).trans (show _=some (.slice Ao N co)from rfl);have HL9:=hid hL9;have HF9:=hid hF9;have HKb:=hid hkbe;have EW8:=hid eW8;have EW9:=hid eW9;clear hO hB HO HB HBw hb8 hL8 hb89 hL9 hF9 eW8 eW9 hkbe HK6 HT6 HB6 HAr HNs HRow HEv hmw hms
     go_upto_region 14 with fail
     rw[←EW8.out,←HKb.out];clear EW8
     go_upto_region 15 with fail
     rw[←EW9.out];clear EW9
     go_wp2_with fail
     obtain⟨sr,hsr⟩:∃ sr,sr=sayN ⟨sz,so,st,sf,sm⟩ (argF args) n m ⟨0,0⟩:=⟨_,rfl⟩;rw[←hsr]at HEq;obtain⟨S,hS⟩:∃ S:SetV,S=⟨sz,so,st,sf,sm⟩:=⟨_,rfl⟩;have hSz:sz=S.z:=by rw[hS]
     have hSo:so=S.o:=by rw[hS]
     have hSt:st=S.t:=by rw[hS]
     have hSf:sf=S.f:=by rw[hS]
     have hSm:sm=S.m:=by rw[hS]
     rw[←hS]at hsr HMs HSm;clear hS;subst hSz;subst hSo;subst hSt;subst hSf;subst hSm;obtain⟨f,hf⟩:∃ f,f=argF args:=⟨_,rfl⟩;rw[←hf]at hsr HMs HGo;have HR0:Hid (sr.1=[]++(sayK S f [⟨n,m,⟨0,0⟩⟩]).1∧sr.2=(sayK S f [⟨n,m,⟨0,0⟩⟩]).2):=hid (by
      rw[hsr];show _=[]++(if(sayN S f n m ⟨0,0⟩).2≠0 then sayN S f n m ⟨0,0⟩else((sayN S f n m ⟨0,0⟩).1++[],0)).1∧_=(if(sayN S f n m ⟨0,0⟩).2≠0 then sayN S f n m ⟨0,0⟩else((sayN S f n m ⟨0,0⟩).1++[],0)).2
      by_cases h:(sayN S f n m ⟨0,0⟩).2=0
      ·rw[if_neg (by rw[h];decide)];exact⟨by simp,h⟩
      ·rw[if_pos h];exact⟨by simp,rfl⟩)
     have hAI:=(HGo.out trivial).2;have HKg:Hid (∀ k∈[(⟨n,m,⟨0,0⟩⟩:Kt)],KGo 1048576 k):=hid fun k hk=>by
      obtain rfl:=List.mem_singleton.1 hk;exact(HGo.out trivial).1
     have HAI:=hid hAI;have HC0:Hid (([]:List UInt8).length+costK 1048576 [⟨n,m,⟨0,0⟩⟩]≤1048576*1048576):=hid (by show 0+(costN 1048576 n m+0)≤_;have:=HCo.out;omega)
     have hN':(zs.map SU.x).length=N:=by rw[List.length_map];exact HN.out.symm
     have HZl:=hid hN';clear hAI HGo HCo hsr hf hN'
     go_loopw [15,16] (fun sv av wr=>∃(p:Nat) (K:List Kt) (q:Frm) (F:List Frm) (acc:List UInt8),av=.int .i64 (p:Int)∧FRow kb wr sv (q::F)∧Bld kb kb acc wr∧Below kb wo wr∧Hid (LaidK (zs.map SU.x) p K (q::F))∧Hid (∀ k∈K,KGo 1048576 k)∧Hid (acc.length+costK 1048576 K≤1048576*1048576)∧Hid (sr.1=acc++(sayK S f K).1∧sr.2=(sayK S f K).2)∧2*(N - p)+F.length≤2*N) (fun sv av _=>2*(N - (intOf av).toNat)+lenOf sv)
     case atStart=>exact⟨0,_,_,[],[],rfl,HF9.out,HL9.out,HB9.out,HLa,HKg,HC0,HR0,by show 2*(N - 0)+0≤_;omega⟩
     case round=>
      clear HF9 HL9 HB9 HLa HKg HC0 HR0;obtain⟨p,K,⟨tl,nx,mk⟩,F,acc,rfl,hF,hL,hB,HLa,HKg,HCo,HRe,hm⟩:=hrel;obtain⟨wl,rfl⟩:∃ wl:World,wl=wr:=⟨_,rfl⟩;obtain⟨L,hLe⟩:∃ L,L=F.length:=⟨_,rfl⟩;obtain⟨g,cap,rfl,hg1,hg2,hF',t0,t1,t2,t3⟩:=hF.top;obtain⟨_,hcap⟩:=own_cap hF;rw[←hLe]at t0 t1 t2 t3 hm;dsimp only at t0 t1 t2 t3;have hkl:=hL.lt;have hple:=HLa.out.le;have hzl:=HZl.out;have hp1:p≤N:=by have h1:=hple.1;omega
      have hq1:p≤tl:=hple.2.1;have hq2:tl≤N:=by have h1:=hple.2.2;dsimp only at h1;omega
      have hL1:L≤2*N:=by omega
      obtain⟨W1,eW1⟩:∃ W1,W1=wl.alloc (.cells #[.int .i64 (tl:Int),.int .i64 (nx:Int),.int .i64 mk.coef,.int .i64 mk.scale] 122):=⟨_,rfl⟩;have hz1:W1.heap.size=wl.heap.size+1:=by rw[eW1,World.size_alloc]
      have hb1:Below wl.heap.size wl W1:=by rw[eW1];exact(Below.refl _ _).alloc (Nat.le_refl _) _
      have hk1:Blk W1 wl.heap.size 122 #[.int .i64 (tl:Int),.int .i64 (nx:Int),.int .i64 mk.coef,.int .i64 mk.scale]:=by rw[eW1];exact Blk.new wl _ _
      have HB1:=hid (hB.trans (hb1.mono (by omega)))
      have HL1:=hid (hL.on hb1);have HFF:=hid (hF.on hb1);have HF1:=hid (FRow.on hF' hb1);rw[←hLe]at HFF HF1;have HK1:=hid hk1;have u0:=(hk1.cell 0).trans (show _=some (.int .i64 (tl:Int))from rfl);have u1:=(hk1.cell 1).trans (show _=some (.int .i64 (nx:Int))from rfl);have u2:=(hk1.cell 2).trans (show _=some (.int .i64 mk.coef)from rfl);have u3:=(hk1.cell 3).trans (show _=some (.int .i64 mk.scale)from rfl);have EW1:=hid eW1;have i1:(0:Int)≤(L:Int):=Int.natCast_nonneg L;have i2:(L:Int)≤2097152:=by omega
      have i3:(((L+1:Nat):Int) - 1)=(L:Int):=by omega
      have i4:(0:Int)≤(p:Int):=Int.natCast_nonneg p;have i5:(p:Int)≤1048576:=by omega
      have i7:(L:Int)≤(cap:Int):=by rw[List.length_cons,←hLe]at hcap;omega
      have HLe:=hid hLe;have HM:=hid hm;have hzp:(zs.map SU.x).length=N:=hzl;rw[←hLe];clear hF hL hB hb1 hk1 hF' eW1 hple hLe hm hzl hcap
      go_upto_region 17 with fail
      rw[←EW1.out];clear EW1 t0 t1 t2 t3
      by_cases he:p=tl
      ·subst he;obtain⟨k0,K',rfl,hsay,hnx,hlaid⟩:=mch_end HLa.out rfl;have HNx:=hid hnx;have HLa':=hid hlaid;have HRe':Hid (sr.1=acc++(sayK S f K').1∧sr.2=(sayK S f K').2):=hid (by rw[←hsay S f];exact HRe.out)
       clear hsay hnx hlaid HLa HRe;cases F with
       | nil=>
         have hL0:L=0:=HLe.out;subst hL0;have hK':=HLa'.out.none;subst hK';have HTx:=hid (bld_text HL1.out (by omega))
         have HP:Hid (po=(acc,0)):=hid (by
          have h1:=HRe'.out.1;have h2:=HRe'.out.2;have e1:(sayK S f []).1=[]:=rfl;have e2:(sayK S f []).2=0:=rfl;rw[e1,List.append_nil]at h1;rw[e2]at h2;rw[HEq.out,if_neg (by decide),if_neg (by rw[h2];decide),h1])
         go_wp2_with fail
         refine HTx.out.mono ?_;rintro e w9 ⟨rfl,hb9⟩;have HB9:=hid hb9;clear hb9 HTx
         go_wp2_with fail
         go_ret2
         exact⟨by rw[HP.out];rfl,HBo.out.trans ((HB1.out.trans HB9.out).mono hwk)⟩
       | cons q2 F2=>
         have HL0:Hid (L=F2.length+1):=hid HLe.out;have i6:¬((L:Int)=0):=by have:=HL0.out;omega
         have i8:¬(L=0):=by have:=HL0.out;omega
         have hnx:=HNx.out (by simp)
         dsimp only at hnx;have hle2:=HLa'.out.le;dsimp only at hle2
         go_wp2_with fail
         go_roundw
         case rel=>
          have hfr:=HF1.out;have hpl:p≤nx:=hnx;have hmm:=HM.out;have hl0:=HL0.out;refine⟨nx,K',q2,F2,acc,rfl,?_,HL1.out,HB1.out,HLa',hid fun k hk=>HKg.out k (List.mem_cons_of_mem _ hk),hid ?_,HRe',?_⟩
          ·rw[hl0]at hfr;rw[hl0];exact hfr
          ·have h1:=HCo.out;have h2:costK 1048576 (k0::K')=costN 1048576 k0.d k0.l+costK 1048576 K':=rfl;omega
          ·omega
         case measure=>
          have hpl:p≤nx:=hnx;show 2*(N - ((nx:Int)).toNat)+L < 2*(N - ((p:Int)).toNat)+(L+1);omega
      ·have i6:¬((p:Int)=(tl:Int)):=by omega
       obtain⟨d,x,r,K',rfl,hp,hzx,hflat,hpush⟩:=mch_on HLa.out he;have hpz:p < zs.length:=by rw[List.length_map]at hp;exact hp
       rw[List.getElem_map]at hzx;obtain⟨b0,hrow⟩:=(HMs.out W1 HB1.out).row;obtain⟨gO,hAo,hgO,r0,r1,r2,r3,r4,r5⟩:=hrow.at p hpz;obtain⟨hkey,hbeg⟩:=hrow.part _ (List.getElem_mem hpz);rw[hzx]at r0 r1 r2 r5 hkey hbeg;dsimp only at r0 r1 r2 r5 hkey hbeg;obtain⟨vA,vc,hv,_⟩:=own_slice hkey;obtain⟨uA,uc,hu,_⟩:=own_slice hbeg;rw[hv]at r3 hkey;rw[hu]at r4 hbeg;have HKey:=hid hkey;have HBeg:=hid hbeg;have HFl:=hid hflat;have HPu:=hid hpush;have hgo:=HKg.out _ (List.mem_cons_self ..);have HKd:=hid hgo.head;have HGo:=hid hgo;have hxt:x.text.size≤1048576:=hgo.ok.head.2.1;have hgf:=hgo.ok.head.1;have hsf:=hgo.ok.head.2.2.2;clear hv hu hkey hbeg hflat hpush hrow hzx;generalize (zs[p]'hpz).v=zv at *;obtain⟨kd,tx,off,cs⟩:=x;dsimp only at *;obtain⟨ks',hks'⟩:∃ l,l=(casesR (⟨kd,tx,off,cs⟩:NdF (Nd d))).map Prod.fst:=⟨_,rfl⟩;obtain⟨bl,hbl⟩:∃ l,l=begF (stpN d) (p+1) (casesR (⟨kd,tx,off,cs⟩:NdF (Nd d)))++[p+1+(bodF (stpN d) (p+1) (casesR (⟨kd,tx,off,cs⟩:NdF (Nd d)))).length]:=⟨_,rfl⟩;obtain⟨fin,hfin⟩:∃ l,l=p+1+(bodF (stpN d) (p+1) (casesR (⟨kd,tx,off,cs⟩:NdF (Nd d)))).length:=⟨_,rfl⟩;rw[←hks']at HKey r3;rw[←hbl]at HBeg HPu r4;rw[←hfin]at HPu r5;have HKl:Hid (ks'.length≤10000000∧∀ c∈ks'.map (fun k=>(k,([]:List Empty))),c.1.size≤1000000000):=hid (by rw[hks'];exact keys_small hsf)
       have HBll:Hid (bl.length=ks'.length+1):=hid (by rw[hbl,hks',List.length_append,List.length_map,begF_len];rfl)
       have HOf:Hid (kd=4→0≤off∧off≤1000):=hid hgf.1;have HNe:Hid (kd=4∨kd=5→cs≠[]):=hid fun h=>(hgf.2 h).1;have HKs':=hid hks';have HBl:=hid hbl;have HFin:=hid hfin;clear hks' hbl hfin hgf hsf;subst hAo;have c0:=((HMs.out W1 HB1.out).code.cell 0).trans (show _=some (.slice (some ⟨gO,0,none⟩) N co)from rfl);obtain⟨W2,eW2⟩:∃ W2,W2=W1.alloc (.cells #[.int .i64 kd,.string tx,.int .i64 off,.slice vA ks'.length vc,.slice uA bl.length uc,.int .i64 (fin:Int)] 129):=⟨_,rfl⟩;have hz2:W2.heap.size=wl.heap.size+2:=by rw[eW2,World.size_alloc,hz1]
       have hb2:Below W1.heap.size W1 W2:=by rw[eW2];exact(Below.refl _ _).alloc (Nat.le_refl _) _
       have hk2:Blk W2 (wl.heap.size+1) 129 #[.int .i64 kd,.string tx,.int .i64 off,.slice vA ks'.length vc,.slice uA bl.length uc,.int .i64 (fin:Int)]:=by rw[eW2,←hz1];exact Blk.new W1 _ _
       have s1:=(hk2.cell 1).trans (show _=some (.string tx)from rfl);have HB2:=hid (HB1.out.trans (hb2.mono (by have:=hz1;omega)))
       obtain⟨a,ea⟩:∃ a,a=argOf f tx:=⟨_,rfl⟩;have hzr:∀ W,(zeroValue 67).run Tryz.prog W=.ok (.agg #[.string ByteArray.empty,.bool false,.int .i64 0,.int .i64 0,.string ByteArray.empty]) W:=fun W=>by
        simp[Tryz.zeroValue67];rfl
       have hlk:(Instr.lookup 106 (.map (some mb)) (.string tx) false).run Tryz.prog W2=.ok (.agg #[.string a.name,.bool a.isNum,.int .i64 a.num.coef,.int .i64 a.num.scale,.string a.text]) W2:=by
        have h1:=(HMs.out W2 HB2.out).own.look (t:=106) (e:=67) (k:=tx) Tryz.underlying106 (hzr _) (by unfold maxLen;omega)
        rw[argOf_val f tx,←ea]at h1;exact h1
       have HHB2:=hid hb2;have HK2:=hid hk2;have EW2:=hid eW2;have HEa:=hid ea;clear hb2 hk2 eW2 hzr ea
       go_upto_region 23 with fail
       rw[←EW2.out];clear EW2 r0 r1 r2 r3 r4 r5 c0;obtain⟨W3,eW3⟩:∃ W3,W3=W2.alloc (.cells #[.string a.name,.bool a.isNum,.int .i64 a.num.coef,.int .i64 a.num.scale,.string a.text] 67):=⟨_,rfl⟩;have hz3:W3.heap.size=wl.heap.size+3:=by rw[eW3,World.size_alloc,hz2]
       have hb3:Below W2.heap.size W2 W3:=by rw[eW3];exact(Below.refl _ _).alloc (Nat.le_refl _) _
       have hk3:Blk W3 (wl.heap.size+2) 67 #[.string a.name,.bool a.isNum,.int .i64 a.num.coef,.int .i64 a.num.scale,.string a.text]:=by rw[eW3,←hz2];exact Blk.new W2 _ _
       have HHB3:=hid (HHB2.out.trans (hb3.mono HHB2.out.size));have HS3:=hid (HK2.out.below hb3 (by omega))
       have HA3:=hid hk3;have HT3:=hid (HK1.out.below HHB3.out (by omega))
       have v1:=(HS3.out.cell 1).trans (show _=some (.string tx)from rfl);have v2:=(HT3.out.cell 2).trans (show _=some (.int .i64 mk.coef)from rfl);have v3:=(HT3.out.cell 3).trans (show _=some (.int .i64 mk.scale)from rfl);have hbz:Below W3.heap.size W3 (W3.alloc (.cells #[.int .i64 0,.int .i64 0] 65)):=(Below.refl _ _).alloc (Nat.le_refl _) _;have z1:=((HS3.out.below hbz (by omega)).cell 1).trans (show _=some (.string tx)from rfl)
       have z2:=((HT3.out.below hbz (by omega)).cell 2).trans (show _=some (.int .i64 mk.coef)from rfl)
       have z3:=((HT3.out.below hbz (by omega)).cell 3).trans (show _=some (.int .i64 mk.scale)from rfl)
       have EW3:=hid eW3;clear eW3 hb3 hk3 hbz
       go_upto_region 24 with fail
       rw[←EW3.out];clear EW3 hlk s1 u0 u1 u2 u3
       go_region
       obtain⟨W4,eW4⟩:∃ W4,W4=(W3.alloc (.cells #[.int .i64 mk.coef,.int .i64 mk.scale] 65)).drew:=⟨_,rfl⟩;have hz4:W4.heap.size=wl.heap.size+4:=by rw[eW4];show(W3.alloc _).heap.size=_;rw[World.size_alloc,hz3]
       have hb4:Below W3.heap.size W3 W4:=by rw[eW4];exact((Below.refl _ _).alloc (Nat.le_refl _) _).drew
       have hk4:Blk W4 (wl.heap.size+3) 65 #[.int .i64 mk.coef,.int .i64 mk.scale]:=by rw[eW4,←hz3];exact Blk.new W3 _ _
       have HHB4:=hid (HHB3.out.trans (hb4.mono HHB3.out.size));have HB4:=hid (HB1.out.trans (HHB4.out.mono (by omega)))
       have HS4:=hid (HS3.out.below hb4 (by omega))
       have HA4:=hid (HA3.out.below hb4 (by omega))
       have HT4:=hid (HT3.out.below hb4 (by omega))
       have HD4:=hid hk4;have k0:=(HS4.out.cell 0).trans (show _=some (.int .i64 kd)from rfl);have k1:=(HS4.out.cell 1).trans (show _=some (.string tx)from rfl);have k2:=(HS4.out.cell 2).trans (show _=some (.int .i64 off)from rfl);have k3:=(HS4.out.cell 3).trans (show _=some (.slice vA ks'.length vc)from rfl);have m2:=(HT4.out.cell 2).trans (show _=some (.int .i64 mk.coef)from rfl);have m3:=(HT4.out.cell 3).trans (show _=some (.int .i64 mk.scale)from rfl);have a1:=(HA4.out.cell 1).trans (show _=some (.bool a.isNum)from rfl);have a2:=(HA4.out.cell 2).trans (show _=some (.int .i64 a.num.coef)from rfl);have a3:=(HA4.out.cell 3).trans (show _=some (.int .i64 a.num.scale)from rfl);have a4:=(HA4.out.cell 4).trans (show _=some (.string a.text)from rfl);have EW4:=hid eW4;clear eW4 hb4 hk4 v1 v2 v3 z1 z2 z3 HS3 HA3 HT3;rw[←EW4.out];clear EW4
       go_upto_block 4 with fail
       go_cut [20,21,23]from 56 to 165 (fun xv iv ev wx=>∃(T:List UInt8) (I E:Int) (M:DecV),xv=.string (str T)∧iv=.int .i64 I∧ev=errD E∧Below (wl.heap.size+3) W4 wx∧Blk wx (wl.heap.size+3) 65 #[.int .i64 M.coef,.int .i64 M.scale]∧T=swT kd tx a mk∧I=swI S kd off ks' a∧E=swE S kd off a mk∧M=swM S kd off a mk)
       case first=>
        by_cases k6:kd=6
        ·subst k6;have HNu:=hid (numeral_any mk W4 (HMs.out W4 HB4.out).ev)
         go_wp2_with fail
         refine HNu.out.mono ?_;clear HNu;rintro e w9 ⟨rfl,hb9⟩;have HB9:=hid hb9;clear hb9
         go_wp2_with fail
         go_meet
         case rel=>
          exact⟨numT mk,-1,numE mk,mk,rfl,rfl,rfl,HB9.out.mono (by omega),HD4.out.below HB9.out (by omega),rfl,rfl,rfl,rfl⟩
        ·by_cases k3':kd=3
         ·subst k3';have HNu:=hid (numeral_any a.num W4 (HMs.out W4 HB4.out).ev)
          go_wp2_with fail
          refine HNu.out.mono ?_;clear HNu;rintro e w9 ⟨rfl,hb9⟩;have HB9:=hid hb9;clear hb9
          go_wp2_with fail
          go_meet
          case rel=>
           exact⟨numT a.num,-1,numE a.num,mk,rfl,rfl,rfl,HB9.out.mono (by omega),HD4.out.below HB9.out (by omega),rfl,rfl,rfl,rfl⟩
         ·by_cases k2':kd=2
          ·subst k2';have HTd:Hid (a.isNum=true→Calls Tryz.prog 55 #[.agg #[.int .i64 a.num.coef,.int .i64 a.num.scale]] W4 fun e w'=>e=.returned (.string (str (textD a.num)))∧Below W4.heap.size W4 w'):=hid fun hn=>
            textD_any a.num W4 (by have h1:=HAI.out.ok tx;rw[←HEa.out]at h1;exact h1 hn) (HMs.out W4 HB4.out).ev.mv
           have HSw:Hid (swT 2 tx a mk=showT a):=hid rfl;cases hn:a.isNum with
           | true=>
             rw[hn]at a1;have HT1:=hid (HTd.out hn);have HSh:Hid (showT a=textD a.num):=hid (if_pos hn);clear HTd hn
             go_wp2_with fail
             refine HT1.out.mono ?_;clear HT1;rintro e w9 ⟨rfl,hb9⟩;have HB9:=hid hb9;clear hb9
             go_wp2_with fail
             go_meet
             case rel=>
              exact⟨textD a.num,-1,0,mk,rfl,rfl,rfl,HB9.out.mono (by omega),HD4.out.below HB9.out (by omega),by rw[HSw.out,HSh.out],rfl,rfl,rfl⟩
           | false=>
             rw[hn]at a1;have HSh:Hid (showT a=bts a.text):=hid (if_neg (by rw[hn];decide))
             clear HTd hn
             go_wp2_with fail
             go_meet
             case rel=>
              exact⟨bts a.text,-1,0,mk,by rw[str_bts],rfl,rfl,Below.refl _ _,HD4.out,by rw[HSw.out,HSh.out],rfl,rfl,rfl⟩
          ·by_cases k4':kd=4
           ·subst k4';have hmf:(ks'.map fun k=>(k,([]:List Empty))).map Prod.fst=ks':=by rw[List.map_map];exact List.map_id' ks'
            have hCa:=Case_any Enc.none_laws 4 off tx (ks'.map fun k=>(k,([]:List Empty))) (.slice vA ks'.length vc) S a.num 0 W4.heap.size W4 (keys_ok (own_below HKey.out HHB4.out (Nat.le_refl _)) (Nat.le_refl _)) (Nat.le_refl _) (by rw[List.length_map];exact HKl.out.1) (hid HKl.out.2) (HOf.out rfl) (HSm.out) (HMs.out W4 HB4.out).ev
            rw[hmf]at hCa;have HCa:=hid hCa;have hst:=(HMs.out W4 HB4.out).set;have s0:=(hst.cell 0).trans (show _=some (.string S.z)from rfl);have s1:=(hst.cell 1).trans (show _=some (.string S.o)from rfl);have s2:=(hst.cell 2).trans (show _=some (.string S.t)from rfl);have s3:=(hst.cell 3).trans (show _=some (.string S.f)from rfl);have s4:=(hst.cell 4).trans (show _=some (.string S.m)from rfl);clear hCa hmf hst
            go_wp2_with fail
            refine HCa.out.mono ?_;clear HCa;rintro e w9 ⟨rfl,hb9⟩;have HB9:=hid hb9;have hD9:=HD4.out.below hb9 (by omega)
            have HD9:=hid hD9;have d0:=(hD9.cell 0).trans (show _=some (.int .i64 mk.coef)from rfl);have d1:=(hD9.cell 1).trans (show _=some (.int .i64 mk.scale)from rfl);have e0:=hD9.frozen 0;have e1:=hD9.frozen 1;unfold DecV.v;clear hb9 hD9
            go_wp2_with fail
            go_meet
            case rel=>
             exact⟨[],_,caseE S off a.num,caseL S off a.num,rfl,rfl,rfl,((HB9.out.mono (show wl.heap.size+3≤W4.heap.size by omega)).setCell (p:=⟨wl.heap.size+3,0,none⟩) (Nat.le_refl _) _).setCell (p:=⟨wl.heap.size+3,1,none⟩) (Nat.le_refl _) _,(HD9.out.set_ 0 _).set_ 1 _,rfl,rfl,rfl,rfl⟩
           ·by_cases k5':kd=5
            ·subst k5';have hmf:(ks'.map fun k=>(k,([]:List Empty))).map Prod.fst=ks':=by rw[List.map_map];exact List.map_id' ks'
             have hCh:=Choice_any Enc.none_laws 5 off tx (ks'.map fun k=>(k,([]:List Empty))) (.slice vA ks'.length vc) a.text 0 W4.heap.size W4 (keys_ok (own_below HKey.out HHB4.out (Nat.le_refl _)) (Nat.le_refl _)) (Nat.le_refl _) (by rw[List.length_map];exact HKl.out.1)
             rw[hmf]at hCh;have HCh:=hid hCh;clear hCh hmf
             go_wp2_with fail
             refine HCh.out.mono ?_;clear HCh;rintro e w9 ⟨rfl,hb9⟩;have HB9:=hid hb9;clear hb9
             go_wp2_with fail
             go_meet
             case rel=>
              exact⟨[],_,0,mk,rfl,rfl,rfl,HB9.out.mono (by omega),HD4.out.below HB9.out (by omega),rfl,rfl,rfl,rfl⟩
            ·have HSw:Hid (swT kd tx a mk=bts tx∧swI S kd off ks' a= -1∧swE S kd off a mk=0∧swM S kd off a mk=mk):=hid (by
              unfold swT swI swE swM;simp only[if_neg k6,if_neg k3',if_neg k2',if_neg k4',if_neg k5'];exact⟨trivial,trivial,trivial,trivial⟩)
             go_wp2_with fail
             go_meet
             case rel=>
              exact⟨bts tx,-1,0,mk,by rw[str_bts],rfl,rfl,Below.refl _ _,HD4.out,HSw.out.1.symm,HSw.out.2.1.symm,HSw.out.2.2.1.symm,HSw.out.2.2.2.symm⟩
       case rest=>
        obtain⟨T,I,E,M,rfl,rfl,rfl,hBc,hDc,hT,hI,hE,hM⟩:=hcut;have HBc:=hid hBc;have HDc:=hid hDc;have HT:=hid hT;have HI:=hid hI;have HE:=hid hE;have HM':=hid hM;have HBk:=hid (HB4.out.trans (hBc.mono (by omega)))
        have hB1c:Below W1.heap.size W1 wc:=HHB4.out.trans (hBc.mono (by omega))
        have hLc:=HL1.out.on hB1c;have hFc:=HFF.out.on hB1c;have hSc:=HS4.out.below hBc (by omega)
        have hBegc:=own_below HBeg.out hB1c (Nat.le_refl _);have hzc:=hBc.size;clear k0 k1 k2 k3 m2 m3 a1 a2 a3 a4 hT hI hE hM hBc hDc hB1c
        by_cases hE0:E=0
        ·subst hE0;have hTl:T.length≤1048576:=by rw[HT.out,HEa.out];exact swT_len (by decide) HAI.out hxt
         have hct:=HCo.out;rw[costK_on]at hct;have hwr:=wstrQ_any kb kb acc (str T) wc hLc (by rw[str_size];omega) (by omega)
         rw[bts_str]at hwr;have HWr:=hid hwr;obtain⟨cs0,hbk⟩:=hLc.blk;have HBl0:=hid hbk;have HFc:=hid hFc;have HSc:=hid hSc;have HBegc:=hid hBegc;have HCt:=hid hct;rw[errD_zero];clear hwr hbk hLc hFc hSc hBegc hct
         go_wp2_with fail
         refine HWr.out.mono ?_;clear HWr;rintro e w12 ⟨rfl,hL12,hbw⟩;have hF12:=HFc.out.wrote hbw HBl0.out;have hS12:=hbw.blk HSc.out (by omega) (by decide)
         have hD12:=hbw.blk HDc.out (by omega) (by decide)
         have hBeg12:=own_wrote HBegc.out hbw HBl0.out (by decide) (by decide)
         have HB12:=hid (HBk.out.trans hbw.below);have hz12:=hbw.below.size;have HL12:=hid hL12;have HF12:=hid hF12;have hpN:p < N:=by have:=HN.out;omega
         have hE0:swE S kd off (argOf f tx) mk=0:=by rw[←HEa.out];exact HE.out.symm
         clear hbw hL12 hF12
         by_cases hk45:kd=4∨kd=5
         ·obtain⟨i,hi,hI',hT',ho⟩:=sw_push (rec:=sayN S f d) (x:=(⟨kd,tx,off,cs⟩:NdF (Nd d))) hE0 hk45 (HNe.out hk45);dsimp only at hI' hT';have hIi:I=(i:Int):=by rw[HI.out,HEa.out,HKs'.out];exact hI'
          have hTi:T=[]:=by rw[HT.out,HEa.out];exact hT'
          subst hIi;subst hTi;obtain⟨b,e,hb1,hb2,hpb,hbN,hlaid⟩:=HPu.out i hi M;obtain⟨gB,capB,huB,hgB,hiB,q0⟩:=natAt hBeg12 hb1;injection huB with huB1 _ _;subst huB1;have q1:=natCell hBeg12 hb2;have hiB2:=(List.getElem?_eq_some_iff.1 hb2).1;have hbl2:=HBll.out;have hkl2:=HKl.out.1;have j1:(0:Int)≤(i:Int):=Int.natCast_nonneg i;have j2:(i:Int)+1 < (bl.length:Int):=by omega
          have j3:(i:Int) < (bl.length:Int):=by omega
          have j4:(bl.length:Int)≤10000001:=by omega
          have j5:((i:Int)+1).toNat=i+1:=by omega
          have j6:¬((i:Int) < 0):=by omega
          have j7:IntKind.i64.wrap ((i:Int)+1)=(i:Int)+1:=by rw[IntKind.wrap_i64];omega
          have j8:(0:Int)≤(i:Int)+1:=by omega
          obtain⟨W13,eW13⟩:∃ W,W=(w12.alloc (.cells #[.int .i64 (e:Int),.int .i64 (fin:Int),.int .i64 M.coef,.int .i64 M.scale] 122)).drew:=⟨_,rfl⟩;have hb13:Below w12.heap.size w12 W13:=by rw[eW13];exact((Below.refl _ _).alloc (Nat.le_refl _) _).drew
          have hn13:∀ q u,(Frm.row ⟨e,fin,M⟩)[q]? =some u→W13.cell? ⟨w12.heap.size,0+q,none⟩=some u:=by rw[eW13];exact frm_news w12 _ _ _ _
          have hF13:=HF12.out.on hb13;have hS13:=hS12.below hb13 hS12.lt;have hD13:=hD12.below hb13 hD12.lt;have hBeg13:=own_below hBeg12 hb13 (Nat.le_refl _);have p4:=(hS12.cell 4).trans (show _=some (.slice (some ⟨gB,0,none⟩) bl.length uc)from rfl);have p5:=(hS12.cell 5).trans (show _=some (.int .i64 (fin:Int))from rfl);have d0:=(hD12.cell 0).trans (show _=some (.int .i64 M.coef)from rfl);have d1:=(hD12.cell 1).trans (show _=some (.int .i64 M.scale)from rfl);have p4d:w12.drew.cell? ⟨wl.heap.size+1,4,none⟩=some (.slice (some ⟨gB,0,none⟩) bl.length uc):=p4;have p5d:w12.drew.cell? ⟨wl.heap.size+1,5,none⟩=some (.int .i64 (fin:Int)):=p5;have d0d:w12.drew.cell? ⟨wl.heap.size+3,0,none⟩=some (.int .i64 M.coef):=d0;have d1d:w12.drew.cell? ⟨wl.heap.size+3,1,none⟩=some (.int .i64 M.scale):=d1;have q1d:w12.drew.cell? ⟨gB,i+1,none⟩=some (.int .i64 (e:Int)):=q1;have p4D:(w12.alloc (.cells #[.int .i64 (e:Int),.int .i64 (fin:Int),.int .i64 M.coef,.int .i64 M.scale] 122)).drew.cell? ⟨wl.heap.size+1,4,none⟩=some (.slice (some ⟨gB,0,none⟩) bl.length uc):=by rw[←eW13];exact(hS13.cell 4).trans rfl
          have p5D:(w12.alloc (.cells #[.int .i64 (e:Int),.int .i64 (fin:Int),.int .i64 M.coef,.int .i64 M.scale] 122)).drew.cell? ⟨wl.heap.size+1,5,none⟩=some (.int .i64 (fin:Int)):=by rw[←eW13];exact(hS13.cell 5).trans rfl
          have d0D:(w12.alloc (.cells #[.int .i64 (e:Int),.int .i64 (fin:Int),.int .i64 M.coef,.int .i64 M.scale] 122)).drew.cell? ⟨wl.heap.size+3,0,none⟩=some (.int .i64 M.coef):=by rw[←eW13];exact(hD13.cell 0).trans rfl
          have d1D:(w12.alloc (.cells #[.int .i64 (e:Int),.int .i64 (fin:Int),.int .i64 M.coef,.int .i64 M.scale] 122)).drew.cell? ⟨wl.heap.size+3,1,none⟩=some (.int .i64 M.scale):=by rw[←eW13];exact(hD13.cell 1).trans rfl
          have q1D:(w12.alloc (.cells #[.int .i64 (e:Int),.int .i64 (fin:Int),.int .i64 M.coef,.int .i64 M.scale] 122)).drew.cell? ⟨gB,i+1,none⟩=some (.int .i64 (e:Int)):=by rw[←eW13];exact natCell hBeg13 hb2
          obtain⟨FF,hFF⟩:∃ FF,FF=(⟨tl,nx,mk⟩::F:List Frm):=⟨_,rfl⟩;rw[←hFF]at hF13;have HF13:Hid (W13.ownsRow kb 122 4 (.slice (some ⟨g,0,none⟩) (L+1) cap) FF.length (flatFr FF.reverse)):=hid hF13;have HFF':Hid (FF=(⟨tl,nx,mk⟩::F:List Frm)):=hid hFF;have hFL:FF.length=L+1:=by rw[hFF,List.length_cons,←HLe.out]
          have HS13:=hid hS13;have HD13:=hid hD13;have HBeg13:=hid hBeg13;have HN13:=hid hn13;have HW13:=hid eW13;have HB13:=hid (HB12.out.trans (hb13.mono (by omega)))
          have HL13:=hid (HL12.out.on hb13);have hz13:=hb13.size;have HNum:Hid (FF.length+1≤maxLen∧(FF.length+1)*32≤140737488355328∧kb≤W13.heap.size):=hid (by
           unfold maxLen;exact⟨by omega,by omega,by omega⟩)
          have HFL:=hid hFL;clear hFF hFL;have HB1':=hid hb1;have HB2':=hid hb2;have hco2:costK 1048576 (⟨d,(casesR (⟨kd,tx,off,cs⟩:NdF (Nd d)))[i].2,M⟩::⟨d+1,r,mk⟩::K')+1048576≤costK 1048576 (⟨d+1,((⟨kd,tx,off,cs⟩:NdF (Nd d))::r:List (NdF (Nd d))),mk⟩::K'):=costK_push (x:=(⟨kd,tx,off,cs⟩:NdF (Nd d))) (casesR_sub (List.getElem_mem hi));have HCo2:Hid ((acc++[]).length+costK 1048576 (⟨d,(casesR (⟨kd,tx,off,cs⟩:NdF (Nd d)))[i].2,M⟩::⟨d+1,r,mk⟩::K')≤1048576*1048576):=hid (by
           have:=HCo.out;rw[List.append_nil];omega)
          have HRe2:Hid (sr.1=(acc++[])++(sayK S f (⟨d,(casesR (⟨kd,tx,off,cs⟩:NdF (Nd d)))[i].2,M⟩::⟨d+1,r,mk⟩::K')).1∧sr.2=(sayK S f (⟨d,(casesR (⟨kd,tx,off,cs⟩:NdF (Nd d)))[i].2,M⟩::⟨d+1,r,mk⟩::K')).2):=hid (by
           rw[sayK_push (x:=(⟨kd,tx,off,cs⟩:NdF (Nd d))) (by rw[HM'.out,HEa.out];exact ho),List.append_nil]
           exact HRe.out)
          have HKg2:Hid (∀ k∈(⟨d,(casesR (⟨kd,tx,off,cs⟩:NdF (Nd d)))[i].2,M⟩:Kt)::⟨d+1,r,mk⟩::K',KGo 1048576 k):=hid fun k hk=>by
           rcases List.mem_cons.1 hk with rfl|hk
           ·exact HGo.out.body hk45 (casesR_sub (List.getElem_mem hi)) M
           ·rcases List.mem_cons.1 hk with rfl|hk
            ·exact HGo.out.rest mk
            ·exact HKg.out k (List.mem_cons_of_mem _ hk)
          have HLa2:=hid hlaid;have HPb:=hid hpb;have HbN:Hid (b≤N):=hid (by omega)
          clear hb13 hn13 hF13 hS13 hD13 hBeg13 eW13 hb1 hb2 hco2 hlaid hpb hbN ho hI' hT' hE0 hS12 hD12 hBeg12 hbl2 hkl2
          go_wp2_with fail
          go_region_held3 (fun w'=>w'.cell? ⟨wl.heap.size+1,4,none⟩=some (.slice (some ⟨gB,0,none⟩) bl.length uc)∧w'.cell? ⟨gB,i+1,none⟩=some (.int .i64 (e:Int))∧w'.cell? ⟨wl.heap.size+1,5,none⟩=some (.int .i64 (fin:Int))∧w'.cell? ⟨wl.heap.size+3,0,none⟩=some (.int .i64 M.coef)∧w'.cell? ⟨wl.heap.size+3,1,none⟩=some (.int .i64 M.scale))
           (first
             | (with_reducible exact⟨p4E,q1E,p5E,d0E,d1E⟩)
             | (with_reducible exact⟨p4D,q1D,p5D,d0D,d1D⟩)
             | (with_reducible exact⟨p4d,q1d,p5d,d0d,d1d⟩)
             | (with_reducible exact⟨p4,q1,p5,d0,d1⟩))
           (first
             | (rw[←HW13.out]
                refine step_append_ownN (by rfl) _ _ 123 (by rfl) kb 122 Tryz.underlying123 info_frame rfl (by decide) (flatFr FF.reverse) (by rfl) HF13.out (Frm.row ⟨e,fin,M⟩) (by rfl) (by rfl) (.inr ⟨_,_,rfl,HN13.out⟩) (by simp[Frm.row,Value.oneCell']) HNum.out.1 HNum.out.2.1 HNum.out.2.2 ?_
                intro v14 w14 hown14 hgrow14 _;have hF14:=FRow.push hown14;obtain⟨A14,c14,hv14,_⟩:=own_slice hF14;subst hv14;have HF14:=hid hF14;have hS14:=(hgrow14.block _ HS13.out.lt fun e=>own_ne HF13.out HS13.out (by decide) e.symm).trans HS13.out
                have hD14:=(hgrow14.block _ HD13.out.lt fun e=>own_ne HF13.out HD13.out (by decide) e.symm).trans HD13.out
                have hBeg14:=own_keep HBeg13.out fun k hk hlt=>hgrow14.block k hlt fun e=>own_type HF13.out HBeg13.out (by decide) e.symm hk
                have p4E:=(Blk.cell hS14 4).trans (show _=some (.slice (some ⟨gB,0,none⟩) bl.length uc)from rfl);have p5E:=(Blk.cell hS14 5).trans (show _=some (.int .i64 (fin:Int))from rfl);have d0E:=(Blk.cell hD14 0).trans (show _=some (.int .i64 M.coef)from rfl);have d1E:=(Blk.cell hD14 1).trans (show _=some (.int .i64 M.scale)from rfl);have q1E:=natCell hBeg14 HB2'.out;have q0E:=natCell hBeg14 HB1'.out;have HL14:=hid (HL13.out.grew (F:=FF) HF13.out hgrow14);have HB14:=hid (HB13.out.grown hgrow14 HNum.out.2.2 (fun k hk=>(own_lt HF13.out hk).1));clear hown14 hgrow14 hF14 hS14 hD14 hBeg14))
          go_wp2_with fail
          go_roundw
          case rel=>
           have hFl:=HLe.out;have HM2:=HM.out;have h1:=HPb.out;have h2:=HbN.out;exact⟨b,_,⟨e,fin,M⟩,FF,acc++[],by go_num,HF14.out,HL14.out,HB14.out,by rw[HFF'.out];exact HLa2,HKg2,HCo2,HRe2,by have:=HFL.out;omega⟩
          case measure=>
           have hFl:=HLe.out;have h1:=HPb.out;have h2:=HbN.out;have h3:=HFL.out;show 2*(N - ((b:Int)).toNat)+(FF.length+1) < 2*(N - ((p:Int)).toNat)+(L+1);omega
         ·obtain⟨ho,hI',hc⟩:=sw_flat (rec:=sayN S f d) (x:=(⟨kd,tx,off,cs⟩:NdF (Nd d))) HKd.out hE0 (fun h=>hk45 (.inl h)) (fun h=>hk45 (.inr h));dsimp only at hI';have hIi:I= -1:=by rw[HI.out,HEa.out,HKs'.out];exact hI'
          have hTi:swT kd tx (argOf f tx) mk=T:=by rw[HT.out,HEa.out]
          subst hIi;have HLa2:=hid (HFl.out hc);have HRe2:Hid (sr.1=(acc++T)++(sayK S f (⟨d+1,r,mk⟩::K')).1∧sr.2=(sayK S f (⟨d+1,r,mk⟩::K')).2):=hid (by
           have h1:=HRe.out;rw[sayK_on (by rw[ho])]at h1
           rw[ho]at h1;dsimp only at h1;rw[hTi]at h1;rw[List.append_assoc];exact h1)
          have HKg2:Hid (∀ k∈(⟨d+1,r,mk⟩:Kt)::K',KGo 1048576 k):=hid fun k hk=>by
           rcases List.mem_cons.1 hk with rfl|hk
           ·exact HGo.out.rest mk
           ·exact HKg.out k (List.mem_cons_of_mem _ hk)
          have HCo2:Hid ((acc++T).length+costK 1048576 (⟨d+1,r,mk⟩::K')≤1048576*1048576):=hid (by
           have:=HCt.out;rw[List.length_append];omega)
          have hFl:=HLe.out;have HM2:=HM.out;clear hS12 hD12 hBeg12 ho hI' hc hTi hE0
          go_wp2_with fail
          go_roundw
          case rel=>
           exact⟨p+1,⟨d+1,r,mk⟩::K',⟨tl,nx,mk⟩,F,acc++T,by go_num,HF12.out,HL12.out,HB12.out,HLa2,HKg2,HCo2,HRe2,by omega⟩
          case measure=>
           show 2*(N - ((p:Int)+1).toNat)+(L+1) < 2*(N - ((p:Int)).toNat)+(L+1);omega
        ·have HP:Hid (po=([],E)):=hid (by
          have h1:=HRe.out.2;have h2:swE S kd off (argOf f tx) mk≠0:=by rw[←HEa.out,←HE.out];exact hE0
          have h3:=sw_bad (rec:=sayN S f d) (x:=(⟨kd,tx,off,cs⟩:NdF (Nd d))) h2;have h4:(oneO (sayN S f d) S f (⟨kd,tx,off,cs⟩:NdF (Nd d)) mk).2≠0:=by rw[h3];exact h2
          rw[sayK_bad h4,h3]at h1;have h5:sr.2=E:=by rw[h1,HE.out,HEa.out]
          rw[HEq.out,if_neg (by decide),if_pos (by rw[h5];exact hE0),h5])
         rw[errD_ne hE0]
         go_wp2_with fail
         go_ret2
         exact⟨by rw[HP.out,errD_ne hE0];rfl,HBo.out.trans (HBk.out.mono hwk)⟩
 ·have HP:Hid (po=([],fr)):=hid (by rw[HEq.out,if_pos h0])
  rw[errV_ne h0];clear HEq
  go_wp2_with fail
  go_ret2
  exact⟨by rw[HP.out,errD_ne h0];rfl,HBw1.out⟩
end Go.Proofs.YtpfmmbbggcghiaaGreatDoor
