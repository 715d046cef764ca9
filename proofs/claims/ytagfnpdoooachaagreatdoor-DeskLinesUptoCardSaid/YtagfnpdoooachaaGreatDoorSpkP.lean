/- names.Fits. -/
import Derived.Test.YtagfnpdoooachaaGreatDoorFitP
set_option linter.unusedSimpArgs false
set_option linter.unusedVariables false
namespace Go.Proofs.YtagfnpdoooachaaGreatDoor
open Go.RowKit Go.Maps
open Lib (hid)
theorem OwnsV.same {w:World} {b n:Nat} {f g:ByteArray→Option Value} (h:OwnsV w b n f) (e:∀ s,g s=f s):OwnsV w b n g:=by
 have:g=f:=funext e;rwa[this]
theorem putV_bool (f:KMap) (k:ByteArray) (b:Bool) (s:ByteArray):(putB f k b s).map Value.bool=putV (fun s=>(f s).map Value.bool) k (.bool b) s:=by
 unfold putB putV;split <;> rfl
theorem argE_step (a:ArgV) (r:List ArgV) (f:KMap):(nameR a.name=false→argE (a::r) f=3)∧(nameR a.name=true∧a.isNum=true∧¬ a.num.ok→argE (a::r) f=1)∧
 (nameR a.name=true∧(a.isNum=true→a.num.ok)→(f a.name).isSome=true→argE (a::r) f=5)∧(nameR a.name=true∧(a.isNum=true→a.num.ok)→(f a.name).isSome=false→argE (a::r) f=argE r (putB f a.name a.isNum)):=by
 have e:argE (a::r) f=if nameR a.name=false then 3 else if a.isNum=true∧¬ a.num.ok then 1 else if(f a.name).isSome=true then 5 else argE r (putB f a.name a.isNum):=rfl
 refine⟨fun h=> ?_,fun h=> ?_,fun h k=> ?_,fun h k=> ?_⟩
 ·rw[e,if_pos h]
 ·rw[e,if_neg (by rw[h.1];decide),if_pos h.2]
 ·rw[e,if_neg (by rw[h.1];decide),if_neg (fun q=>q.2 (h.2 q.1)),if_pos k]
 ·rw[e,if_neg (by rw[h.1];decide),if_neg (fun q=>q.2 (h.2 q.1)),if_neg (by rw[k];decide)]
set_option maxHeartbeats 12800000 in
set_option maxRecDepth 100000 in
theorem fits_any (n:Nat) (m:List (Nd n)) (v:Value) (lo:Nat) (args:List ArgV) (vA:Value) (loA:Nat) (w:World) (hm:MsgIn n m) (hc:cntN n m≤10000000) (hv:ListOk (Enc.node n) w lo w.heap.size v m) (hV:MV w)
 (hA:ListOk Enc.argV w loA w.heap.size vA args) (ha:args.length≤1000000) (hs:Hid (∀ a∈args,a.name.size≤1000000000)):
 Calls Tryz.prog 83 #[v,vA] w fun e w'=>e=.returned (errV (fitsR n m args))∧Below w.heap.size w w':=by
 obtain⟨A,c,rfl,_⟩:=hA.form;have HOf:=hid (of_any n m v lo w hm hc hv hV);have HNs:=hid (ofR_names n m hm);have hln:=ofR_len n m hc;have HAr:Hid (∀ W,Below w.heap.size w W→ListOk Enc.argV W loA w.heap.size (.slice A args.length c) args):=hid fun W hW=>hA.below Enc.argV_laws hW;have HF0:Hid ((ofR n m).1≠0→fitsR n m args=(ofR n m).1):=hid fun h=>if_pos h;have HF1:Hid ((ofR n m).1=0→argE args (fun _=>none)≠0→fitsR n m args=argE args (fun _=>none)):=hid fun h k=>(if_neg (by rw[h];decide)).trans (if_pos k)
 have HF2:Hid ((ofR n m).1=0→argE args (fun _=>none)=0→fitsR n m args=needE (ofR n m).2 (argM args fun _=>none)):=hid fun h k=>(if_neg (by rw[h];decide)).trans (if_neg (by rw[k];decide))
 have HVm:=hid hV;generalize fitsR n m args=fr at *;generalize ofR n m=R at *;obtain⟨f,L⟩:=R;dsimp only at HOf HNs hln HF0 HF1 HF2;have hmm:=@run_makeMap Tryz.prog;have HZb:Hid (∀ W,(zeroValue 4).run Tryz.prog W=.ok (.bool false) W):=hid fun _=>by kernel_rfl
 clear hv hA hm hc hV
 go_enter Tryz.func83,Tryz.ntmps83
 go_wp2_with fail
 refine HOf.out.mono ?_;clear HOf;rintro e w2 ⟨hb2,u,rfl,hrow⟩;obtain⟨UA,Uc,rfl,_⟩:=own_slice hrow
 by_cases hf:f=0
 ·subst hf;have HFit:Hid (argE args (fun _=>none)≠0→fr=argE args (fun _=>none)):=hid (HF1.out rfl);have HFt2:Hid (argE args (fun _=>none)=0→fr=needE L (argM args fun _=>none)):=hid (HF2.out rfl);have HB2:=hid hb2;have HRow:=hid hrow;have hs2:=hb2.size;have HO0:Hid (OwnsV (w2.alloc (.map #[] 0)) w2.heap.size 0 (fun s=>((argM ([]:List ArgV) fun _=>none) s).map Value.bool)):=hid (OwnsV.made w2);have HB20:Hid (Below w2.heap.size w2 (w2.alloc (.map #[] 0))):=hid ((Below.refl _ _).alloc (Nat.le_refl _) _);rw[errV_zero];clear HF0 HF1 HF2 hb2 hrow;obtain⟨mb,hmbe⟩:∃ mb,mb=w2.heap.size:=⟨_,rfl⟩;have hmb:w2.heap.size≤mb:=by omega
  rw[←hmbe]at HO0;have HMe:=hid hmbe
  go_wp2_with fail
  rw[←HMe.out];clear hmbe
  go_loopw [28] (fun i wr=>∃(j cnt:Nat),j≤args.length∧cnt≤j∧i=.int .i64 (j:Int)∧Hid (argE args (fun _=>none)=argE (args.drop j) (argM (args.take j) fun _=>none))∧OwnsV wr mb cnt (fun s=>((argM (args.take j) fun _=>none) s).map Value.bool)∧Below w2.heap.size w2 wr) (fun i _=>args.length - (intOf i).toNat)
  case atStart=>exact⟨0,0,Nat.zero_le _,Nat.le_refl _,rfl,hid rfl,HO0.out,HB20.out⟩
  case round=>
   clear HO0 HB20;obtain⟨j,cnt,hj,hcnt,rfl,HAe,hown,hb⟩:=hrel;obtain⟨wo,rfl⟩:∃ wo:World,wo=wr:=⟨_,rfl⟩;have HO:=hid hown;have HB:=hid hb;have HBw:=hid (HB2.out.trans (hb.mono hs2))
   by_cases hlt:j < args.length
   ·have i1:(0:Int)≤(j:Int):=Int.natCast_nonneg j;have i2:(j:Int) < (args.length:Int):=by omega
    obtain⟨b1,o1,rfl,_,_,x0,x1,x2,x3,x4⟩:=(HAr.out _ HBw.out).argVAt j hlt;have HSn:=hid (argM_snoc args (fun _=>none) j hlt);have hsz0:=hs.out _ (List.getElem_mem hlt);have hdr:args.drop j=args[j]::args.drop (j+1):=List.drop_eq_getElem_cons hlt;have hst:=argE_step args[j] (args.drop (j+1)) (argM (args.take j) fun _=>none);rw[←hdr,←HAe.out]at hst;have HStep:=hid hst;obtain⟨x,hx⟩:∃ x,x=((argM (args.take j) fun _=>none) args[j].name).isSome:=⟨_,rfl⟩;have HKe:Hid ((((argM (args.take j) fun _=>none) args[j].name).map Value.bool).isSome=x∧∃ y,(((argM (args.take j) fun _=>none) args[j].name).map Value.bool).getD (.bool false)=.bool y):=hid (by
     rw[hx];cases(argM (args.take j) fun _=>none) args[j].name with
     | none=>exact⟨rfl,false,rfl⟩
     | some b=>exact⟨rfl,b,rfl⟩)
    rw[←hx]at HStep;obtain⟨hk1,y,hk2⟩:=HKe.out;have HKe:Hid ((((argM (args.take j) fun _=>none) args[j].name).map Value.bool).getD (.bool false)=.bool y∧(((argM (args.take j) fun _=>none) args[j].name).map Value.bool).isSome=x):=hid ⟨hk2,hk1⟩;clear hown hb hdr hst hx hk1 hk2 HAe;generalize args[j]=a at *;obtain⟨nm,isn,⟨co,sc⟩,tx⟩:=a;dsimp only at x0 x1 x2 x3 x4 HSn hsz0 HStep HKe;have hsz:nm.size≤maxLen:=by unfold maxLen;omega
    obtain⟨W3,eW3⟩:∃ W3,W3=wo.alloc (.cells #[.string nm,.bool isn,.int .i64 co,.int .i64 sc,.string tx] 145):=⟨_,rfl⟩;have mk3:Blk W3 wo.heap.size 145 #[.string nm,.bool isn,.int .i64 co,.int .i64 sc,.string tx]:=by rw[eW3];exact Blk.new _ _ _
    have hb3:Below wo.heap.size wo W3:=by rw[eW3];exact(Below.refl _ _).alloc (Nat.le_refl _) _
    have HN3:=hid (name_any nm W3);have HB3:=hid hb3;have MK3:=hid mk3;have EW:=hid eW3;have hmlt:=HO.out.lt;clear eW3 mk3 hb3;generalize hnr:nameR nm=nr at *;clear hnr
    go_upto_region 8 with fail
    rw[←EW.out];have k0:=(MK3.out.cell 0).trans (show _=some (.string nm)from rfl);clear EW x0 x1 x2 x3 x4
    go_wp2_with fail
    refine HN3.out.mono ?_;clear HN3 k0;rintro e w4 ⟨rfl,hb4⟩;have hb34:Below wo.heap.size wo w4:=HB3.out.trans (hb4.mono HB3.out.size);have HB4:=hid hb34;have MK4:=hid (MK3.out.below hb4 MK3.out.lt);have HO4:=hid (HO.out.below hb34 hmlt);have HB24:=hid (HB.out.trans (hb34.mono HB.out.size));have HBw4:=hid (HB2.out.trans (HB24.out.mono hs2));clear hb4 hb34 MK3 HB3;cases nr with
    | false=>
      have HR:Hid (argE args (fun _=>none)=3):=hid (HStep.out.1 rfl);clear HStep
      go_wp2_with fail
      go_ret
      exact⟨by rw[HFit.out (by rw[HR.out];decide),HR.out];rfl,HBw4.out⟩
    | true=>
      have d0:=(MK4.out.cell 0).trans (show _=some (.string nm)from rfl);have d1:=(MK4.out.cell 1).trans (show _=some (.bool isn)from rfl);have d2:=(MK4.out.cell 2).trans (show _=some (.int .i64 co)from rfl);have d3:=(MK4.out.cell 3).trans (show _=some (.int .i64 sc)from rfl);cases isn with
      | false=>
        have HOw:=HO4;have HBx:=HBw4;have HB2x:=HB24;have hlk:=HOw.out.look_ok (t:=191) (e:=4) Tryz.underlying191 (HZb.out w4) hsz;rw[HKe.out.1,HKe.out.2]at hlk
        by_cases hin:x=true
        ·subst hin;have HR:Hid (argE args (fun _=>none)=5):=hid (HStep.out.2.2.1 ⟨by first|rfl|trivial,fun h=>by cases h⟩ (by first|rfl|trivial))
         clear HStep
         go_wp2_with fail
         go_ret
         exact⟨by rw[HFit.out (by rw[HR.out];decide),HR.out];rfl,HBx.out⟩
        ·have hxf:x=false:=by simpa using hin
         subst hxf;have HN:Hid (argE args (fun _=>none)=argE (args.drop (j+1)) (putB (argM (args.take j) fun _=>none) nm false)):=hid (HStep.out.2.2.2 ⟨by first|rfl|trivial,fun h=>by cases h⟩ (by first|rfl|trivial))
         clear HStep hin
         go_wp2_with (at_mapUpdate;refine wpList_update_V rfl _ _ _ 191 4 rfl Tryz.underlying191 mb cnt _ rfl HOw.out (by unfold maxLen;omega) nm (.bool false) rfl rfl hsz ?_)
         intro w7 hown7 hg7;have HO7:=hid hown7;have HB7:=hid (HB2x.out.grown hg7 HB2x.out.size (fun k e=>by cases e;exact hmb))
         clear hown7 hg7 hlk
         go_wp2_with fail
         go_roundw
         case rel=>
          refine⟨j+1,cnt+1,by omega,by omega,by go_num,?_,?_,HB7.out⟩
          ·rw[HSn.out];exact HN
          ·rw[HSn.out];exact HO7.out.same (fun s=>putV_bool _ _ _ s)
         case measure=>simp[intOf];omega
      | true=>
        have HCk:Hid (Calls Tryz.prog 53 #[.agg #[.int .i64 co,.int .i64 sc]] w4 fun e w'=>e=.returned (errD (checkD ⟨co,sc⟩))∧Below w4.heap.size w4 w'):=hid (checkD_any ⟨co,sc⟩ w4)
        go_wp2_with fail
        refine HCk.out.mono ?_;clear HCk d0 d1 d2 d3;rintro e w5 ⟨rfl,hb5⟩;have MK5:=hid (MK4.out.below hb5 MK4.out.lt);have HOw:=hid (HO4.out.below hb5 HO4.out.lt);have HB2x:=hid (HB24.out.trans (hb5.mono HB24.out.size));have HBx:=hid (HB2.out.trans (HB2x.out.mono hs2));have d0:=(MK5.out.cell 0).trans (show _=some (.string nm)from rfl);have d1:=(MK5.out.cell 1).trans (show _=some (.bool true)from rfl);clear hb5 MK4 HO4 HB24 HBw4
        by_cases hok:DecV.ok ⟨co,sc⟩
        ·rw[checkD_ok hok,errD_zero];have HOk:=hid hok;clear hok;have hlk:=HOw.out.look_ok (t:=191) (e:=4) Tryz.underlying191 (HZb.out w5) hsz;rw[HKe.out.1,HKe.out.2]at hlk
         by_cases hin:x=true
         ·subst hin;have HR:Hid (argE args (fun _=>none)=5):=hid (HStep.out.2.2.1 ⟨by first|rfl|trivial,fun _=>HOk.out⟩ (by first|rfl|trivial))
          clear HStep
          go_wp2_with fail
          go_ret
          exact⟨by rw[HFit.out (by rw[HR.out];decide),HR.out];rfl,HBx.out⟩
         ·have hxf:x=false:=by simpa using hin
          subst hxf;have HN:Hid (argE args (fun _=>none)=argE (args.drop (j+1)) (putB (argM (args.take j) fun _=>none) nm true)):=hid (HStep.out.2.2.2 ⟨by first|rfl|trivial,fun _=>HOk.out⟩ (by first|rfl|trivial))
          clear HStep hin
          go_wp2_with (at_mapUpdate;refine wpList_update_V rfl _ _ _ 191 4 rfl Tryz.underlying191 mb cnt _ rfl HOw.out (by unfold maxLen;omega) nm (.bool true) rfl rfl hsz ?_)
          intro w7 hown7 hg7;have HO7:=hid hown7;have HB7:=hid (HB2x.out.grown hg7 HB2x.out.size (fun k e=>by cases e;exact hmb))
          clear hown7 hg7 hlk
          go_wp2_with fail
          go_roundw
          case rel=>
           refine⟨j+1,cnt+1,by omega,by omega,by go_num,?_,?_,HB7.out⟩
           ·rw[HSn.out];exact HN
           ·rw[HSn.out];exact HO7.out.same (fun s=>putV_bool _ _ _ s)
          case measure=>simp[intOf];omega
        ·have HR:Hid (argE args (fun _=>none)=1):=hid (HStep.out.2.1 ⟨by first|rfl|trivial,by first|rfl|trivial,hok⟩)
         rw[checkD_no hok,errD_ne (by decide)]
         clear HStep hok
         go_wp2_with fail
         go_ret
         exact⟨by rw[HFit.out (by rw[HR.out];decide),HR.out];rfl,HBx.out⟩
   ·obtain rfl:j=args.length:=by omega
    have et:args.take args.length=args:=List.take_length;have HA0:Hid (argE args (fun _=>none)=0):=hid (by rw[HAe.out,List.drop_length];rfl)
    have HFr:Hid (fr=needE L (argM args fun _=>none)):=hid (HFt2.out HA0.out);rw[et]at HO;generalize argM args (fun _=>none)=F at *;have hmlt:=HO.out.lt;clear et hown hb HAe HA0 HFit HFt2 hs HAr
    go_wp2_with fail
    go_loopw [62] (fun i wq=>∃ k:Nat,k≤L.length∧i=.int .i64 (k:Int)∧Hid (fr=needE (L.drop k) F)∧Below wo.heap.size wo wq) (fun i _=>L.length - (intOf i).toNat)
    case atStart=>exact⟨0,Nat.zero_le _,rfl,HFr,Below.refl _ _⟩
    case round=>
     clear HFr;obtain⟨k,hk,rfl,HNe,hbq⟩:=hrel;have HBq:=hid hbq;have HB2q:=hid (HB.out.trans (hbq.mono HB.out.size));have HBwq:=hid (HB2.out.trans (HB2q.out.mono hs2))
     by_cases hlk:k < L.length
     ·have i1:(0:Int)≤(k:Int):=Int.natCast_nonneg k;have i2:(k:Int) < (L.length:Int):=by omega
      obtain⟨b1,o1,rfl,_,_,x0,x1,x2⟩:=(neds_of_own (lo:=0) (hi:=wr.heap.size) (own_below HRow.out HB2q.out (Nat.le_refl _)) (Nat.zero_le _) (Nat.le_refl _)).nedAt k hlk;have hszn:=HNs.out _ (List.getElem_mem hlk);have hdr:L.drop k=L[k]::L.drop (k+1):=List.drop_eq_getElem_cons hlk;rw[hdr]at HNe;have HOq:=hid (HO.out.below hbq hmlt);clear hdr hbq;generalize L[k]=e at *;obtain⟨e0,e1,e2⟩:=e;dsimp only at x0 x1 x2 hszn;have hlk2:=HOq.out.look_ok (t:=191) (e:=4) (k:=e0) Tryz.underlying191 (HZb.out wr) (by unfold maxLen;omega)
      have hlk3:(Instr.lookup 191 (.map (some mb)) (.string e0) true).run Tryz.prog (wr.alloc (.cells #[.string e0,.bool e1,.bool e2] 194))=.ok (.tuple #[((F e0).map Value.bool).getD (.bool false),.bool ((F e0).map Value.bool).isSome]) (wr.alloc (.cells #[.string e0,.bool e1,.bool e2] 194)):=
       (HOq.out.below ((Below.refl wr.heap.size wr).alloc (Nat.le_refl _) _) HOq.out.lt).look_ok (t:=191) (e:=4) (k:=e0) Tryz.underlying191 (HZb.out _) (by unfold maxLen;omega)
      have HBa:Hid (Below wo.heap.size wo (wr.alloc (.cells #[.string e0,.bool e1,.bool e2] 194))):=hid (HBq.out.alloc HBq.out.size _);have HBwa:Hid (Below w.heap.size w (wr.alloc (.cells #[.string e0,.bool e1,.bool e2] 194))):=hid (HBwq.out.alloc HBwq.out.size _);have HNe2:Hid (fr=if(F e0).isSome=false then 2 else if((e1 && !((F e0).getD false)) || (e2 && (F e0).getD false))=true then 7 else needE (L.drop (k+1)) F):=hid HNe.out
      clear hlk2 HNe HO HOq;cases hF:F e0 with
      | none=>
        rw[hF]at hlk3 HNe2;have HE:Hid (fr=2):=hid (by rw[HNe2.out];rfl)
        have hlk4:(Instr.lookup 191 (.map (some mb)) (.string e0) true).run Tryz.prog (wr.alloc (.cells #[.string e0,.bool e1,.bool e2] 194))=.ok (.tuple #[.bool false,.bool false]) (wr.alloc (.cells #[.string e0,.bool e1,.bool e2] 194)):=hlk3;clear hlk3 HNe2 hF
        go_wp2_with fail
        go_ret
        exact⟨by rw[HE.out];rfl,HBwa.out⟩
      | some y=>
        rw[hF]at hlk3 HNe2;have HE:Hid (fr=if((e1 && !y) || (e2 && y))=true then 7 else needE (L.drop (k+1)) F):=hid HNe2.out
        have hlk4:(Instr.lookup 191 (.map (some mb)) (.string e0) true).run Tryz.prog (wr.alloc (.cells #[.string e0,.bool e1,.bool e2] 194))=.ok (.tuple #[.bool y,.bool true]) (wr.alloc (.cells #[.string e0,.bool e1,.bool e2] 194)):=hlk3;clear hlk3 HNe2 hF;cases e1 <;> cases e2 <;> cases y
        all_goals first
         | (have HEn:Hid (fr=needE (L.drop (k+1)) F):=hid HE.out
            clear HE
            go_wp2_with fail
            go_roundw
            case rel=>exact⟨k+1,by omega,by go_num,HEn,HBa.out⟩
            case measure=>simp[intOf];omega)
         | (have HEn:Hid (fr=7):=hid HE.out
            clear HE
            go_wp2_with fail
            go_ret
            exact⟨by rw[HEn.out];rfl,HBwa.out⟩)
     ·obtain rfl:k=L.length:=by omega
      have HE:Hid (fr=0):=hid (by rw[HNe.out,List.drop_length];rfl)
      clear HNe hbq
      go_wp2_with fail
      go_ret
      exact⟨by rw[HE.out];rfl,HBwq.out⟩
 ·have HE:=hid (HF0.out hf);have HB2:=hid hb2;rw[errV_ne hf];clear HF0 HF1 HF2 hrow hb2
  go_wp2_with fail
  go_ret
  exact⟨by rw[HE.out,errV_ne hf];rfl,HB2.out⟩
end Go.Proofs.YtagfnpdoooachaaGreatDoor
namespace Go.Proofs.YtagfnpdoooachaaGreatDoor
open Go.RowKit
open Lib (hid)
def argZ:ArgV:=⟨⟨#[]⟩,false,⟨0,0⟩,⟨#[]⟩⟩
def argOf (f:ByteArray→Option ArgV) (s:ByteArray):ArgV:=(f s).getD argZ
def bodyAt {β:Type} (cs:List (ByteArray×List β)) (i:Nat):List β:=((cs[i]?).map Prod.snd).getD []
def showT (a:ArgV):List UInt8:=if a.isNum then textD a.num else bts a.text
def oneO {β:Type} (rec:List β→DecV→List UInt8×Int) (s:SetV) (f:ByteArray→Option ArgV) (x:NdF β) (mark:DecV):List UInt8×Int:=
 if x.kind=1 then(bts x.text,0)
 else if x.kind=6 then(numT mark,numE mark)
 else if x.kind=3 then(numT (argOf f x.text).num,numE (argOf f x.text).num)
 else if x.kind=4 then(if caseE s x.off (argOf f x.text).num=0 then rec (bodyAt x.cases (caseB s x.off (argOf f x.text).num (x.cases.map Prod.fst))) (caseL s x.off (argOf f x.text).num)else([],caseE s x.off (argOf f x.text).num))
 else if x.kind=5 then rec (bodyAt x.cases (choF (argOf f x.text).text (x.cases.map Prod.fst) 0 0)) mark
 else(showT (argOf f x.text),0)
theorem bodyAt_get {β:Type} (cs:List (ByteArray×List β)) (i:Nat) (h:i < cs.length):bodyAt cs i=cs[i].2:=by
 unfold bodyAt;rw[List.getElem?_eq_getElem h];rfl
theorem argOf_val (f:ByteArray→Option ArgV) (s:ByteArray):((f s).map ArgV.val).getD (.agg #[.string ByteArray.empty,.bool false,.int .i64 0,.int .i64 0,.string ByteArray.empty])=(argOf f s).val:=by
 unfold argOf;cases f s <;> rfl
theorem caseB_lt (s:SetV) (off:Int) (d:DecV) (keys:List ByteArray) (h:keys≠[]):caseB s off d keys < keys.length:=by
 have h0:=List.length_pos_iff.2 h;unfold caseB;split
 ·exact bestF_lt _ _ keys 0 0 0 _ h0 (by simp)
 ·exact h0
def sayL {β:Type} (one:NdF β→List UInt8×Int):List (NdF β)→List UInt8×Int
 | []=>([],0)
 | x::r=>if(one x).2≠0 then one x else((one x).1++(sayL one r).1,(sayL one r).2)
def sayN (s:SetV) (f:ByteArray→Option ArgV):(n:Nat)→List (Nd n)→DecV→List UInt8×Int
 | 0,_,_=>([],0)
 | n+1,m,mark=>sayL (fun x=>oneO (sayN s f n) s f x mark) (m:List (NdF (Nd n)))
theorem sayL_bad {β:Type} {one:NdF β→List UInt8×Int} {l:List (NdF β)} {j:Nat} (h:j < l.length) (hb:(one l[j]).2≠0):sayL one (l.drop j)=one l[j]:=by
 rw[List.drop_eq_getElem_cons h];exact if_pos hb
theorem sayL_on {β:Type} {one:NdF β→List UInt8×Int} {l:List (NdF β)} {j:Nat} (h:j < l.length) (hb:(one l[j]).2=0):sayL one (l.drop j)=((one l[j]).1++(sayL one (l.drop (j+1))).1,(sayL one (l.drop (j+1))).2):=by
 rw[List.drop_eq_getElem_cons h];exact if_neg (by rw[hb];decide)
def costF {β:Type} (cb:List β→Nat) (C:Nat) (x:NdF β):Nat:=C+(x.cases.map fun c=>cb c.2).sum
def costN (C:Nat):(n:Nat)→List (Nd n)→Nat
 | 0,_=>0
 | n+1,m=>((m:List (NdF (Nd n))).map (costF (costN C n) C)).sum
theorem sum_mul (C:Nat) {α:Type} (f:α→Nat):∀ l:List α,(l.map fun x=>C*f x).sum=C*(l.map f).sum
 | []=>by simp
 | a::l=>by simp only[List.map_cons,List.sum_cons,sum_mul C f l,Nat.mul_add]
theorem costN_le (C:Nat):(n:Nat)→(m:List (Nd n))→costN C n m≤C*(m.map (Enc.node n).bulk).sum
 | 0,_=>Nat.zero_le _
 | n+1,m=>by
   rw[←sum_mul];refine sum_map_le (costF (costN C n) C) (fun x:NdF (Nd n)=>C*(Enc.node (n+1)).bulk x) m fun x _=> ?_;show C+(x.cases.map fun c=>costN C n c.2).sum≤C*(Enc.node (n+1)).bulk x;rw[node_bulk n x];have h1:(x.cases.map fun c=>costN C n c.2).sum≤C*(x.cases.map (Enc.cas (Enc.node n)).bulk).sum:=by
    rw[←sum_mul];refine sum_map_le (fun c:ByteArray×List (Nd n)=>costN C n c.2) _ x.cases fun c _=> ?_;rw[cas_bulk];exact Nat.le_trans (costN_le C n c.2) (Nat.mul_le_mul_left _ (by omega))
   refine Nat.le_trans (Nat.add_le_add_left h1 C) ?_;rw[show C+C*(x.cases.map (Enc.cas (Enc.node n)).bulk).sum=C*(1+(x.cases.map (Enc.cas (Enc.node n)).bulk).sum)from by rw[Nat.mul_add,Nat.mul_one]]
   exact Nat.mul_le_mul_left _ (by omega)
def goodF {β:Type} (G:List β→Prop) (x:NdF β):Prop:=(x.kind=4→0≤x.off∧x.off≤1000)∧(x.kind=4∨x.kind=5→x.cases≠[]∧∀ c∈x.cases,G c.2)
def GoodN:(n:Nat)→List (Nd n)→Prop
 | 0,_=>True
 | n+1,m=>∀ x∈(m:List (NdF (Nd n))),goodF (GoodN n) x
theorem casesM_good {β:Type} {chk:List β→Bool→Int} {kind:Int} {mark:Bool}:∀(cs:List (ByteArray×List β)) (seen:List ByteArray),casesM chk kind mark cs seen=0→∀ c∈cs,chk c.2 (mark || kind == 4)=0
 | [],_,_,c,hc=>by cases hc
 | d::r,seen,h,c,hc=>by
   have e:casesM chk kind mark (d::r) seen=if keyM kind d.1=false then 3 else if seen.any (eqs · d.1)=true then 5 else if chk d.2 (mark || kind == 4)≠0 then chk d.2 (mark || kind == 4)else casesM chk kind mark r (seen++[d.1]):=rfl
   rw[e]at h;split at h
   ·exact absurd h (by decide)
   split at h
   ·exact absurd h (by decide)
   split at h
   ·rename_i h1;exact absurd h h1
   ·rename_i h1
    rcases List.mem_cons.1 hc with rfl|hc
    ·exact Classical.not_not.1 h1
    ·exact casesM_good r _ h c hc
theorem checkM_good {β:Type} {chk:List β→Bool→Int} {mark:Bool} {G:List β→Prop} (hG:∀ b mk,chk b mk=0→G b):∀(m:List (NdF β)) (last:Option Int),checkM chk mark last m=0→∀ x∈m,goodF G x
 | [],_,_,x,hx=>by cases hx
 | y::r,last,h,x,hx=>by
   have e:checkM chk mark last (y::r)=if fineM y.kind y.text last mark=false then 3 else if y.kind=4∧(y.off < 0∨9 < y.off)then 1 else if hasCases y.kind=true∧casesM chk y.kind mark y.cases []≠0 then casesM chk y.kind mark y.cases []else checkM chk mark (some y.kind) r:=by
    cases last <;> rfl
   rw[e]at h;split at h
   ·exact absurd h (by decide)
   split at h
   ·exact absurd h (by decide)
   rename_i h4
   split at h
   ·rename_i h1;exact absurd h h1.2
   rename_i h5
   rcases List.mem_cons.1 hx with rfl|hx
   ·refine⟨fun hk=> ?_,fun hk=> ?_⟩
    ·have h6:¬(x.off < 0∨9 < x.off):=fun hh=>h4 ⟨hk,hh⟩;omega
    ·have hc:hasCases x.kind=true:=by
      unfold hasCases;rcases hk with hk|hk <;> rw[hk] <;> decide
     have h7:casesM chk x.kind mark x.cases []=0:=Classical.not_not.1 fun hh=>h5 ⟨hc,hh⟩;refine⟨fun hn=> ?_,fun c hcm=>hG _ _ (casesM_good _ _ h7 c hcm)⟩;rw[hn]at h7;have h8:casesM chk x.kind mark ([]:List (ByteArray×List β)) []=2:=rfl;rw[h8]at h7;exact absurd h7 (by decide)
   ·exact checkM_good hG r _ h x hx
theorem good_of_check:(n:Nat)→(m:List (Nd n))→(mark:Bool)→checkN n m mark=0→GoodN n m
 | 0,_,_,_=>trivial
 | n+1,m,_,h=>checkM_good (fun b mk hb=>good_of_check n b mk hb) (m:List (NdF (Nd n))) none h
theorem good_of_fits {n:Nat} {m:List (Nd n)} {args:List ArgV} (h:fitsR n m args=0):GoodN n m:=by
 refine good_of_check n m false ?_;unfold fitsR at h;split at h
 ·rename_i h1;exact absurd h h1
 rename_i h1
 have h2:(ofR n m).1=0:=Classical.not_not.1 h1;unfold ofR at h2;split at h2
 ·rename_i h3;exact absurd h2 h3
 rename_i h3
 have h4:checkAll n m=0:=Classical.not_not.1 h3;unfold checkAll at h4;split at h4
 ·exact absurd h4 (by decide)
 ·exact h4
def putA (f:ByteArray→Option ArgV) (a:ArgV):ByteArray→Option ArgV:=fun s=>if s=a.name then some a else f s
def argF (l:List ArgV):ByteArray→Option ArgV:=l.foldl putA fun _=>none
theorem argF_snoc (l:List ArgV) (j:Nat) (h:j < l.length):argF (l.take (j+1))=putA (argF (l.take j)) l[j]:=by
 unfold argF;rw[List.take_succ_eq_append_getElem h,List.foldl_append];rfl
theorem putA_val (f:ByteArray→Option ArgV) (a:ArgV) (s:ByteArray):(putA f a s).map ArgV.val=putV (fun s=>(f s).map ArgV.val) a.name a.val s:=by
 unfold putA putV;split <;> rfl
theorem foldA_mem:∀(l:List ArgV) (f:ByteArray→Option ArgV) (s:ByteArray) (a:ArgV),l.foldl putA f s=some a→a∈l∨f s=some a
 | [],_,_,_,h=>.inr h
 | b::l,f,s,a,h=>by
   rcases foldA_mem l (putA f b) s a h with h|h
   ·exact .inl (List.mem_cons_of_mem _ h)
   ·unfold putA at h;split at h
    ·injection h with h;exact .inl (by rw[h];exact List.mem_cons_self ..)
    ·exact .inr h
theorem argF_mem {l:List ArgV} {s:ByteArray} {a:ArgV} (h:argF l s=some a):a∈l:=by
 rcases foldA_mem l _ s a h with h|h
 ·exact h
 ·cases h
theorem argE_ok:∀(l:List ArgV) (f:KMap),argE l f=0→∀ a∈l,a.isNum=true→a.num.ok
 | [],_,_,a,ha=>by cases ha
 | b::r,f,h,a,ha=>by
   have e:argE (b::r) f=if nameR b.name=false then 3 else if b.isNum=true∧¬ b.num.ok then 1 else if(f b.name).isSome=true then 5 else argE r (putB f b.name b.isNum):=rfl
   rw[e]at h;split at h
   ·exact absurd h (by decide)
   split at h
   ·exact absurd h (by decide)
   rename_i h1
   split at h
   ·exact absurd h (by decide)
   rcases List.mem_cons.1 ha with rfl|ha
   ·intro hn;exact Classical.not_not.1 fun hh=>h1 ⟨hn,hh⟩
   ·exact argE_ok r _ h a ha
theorem fits_args {n:Nat} {m:List (Nd n)} {args:List ArgV} (h:fitsR n m args=0):∀ a∈args,a.isNum=true→a.num.ok:=by
 unfold fitsR at h;split at h
 ·rename_i h1;exact absurd h h1
 split at h
 ·rename_i h1;exact absurd h h1
 rename_i h1
 exact argE_ok args _ (Classical.not_not.1 h1)
structure ArgIn (C:Nat) (f:ByteArray→Option ArgV):Prop where
 size:∀ t,(argOf f t).text.size≤C
 ok:∀ t,(argOf f t).isNum=true→(argOf f t).num.ok
theorem argIn_of {C:Nat} {l:List ArgV} (h:∀ a∈l,a.text.size≤C) (ho:∀ a∈l,a.isNum=true→a.num.ok):ArgIn C (argF l):=by
 constructor
 ·intro t;unfold argOf;cases e:argF l t with
  | none=>exact Nat.zero_le _
  | some a=>exact h a (argF_mem e)
 ·intro t;unfold argOf;cases e:argF l t with
  | none=>intro h;cases h
  | some a=>exact ho a (argF_mem e)
theorem mem_body {β:Type} {cs:List (ByteArray×List β)} {i:Nat} (h:i < cs.length) (cb:List β→Nat):cb (bodyAt cs i)≤(cs.map fun c=>cb c.2).sum:=by
 rw[bodyAt_get cs i h];exact mem_sum (fun c:ByteArray×List β=>cb c.2) cs _ (List.getElem_mem h)
theorem oneO_len {β:Type} {rec:List β→DecV→List UInt8×Int} {cb:List β→Nat} {C:Nat} {s:SetV} {f:ByteArray→Option ArgV} {x:NdF β} {mark:DecV} (hC:400≤C) (ht:x.text.size≤C) (hf:ArgIn C f) {G:List β→Prop} (hx:goodF G x)
 (hr:∀ c∈x.cases,x.kind=4∨x.kind=5→∀ d,(rec c.2 d).1.length≤cb c.2):(oneO rec s f x mark).1.length≤costF cb C x:=by
 have hbl:∀ t:ByteArray,(bts t).length=t.size:=fun t=>bts_len t;have h4:∀ i,i < x.cases.length→x.kind=4∨x.kind=5→∀ d,(rec (bodyAt x.cases i) d).1.length≤(x.cases.map fun c=>cb c.2).sum:=fun i hi hk d=>by
  refine Nat.le_trans ?_ (mem_body hi cb);rw[bodyAt_get x.cases i hi];exact hr _ (List.getElem_mem hi) hk d
 unfold oneO costF;split
 ·show(bts x.text).length≤_;rw[hbl];omega
 split
 ·have:=numT_len mark;show(numT mark).length≤_;omega
 split
 ·have:=numT_len (argOf f x.text).num;show(numT (argOf f x.text).num).length≤_;omega
 split
 ·rename_i hk
  split
  ·have hlt:=caseB_lt s x.off (argOf f x.text).num (x.cases.map Prod.fst) (by
    have:=(hx.2 (.inl hk)).1;intro hh;exact this (List.map_eq_nil_iff.1 hh))
   rw[List.length_map]at hlt;have:=h4 _ hlt (.inl hk) (caseL s x.off (argOf f x.text).num);omega
  ·exact Nat.zero_le _
 split
 ·rename_i hk
  have hne:=(hx.2 (.inr hk)).1;have hlt:choF (argOf f x.text).text (x.cases.map Prod.fst) 0 0 < x.cases.length:=choF_lt _ _ 0 0 _ (List.length_pos_iff.2 hne) (by simp)
  have:=h4 _ hlt (.inr hk) mark;omega
 ·show(showT (argOf f x.text)).length≤_;unfold showT;split
  ·rename_i hn
   have:=textD_len _ (hf.ok x.text hn);omega
  ·rw[hbl];have:=hf.size x.text;omega
theorem sayL_len {β:Type} {one:NdF β→List UInt8×Int} {cx:NdF β→Nat}:∀(m:List (NdF β)),(∀ x∈m,(one x).1.length≤cx x)→(sayL one m).1.length≤(m.map cx).sum
 | [],_=>Nat.zero_le _
 | x::r,h=>by
   have h1:=h x (List.mem_cons_self ..);have h2:=sayL_len r fun y hy=>h y (List.mem_cons_of_mem _ hy);unfold sayL;rw[List.map_cons,List.sum_cons];split
   ·omega
   ·show((one x).1++(sayL one r).1).length≤_;rw[List.length_append];omega
def TextN (C:Nat):(n:Nat)→List (Nd n)→Prop
 | 0,_=>True
 | n+1,m=>∀ x∈(m:List (NdF (Nd n))),x.text.size≤C∧∀ c∈x.cases,TextN C n c.2
theorem textN_of_bulk (C:Nat):(n:Nat)→(m:List (Nd n))→(m.map (Enc.node n).bulk).sum≤C→TextN C n m
 | 0,_,_=>trivial
 | n+1,m,h=>fun x hx=>by
   have h1:=mem_sum (Enc.node (n+1)).bulk m x hx;rw[node_bulk n x]at h1;refine⟨by omega,fun c hc=>textN_of_bulk C n c.2 ?_⟩
   have h2:=mem_sum (Enc.cas (Enc.node n)).bulk x.cases c hc;rw[cas_bulk]at h2;omega
theorem sayN_len {C:Nat} {s:SetV} {f:ByteArray→Option ArgV} (hC:400≤C) (hf:ArgIn C f):(n:Nat)→(m:List (Nd n))→(mark:DecV)→GoodN n m→TextN C n m→(sayN s f n m mark).1.length≤costN C n m
 | 0,_,_,_,_=>Nat.zero_le _
 | n+1,m,mark,hg,ht=>sayL_len (m:List (NdF (Nd n))) fun x hx=>
   oneO_len hC (ht x hx).1 hf (hg x hx) fun c hc hk d=>sayN_len hC hf n c.2 d ((hg x hx).2 hk |>.2 c hc) ((ht x hx).2 c hc)
end Go.Proofs.YtagfnpdoooachaaGreatDoor
