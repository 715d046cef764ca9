/- eval.Case. -/
import Derived.Test.YtagfnpdoooachaaGreatDoorEvlA
set_option linter.unusedSimpArgs false
set_option linter.unusedVariables false
namespace Go.Proofs.YtagfnpdoooachaaGreatDoor
open Go.RowKit
open Lib (hid)
def rankC (d:DecV) (kind key:ByteArray):Nat:=if(decide (0≤exactR key) && sameD d ⟨exactR key,0⟩)=true then 3 else if eqs key kind=true then 2 else if eqs key othB=true then 1 else 0
def bestF (d:DecV) (kind:ByteArray):List ByteArray→Nat→Nat→Nat→Nat
 | [],_,b,_=>b
 | k::r,i,b,q=>if q < rankC d kind k then bestF d kind r (i+1) i (rankC d kind k)else bestF d kind r (i+1) b q
theorem bestF_hit {d:DecV} {kind k:ByteArray} {r:List ByteArray} {i b q:Nat} (h:q < rankC d kind k):bestF d kind (k::r) i b q=bestF d kind r (i+1) i (rankC d kind k):=if_pos h
theorem bestF_miss {d:DecV} {kind k:ByteArray} {r:List ByteArray} {i b q:Nat} (h:¬ q < rankC d kind k):bestF d kind (k::r) i b q=bestF d kind r (i+1) b q:=if_neg h
theorem bestF_lt (d:DecV) (kind:ByteArray):∀(l:List ByteArray) (i b q n:Nat),b < n→i+l.length≤n→bestF d kind l i b q < n
 | [],i,b,q,n,h,_=>h
 | k::r,i,b,q,n,h,hl=>by
   rw[List.length_cons]at hl;unfold bestF;split
   ·exact bestF_lt d kind r (i+1) i _ n (by omega) (by omega)
   ·exact bestF_lt d kind r (i+1) b q n h (by omega)
def caseE (s:SetV) (off:Int) (d:DecV):Int:=if(addD d ⟨-off,0⟩).isSome then kndE s ((addD d ⟨-off,0⟩).getD ⟨0,0⟩)else 1
def caseL (s:SetV) (off:Int) (d:DecV):DecV:=if caseE s off d=0 then(addD d ⟨-off,0⟩).getD ⟨0,0⟩else⟨0,0⟩
def caseB (s:SetV) (off:Int) (d:DecV) (keys:List ByteArray):Nat:=if caseE s off d=0 then bestF d (kndT s ((addD d ⟨-off,0⟩).getD ⟨0,0⟩)) keys 0 0 0 else 0
structure CSt (w:World) (x:Array Value) (s:SetV) (d:DecV) (W:World):Prop where
 below:Below w.heap.size w W
 nod:Blk W w.heap.size 197 x
 set:Blk W (w.heap.size+1) 54 #[.string s.z,.string s.o,.string s.t,.string s.f,.string s.m]
 dec:Blk W (w.heap.size+2) 44 #[.int .i64 d.coef,.int .i64 d.scale]
 res:Blk W (w.heap.size+3) 44 #[.int .i64 0,.int .i64 0]
theorem CSt.on {w W W':World} {x:Array Value} {s:SetV} {d:DecV} (h:CSt w x s d W) (hb:Below W.heap.size W W'):CSt w x s d W':=
 ⟨h.below.trans (hb.mono h.below.size),h.nod.below hb h.nod.lt,h.set.below hb h.set.lt,h.dec.below hb h.dec.lt,h.res.below hb h.res.lt⟩
theorem CSt.made (w:World) (x:Array Value) (s:SetV) (d:DecV):CSt w x s d ((((w.alloc (.cells x 197)).alloc (.cells #[.string s.z,.string s.o,.string s.t,.string s.f,.string s.m] 54)).alloc (.cells #[.int .i64 d.coef,.int .i64 d.scale] 44)).alloc (.cells #[.int .i64 0,.int .i64 0] 44)):=by
 have h1:=Blk.new (w.alloc (.cells x 197)) 54 #[.string s.z,.string s.o,.string s.t,.string s.f,.string s.m];have h2:=Blk.new ((w.alloc (.cells x 197)).alloc (.cells #[.string s.z,.string s.o,.string s.t,.string s.f,.string s.m] 54)) 44 #[.int .i64 d.coef,.int .i64 d.scale];have h3:=Blk.new (((w.alloc (.cells x 197)).alloc (.cells #[.string s.z,.string s.o,.string s.t,.string s.f,.string s.m] 54)).alloc (.cells #[.int .i64 d.coef,.int .i64 d.scale] 44)) 44 #[.int .i64 0,.int .i64 0];rw[World.size_alloc]at h1;rw[World.size_alloc,World.size_alloc]at h2;rw[World.size_alloc,World.size_alloc,World.size_alloc]at h3;exact⟨((((Below.refl _ _).alloc (Nat.le_refl _) _).alloc (by simp) _).alloc (by simp;omega) _).alloc (by simp;omega) _,(((Blk.new _ _ _).alloc _).alloc _).alloc _,(h1.alloc _).alloc _,h2.alloc _,h3⟩
set_option maxHeartbeats 12800000 in
set_option maxRecDepth 100000 in
theorem Case_any {β:Type} {E:Enc β} (hE:E.Laws) (kind off:Int) (text:ByteArray) (cs:List (ByteArray×List β)) (V:Value) (s:SetV) (d:DecV) (lo hi:Nat) (w:World) (hV:ListOk (Enc.cas E) w lo hi V cs) (hh:hi≤w.heap.size) (hl:cs.length≤10000000)
 (hk:Hid (∀ c∈cs,c.1.size≤1000000000)) (ho:0≤off∧off≤1000) (hs:s.small) (hv:EvV w):
 Calls Tryz.prog 179 #[.agg #[.int .i64 kind,.string text,.int .i64 off,V],s.val,d.v] w fun e w'=>e=.returned (.tuple #[.int .i64 (caseB s off d (cs.map Prod.fst):Nat),(caseL s off d).v,errD (caseE s off d)])∧Below w.heap.size w w':=by
 obtain⟨A,c,rfl,_⟩:=hV.form;have hS:=CSt.made w #[.int .i64 kind,.string text,.int .i64 off,.slice A cs.length c] s d;obtain⟨W4,eW4⟩:∃ W4,W4=(((w.alloc (.cells #[.int .i64 kind,.string text,.int .i64 off,.slice A cs.length c] 197)).alloc (.cells #[.string s.z,.string s.o,.string s.t,.string s.f,.string s.m] 54)).alloc (.cells #[.int .i64 d.coef,.int .i64 d.scale] 44)).alloc (.cells #[.int .i64 0,.int .i64 0] 44):=⟨_,rfl⟩;rw[←eW4]at hS;have HV:Hid (∀ W,Below w.heap.size w W→ListOk (Enc.cas E) W lo hi (.slice A cs.length c) cs):=hid fun W hW=>hV.keep (Enc.cas_laws hE) ((Alk.of_below hW).mono (Nat.zero_le _) hh);have HEv:Hid (∀ W,Below w.heap.size w W→EvV W):=hid fun W hW=>hv.below hW;have HAd:Hid (∀ W,Calls Tryz.prog 217 #[.agg #[.int .i64 d.coef,.int .i64 d.scale],.agg #[.int .i64 (-off),.int .i64 0]] W fun e w'=>e=.returned (resD (addD d ⟨-off,0⟩))∧Below W.heap.size W w'):=hid fun W=>addD_any d ⟨-off,0⟩ W;have HKd:Hid (∀ W l,Below w.heap.size w W→Calls Tryz.prog 23 #[.agg #[.string s.z,.string s.o,.string s.t,.string s.f,.string s.m],.agg #[.int .i64 l.coef,.int .i64 l.scale]] W fun e w'=>e=.returned (.tuple #[.string (kndT s l),errD (kndE s l)])∧Below W.heap.size W w'):=hid fun W l hW=>kind_any s l W hs (hv.below hW);have HEx:Hid (∀ W k,Below w.heap.size w W→k.size≤1000000000→Calls Tryz.prog 218 #[.string k] W fun e w'=>e=.returned (.tuple #[.int .i64 (exactR k),.bool (decide (0≤exactR k))])∧Below W.heap.size W w'):=hid fun W k hW hk=>Exact_any k W hk (hv.below hW).mv
 have HSa:Hid (∀ W n,Calls Tryz.prog 219 #[.agg #[.int .i64 d.coef,.int .i64 d.scale],.agg #[.int .i64 n,.int .i64 0]] W fun e w'=>e=.returned (.bool (sameD d ⟨n,0⟩))∧Below W.heap.size W w'):=hid fun W n=>sameD_any d ⟨n,0⟩ W;have HE:Hid (((addD d ⟨-off,0⟩).isSome=true→caseE s off d=kndE s ((addD d ⟨-off,0⟩).getD ⟨0,0⟩))∧((addD d ⟨-off,0⟩).isSome=false→caseE s off d=1)):=hid ⟨fun h=>if_pos h,fun h=>if_neg (by rw[h];decide)⟩
 have HL:Hid ((caseE s off d=0→caseL s off d=(addD d ⟨-off,0⟩).getD ⟨0,0⟩∧caseB s off d (cs.map Prod.fst)=bestF d (kndT s ((addD d ⟨-off,0⟩).getD ⟨0,0⟩)) (cs.map Prod.fst) 0 0 0)∧(caseE s off d≠0→caseL s off d=⟨0,0⟩∧caseB s off d (cs.map Prod.fst)=0)):=
  hid ⟨fun h=>⟨if_pos h,if_pos h⟩,fun h=>⟨if_neg h,if_neg h⟩⟩
 have hkl:(cs.map Prod.fst).length=cs.length:=List.length_map _;have HKl:=hid hkl;have HS:=hid hS;have EW:=hid eW4;have hwo:wrap64 (-off)= -off:=by unfold wrap64;omega
 obtain⟨cb,hcb⟩:∃ x,x=caseB s off d (cs.map Prod.fst):=⟨_,rfl⟩;obtain⟨cl,hcl⟩:∃ x,x=caseL s off d:=⟨_,rfl⟩;obtain⟨ce,hce⟩:∃ x,x=caseE s off d:=⟨_,rfl⟩;rw[←hcb,←hcl,←hce]at HL ⊢;rw[←hce]at HE;have k2:=(hS.nod.cell 2).trans (show _=some (.int .i64 off)from rfl);have d0:=(hS.dec.cell 0).trans (show _=some (.int .i64 d.coef)from rfl);have d1:=(hS.dec.cell 1).trans (show _=some (.int .i64 d.scale)from rfl);unfold SetV.val DecV.v;clear hV hS eW4 hkl hs hv hcb hcl hce ho;generalize addD d ⟨-off,0⟩=ad at*
 go_enter Tryz.func179,Tryz.ntmps179
 go_upto_region 1 with fail
 rw[←EW.out];clear EW
 go_wp2_with fail
 refine(HAd.out _).mono ?_;clear HAd k2 d0 d1;rintro e w5 ⟨rfl,hb5⟩;have HS5:=hid (HS.out.on hb5);clear HS hb5;unfold resD DecV.v;cases ad with
 | none=>
   obtain rfl:ce=1:=HE.out.2 rfl;obtain⟨h1,h2⟩:=HL.out.2 (by decide)
   have HC:=hid (And.intro h1 h2);have h6:=HS5.out.on ((Below.refl w5.heap.size w5).alloc (Nat.le_refl _) (.cells #[.int .i64 0,.int .i64 0] 44));have r0:=(h6.res.cell 0).trans (show _=some (.int .i64 0)from rfl);have r1:=(h6.res.cell 1).trans (show _=some (.int .i64 0)from rfl);have f0:=h6.res.frozen 0;have f1:=h6.res.frozen 1;have HB6:=hid h6.below;clear h1 h2 h6 HE HL HS5;rw[show errD (if(none:Option DecV).isSome=true then 0 else 1)=.iface 27 (.int .i64 1)from rfl,show((none:Option DecV).getD ⟨0,0⟩).coef=0 from rfl,show((none:Option DecV).getD ⟨0,0⟩).scale=0 from rfl]
   go_wp2_with fail
   refine bodyPost_ret (v:=.tuple #[.int .i64 0,.agg #[.int .i64 0,.int .i64 0],.iface 27 (.int .i64 1)]) ?_ rfl ?_
   ·simp[results,Tryz.results179,go_sem,r0,r1,f0,f1]
   ·refine⟨by rw[HC.out.1,HC.out.2];rfl,?_⟩
    repeat' (first|exact HB6.out|refine Below.setCell ?_ (by show w.heap.size≤w.heap.size+3;omega) _)
 | some l=>
   rw[show errD (if(some l:Option DecV).isSome=true then 0 else 1)=.nilIface from rfl,show((some l:Option DecV).getD ⟨0,0⟩).coef=l.coef from rfl,show((some l:Option DecV).getD ⟨0,0⟩).scale=l.scale from rfl]
   have HCe:Hid (ce=kndE s l):=hid (HE.out.1 rfl);have HL2:Hid ((ce=0→cl=l∧cb=bestF d (kndT s l) (cs.map Prod.fst) 0 0 0)∧(ce≠0→cl=⟨0,0⟩∧cb=0)):=hid HL.out;have hb6:Below w5.heap.size w5 (w5.alloc (.cells #[.int .i64 l.coef,.int .i64 l.scale] 44)):=(Below.refl _ _).alloc (Nat.le_refl _) _;have HS6:=hid (HS5.out.on hb6);have ML6:Hid (Blk (w5.alloc (.cells #[.int .i64 l.coef,.int .i64 l.scale] 44)) w5.heap.size 44 #[.int .i64 l.coef,.int .i64 l.scale]):=hid (Blk.new _ _ _);have HK6:=hid (HKd.out _ l HS6.out.below);have k0:=(HS6.out.set.cell 0).trans (show _=some (.string s.z)from rfl);have k1:=(HS6.out.set.cell 1).trans (show _=some (.string s.o)from rfl);have k2:=(HS6.out.set.cell 2).trans (show _=some (.string s.t)from rfl);have k3:=(HS6.out.set.cell 3).trans (show _=some (.string s.f)from rfl);have k4:=(HS6.out.set.cell 4).trans (show _=some (.string s.m)from rfl);clear HE HL hb6 HKd HS5;generalize kndT s l=kt at *;generalize kndE s l=ke at *;obtain rfl:ce=ke:=HCe.out
   go_wp2_with fail
   refine HK6.out.mono ?_;clear HK6 k0 k1 k2 k3 k4;rintro e w7 ⟨rfl,hb7⟩;have HS7:=hid (HS6.out.on hb7);have ML7:=hid (ML6.out.below hb7 ML6.out.lt);clear hb7 HS6 ML6
   by_cases he:ce=0
   ·subst he;obtain⟨h1,h2⟩:=HL2.out.1 rfl;have HCl:=hid h1;have HCb:=hid h2;rw[errD_zero];have x3:=(HS7.out.nod.cell 3).trans (show _=some (.slice A cs.length c)from rfl);clear h1 h2 HL2 HCe
    go_wp2_with fail
    go_loopw [12,13,45] (fun b q i wr=>∃ j bb qq:Nat,j≤cs.length∧qq≤3∧b=.int .i64 (bb:Int)∧q=.int .i64 (qq:Int)∧i=.int .i64 (j:Int)∧Hid (cb=bestF d kt ((cs.map Prod.fst).drop j) j bb qq)∧CSt w #[.int .i64 kind,.string text,.int .i64 off,.slice A cs.length c] s d wr∧Blk wr w5.heap.size 44 #[.int .i64 l.coef,.int .i64 l.scale]) (fun _ _ i _=>cs.length - (intOf i).toNat)
    case atStart=>exact⟨0,0,0,Nat.zero_le _,by decide,rfl,rfl,rfl,HCb,HS7.out,ML7.out⟩
    case round=>
     clear HS7 ML7 HCb;obtain⟨j,bb,qq,hj,hqq,rfl,rfl,rfl,HR,hst,hml⟩:=hrel;have HSw:=hid hst;have MLw:=hid hml
     by_cases hlt:j < cs.length
     ·have i1:(0:Int)≤(j:Int):=Int.natCast_nonneg j;have i2:(j:Int) < (cs.length:Int):=by omega
      obtain⟨b1,o1,U,rfl,_,_,z0,z1,hU⟩:=(HV.out _ hst.below).casAt j hlt;obtain⟨UA,Uc,rfl,_⟩:=hU.form;have hdr:(cs.map Prod.fst).drop j=cs[j].1::(cs.map Prod.fst).drop (j+1):=by
       rw[List.drop_eq_getElem_cons (by rw[HKl.out];exact hlt),List.getElem_map]
      rw[hdr]at HR;have hks:=hk.out _ (List.getElem_mem hlt);obtain⟨W3,eW3⟩:∃ W3,W3=wr.alloc (.cells #[.string cs[j].1,.slice UA cs[j].2.length Uc] 253):=⟨_,rfl⟩;have hb3:Below wr.heap.size wr W3:=by rw[eW3];exact(Below.refl _ _).alloc (Nat.le_refl _) _
      have mk3:Blk W3 wr.heap.size 253 #[.string cs[j].1,.slice UA cs[j].2.length Uc]:=by rw[eW3];exact Blk.new _ _ _
      have HS3:=hid (hst.on hb3);have ML3:=hid (hml.below hb3 hml.lt);have MK3:=hid mk3;have EW3:=hid eW3;clear hU hdr hst hml eW3 hb3 mk3;generalize cs[j]=cc at *;obtain⟨ck,cbd⟩:=cc;dsimp only at z0 z1 HR hks MK3 EW3;have HX3:=hid (HEx.out W3 ck HS3.out.below hks);obtain⟨hx1,hx2⟩:=exactR_range ck
      go_upto_region 11 with fail
      rw[←EW3.out];have e0:=(MK3.out.cell 0).trans (show _=some (.string ck)from rfl);clear EW3 z0 z1 HSw MLw
      go_wp2_with fail
      refine HX3.out.mono ?_;clear HX3 e0;rintro e w9 ⟨rfl,hb9⟩;have HS9:=hid (HS3.out.on hb9);have ML9:=hid (ML3.out.below hb9 ML3.out.lt);have MK9:=hid (MK3.out.below hb9 MK3.out.lt);have g0:=(MK9.out.cell 0).trans (show _=some (.string ck)from rfl);clear hb9 HS3 ML3 MK3
      by_cases hxx:0≤exactR ck
      ·rw[decide_eq_true hxx];have d0:=(HS9.out.dec.cell 0).trans (show _=some (.int .i64 d.coef)from rfl);have d1:=(HS9.out.dec.cell 1).trans (show _=some (.int .i64 d.scale)from rfl);have HSm:=hid (HSa.out w9 (exactR ck));have HXX:=hid (decide_eq_true hxx);obtain⟨sb,hsb⟩:∃ sb,sb=sameD d ⟨exactR ck,0⟩:=⟨_,rfl⟩;rw[←hsb]at HSm;have HSB:=hid hsb;clear hsb hxx
       go_wp2_with fail
       refine HSm.out.mono ?_;clear HSm d0 d1 g0;rintro e w10 ⟨rfl,hb10⟩;have HS10:=hid (HS9.out.on hb10);have ML10:=hid (ML9.out.below hb10 ML9.out.lt);have MK10:=MK9.out.below hb10 MK9.out.lt;have g0:=(MK10.cell 0).trans (show _=some (.string ck)from rfl);clear hb10 HS9 ML9 MK9 MK10;cases sb with
       | true=>
         have HRk:Hid (rankC d kt ck=3):=hid (by unfold rankC;rw[if_pos (by rw[HXX.out,←HSB.out];rfl)])
         by_cases hq:qq < 3
         ·have HN:Hid (cb=bestF d kt ((cs.map Prod.fst).drop (j+1)) (j+1) j 3):=hid (by refine HR.out.trans ((bestF_hit (by rw[HRk.out];exact hq)).trans ?_);rw[HRk.out])
          have hq':(qq:Int) < 3:=by omega
          clear HRk HR hq
          go_wp2_with fail
          go_roundw
          case rel=>exact⟨j+1,j,3,by omega,by omega,rfl,rfl,by go_num,HN,HS10.out,ML10.out⟩
          case measure=>simp[intOf];omega
         ·have HN:Hid (cb=bestF d kt ((cs.map Prod.fst).drop (j+1)) (j+1) bb qq):=hid (HR.out.trans (bestF_miss (by rw[HRk.out];exact hq)))
          have hq':¬((qq:Int) < 3):=by omega
          clear HRk HR hq
          go_wp2_with fail
          go_roundw
          case rel=>exact⟨j+1,bb,qq,by omega,by omega,rfl,rfl,by go_num,HN,HS10.out,ML10.out⟩
          case measure=>simp[intOf];omega
       | false=>
         by_cases hkk:eqs ck kt=true
         ·have hk1:(ck.toList == kt.toList)=true:=hkk;have HRk:Hid (rankC d kt ck=2):=hid (by unfold rankC;rw[if_neg (by rw[HXX.out,←HSB.out];exact Bool.false_ne_true),if_pos hkk])
          by_cases hq:qq < 2
          ·have HN:Hid (cb=bestF d kt ((cs.map Prod.fst).drop (j+1)) (j+1) j 2):=hid (by refine HR.out.trans ((bestF_hit (by rw[HRk.out];exact hq)).trans ?_);rw[HRk.out])
           have hq':(qq:Int) < 2:=by omega
           clear HRk HR hq hkk
           go_wp2_with fail
           go_roundw
           case rel=>exact⟨j+1,j,2,by omega,by omega,rfl,rfl,by go_num,HN,HS10.out,ML10.out⟩
           case measure=>simp[intOf];omega
          ·have HN:Hid (cb=bestF d kt ((cs.map Prod.fst).drop (j+1)) (j+1) bb qq):=hid (HR.out.trans (bestF_miss (by rw[HRk.out];exact hq)))
           have hq':¬((qq:Int) < 2):=by omega
           clear HRk HR hq hkk
           go_wp2_with fail
           go_roundw
           case rel=>exact⟨j+1,bb,qq,by omega,by omega,rfl,rfl,by go_num,HN,HS10.out,ML10.out⟩
           case measure=>simp[intOf];omega
         ·have hk1:(ck.toList == kt.toList)=false:=by simpa[eqs]using hkk
          by_cases hoo:eqs ck othB=true
          ·have hk2:(ck.toList == [111,116,104,101,114])=true:=by rw[(eqs_iff _ _).1 hoo,othB_list];exact beq_self_eq_true _
           have HRk:Hid (rankC d kt ck=1):=hid (by unfold rankC;rw[if_neg (by rw[HXX.out,←HSB.out];exact Bool.false_ne_true),if_neg hkk,if_pos hoo])
           by_cases hq:qq < 1
           ·have HN:Hid (cb=bestF d kt ((cs.map Prod.fst).drop (j+1)) (j+1) j 1):=hid (by refine HR.out.trans ((bestF_hit (by rw[HRk.out];exact hq)).trans ?_);rw[HRk.out])
            have hq':(qq:Int) < 1:=by omega
            clear HRk HR hq hkk hoo
            go_wp2_with fail
            go_roundw
            case rel=>exact⟨j+1,j,1,by omega,by omega,rfl,rfl,by go_num,HN,HS10.out,ML10.out⟩
            case measure=>simp[intOf];omega
           ·have HN:Hid (cb=bestF d kt ((cs.map Prod.fst).drop (j+1)) (j+1) bb qq):=hid (HR.out.trans (bestF_miss (by rw[HRk.out];exact hq)))
            have hq':¬((qq:Int) < 1):=by omega
            clear HRk HR hq hkk hoo
            go_wp2_with fail
            go_roundw
            case rel=>exact⟨j+1,bb,qq,by omega,by omega,rfl,rfl,by go_num,HN,HS10.out,ML10.out⟩
            case measure=>simp[intOf];omega
          ·have hk2:(ck.toList == [111,116,104,101,114])=false:=by
            cases h:(ck.toList == [111,116,104,101,114])with
            | false=>rfl
            | true=>
              exact absurd (show eqs ck othB=true by unfold eqs;rw[othB_list];exact h) hoo
           have HRk:Hid (rankC d kt ck=0):=hid (by unfold rankC;rw[if_neg (by rw[HXX.out,←HSB.out];exact Bool.false_ne_true),if_neg hkk,if_neg hoo])
           have HN:Hid (cb=bestF d kt ((cs.map Prod.fst).drop (j+1)) (j+1) bb qq):=hid (HR.out.trans (bestF_miss (by rw[HRk.out];omega)))
           have hq':¬((qq:Int) < 0):=by omega
           clear HRk HR hkk hoo
           go_wp2_with fail
           go_roundw
           case rel=>exact⟨j+1,bb,qq,by omega,by omega,rfl,rfl,by go_num,HN,HS10.out,ML10.out⟩
           case measure=>simp[intOf];omega
      ·rw[decide_eq_false hxx];have HXX:=hid (decide_eq_false hxx);clear hxx
       by_cases hkk:eqs ck kt=true
       ·have hk1:(ck.toList == kt.toList)=true:=hkk;have HRk:Hid (rankC d kt ck=2):=hid (by unfold rankC;rw[if_neg (by rw[HXX.out];exact Bool.false_ne_true),if_pos hkk])
        by_cases hq:qq < 2
        ·have HN:Hid (cb=bestF d kt ((cs.map Prod.fst).drop (j+1)) (j+1) j 2):=hid (by refine HR.out.trans ((bestF_hit (by rw[HRk.out];exact hq)).trans ?_);rw[HRk.out])
         have hq':(qq:Int) < 2:=by omega
         clear HRk HR hq hkk
         go_wp2_with fail
         go_roundw
         case rel=>exact⟨j+1,j,2,by omega,by omega,rfl,rfl,by go_num,HN,HS9.out,ML9.out⟩
         case measure=>simp[intOf];omega
        ·have HN:Hid (cb=bestF d kt ((cs.map Prod.fst).drop (j+1)) (j+1) bb qq):=hid (HR.out.trans (bestF_miss (by rw[HRk.out];exact hq)))
         have hq':¬((qq:Int) < 2):=by omega
         clear HRk HR hq hkk
         go_wp2_with fail
         go_roundw
         case rel=>exact⟨j+1,bb,qq,by omega,by omega,rfl,rfl,by go_num,HN,HS9.out,ML9.out⟩
         case measure=>simp[intOf];omega
       ·have hk1:(ck.toList == kt.toList)=false:=by simpa[eqs]using hkk
        by_cases hoo:eqs ck othB=true
        ·have hk2:(ck.toList == [111,116,104,101,114])=true:=by rw[(eqs_iff _ _).1 hoo,othB_list];exact beq_self_eq_true _
         have HRk:Hid (rankC d kt ck=1):=hid (by unfold rankC;rw[if_neg (by rw[HXX.out];exact Bool.false_ne_true),if_neg hkk,if_pos hoo])
         by_cases hq:qq < 1
         ·have HN:Hid (cb=bestF d kt ((cs.map Prod.fst).drop (j+1)) (j+1) j 1):=hid (by refine HR.out.trans ((bestF_hit (by rw[HRk.out];exact hq)).trans ?_);rw[HRk.out])
          have hq':(qq:Int) < 1:=by omega
          clear HRk HR hq hkk hoo
          go_wp2_with fail
          go_roundw
          case rel=>exact⟨j+1,j,1,by omega,by omega,rfl,rfl,by go_num,HN,HS9.out,ML9.out⟩
          case measure=>simp[intOf];omega
         ·have HN:Hid (cb=bestF d kt ((cs.map Prod.fst).drop (j+1)) (j+1) bb qq):=hid (HR.out.trans (bestF_miss (by rw[HRk.out];exact hq)))
          have hq':¬((qq:Int) < 1):=by omega
          clear HRk HR hq hkk hoo
          go_wp2_with fail
          go_roundw
          case rel=>exact⟨j+1,bb,qq,by omega,by omega,rfl,rfl,by go_num,HN,HS9.out,ML9.out⟩
          case measure=>simp[intOf];omega
        ·have hk2:(ck.toList == [111,116,104,101,114])=false:=by
          cases h:(ck.toList == [111,116,104,101,114])with
          | false=>rfl
          | true=>
            exact absurd (show eqs ck othB=true by unfold eqs;rw[othB_list];exact h) hoo
         have HRk:Hid (rankC d kt ck=0):=hid (by unfold rankC;rw[if_neg (by rw[HXX.out];exact Bool.false_ne_true),if_neg hkk,if_neg hoo])
         have HN:Hid (cb=bestF d kt ((cs.map Prod.fst).drop (j+1)) (j+1) bb qq):=hid (HR.out.trans (bestF_miss (by rw[HRk.out];omega)))
         have hq':¬((qq:Int) < 0):=by omega
         clear HRk HR hkk hoo
         go_wp2_with fail
         go_roundw
         case rel=>exact⟨j+1,bb,qq,by omega,by omega,rfl,rfl,by go_num,HN,HS9.out,ML9.out⟩
         case measure=>simp[intOf];omega
     ·obtain rfl:j=cs.length:=by omega
      have HCb2:Hid (cb=bb):=hid (by rw[HR.out,List.drop_of_length_le (by rw[HKl.out];exact Nat.le_refl _)];rfl)
      have l0:=(hml.cell 0).trans (show _=some (.int .i64 l.coef)from rfl);have l1:=(hml.cell 1).trans (show _=some (.int .i64 l.scale)from rfl);have r0:=(hst.res.cell 0).trans (show _=some (.int .i64 0)from rfl);have r1:=(hst.res.cell 1).trans (show _=some (.int .i64 0)from rfl);have f0:=hst.res.frozen 0;have f1:=hst.res.frozen 1;have HBw:=hid hst.below;clear hst hml HR
      go_wp2_with fail
      go_region
      all_goals
       go_wp2_with fail
       refine bodyPost_ret (v:=.tuple #[.int .i64 (bb:Int),.agg #[.int .i64 l.coef,.int .i64 l.scale],.nilIface]) ?_ rfl ?_
       ·simp[results,Tryz.results179,go_sem,r0,r1,f0,f1]
       ·refine⟨by rw[HCl.out,HCb2.out,errD_zero],?_⟩
        repeat' (first|exact HBw.out|refine Below.drew ?_|refine Below.setCell ?_ (by show w.heap.size≤w.heap.size+3;omega) _)
   ·obtain⟨h1,h2⟩:=HL2.out.2 he;have HC:=hid (And.intro h1 h2);rw[errD_ne he];have r0:=(HS7.out.res.cell 0).trans (show _=some (.int .i64 0)from rfl);have r1:=(HS7.out.res.cell 1).trans (show _=some (.int .i64 0)from rfl);have f0:=HS7.out.res.frozen 0;have f1:=HS7.out.res.frozen 1;have HB7:=hid HS7.out.below;have HEr:=hid (errD_ne he);clear h1 h2 HL2 HCe he HS7
    go_wp2_with fail
    refine bodyPost_ret (v:=.tuple #[.int .i64 0,.agg #[.int .i64 0,.int .i64 0],.iface 27 (.int .i64 ce)]) ?_ rfl ?_
    ·simp[results,Tryz.results179,go_sem,r0,r1,f0,f1]
    ·refine⟨by rw[HC.out.1,HC.out.2,HEr.out];rfl,?_⟩
     repeat' (first|exact HB7.out|refine Below.setCell ?_ (by show w.heap.size≤w.heap.size+3;omega) _)
end Go.Proofs.YtagfnpdoooachaaGreatDoor
