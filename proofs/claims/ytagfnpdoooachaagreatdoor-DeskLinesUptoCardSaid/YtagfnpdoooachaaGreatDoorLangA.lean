/- plural.Kind. -/
import Derived.Test.YtagfnpdoooachaaGreatDoorPluB
set_option linter.unusedSimpArgs false
set_option linter.unusedVariables false
set_option maxHeartbeats 6400000
set_option maxRecDepth 100000
namespace Go.Proofs.YtagfnpdoooachaaGreatDoor
open Go.RowKit
open Lib (hid)
def othB:ByteArray:=⟨#[111,116,104,101,114]⟩
def pickO (o:OpV):List ByteArray→List ByteArray→ByteArray
 | t::ts,k::ks=>if !t.toList.isEmpty && holdR o (ruleOf (bts t))then k else pickO o ts ks
 | _,_=>othB
def kndE (s:SetV) (d:DecV):Int:=if checkS s=0 then checkD d else 3
def kndT (s:SetV) (d:DecV):ByteArray:=if kndE s d=0 then pickO (opsV d) s.list kindC else⟨#[]⟩
theorem trimF_nn:∀(n:Nat) (c:Int),0≤c→0≤(trimF n c).1∧(trimF n c).1≤c
 | 0,c,h=>⟨h,Int.le_refl _⟩
 | n+1,c,h=>by
   unfold trimF;split
   ·have h1:0≤Int.tdiv c 10:=by rw[Int.tdiv_eq_ediv_of_nonneg h];exact Int.ediv_nonneg h (by decide)
    have h2:Int.tdiv c 10≤c:=by rw[Int.tdiv_eq_ediv_of_nonneg h];exact Int.ediv_le_self _ h
    obtain⟨q1,q2⟩:=trimF_nn n _ h1;exact⟨q1,Int.le_trans q2 h2⟩
   ·exact⟨h,Int.le_refl _⟩
theorem wf64 {n:Int} (h0: -9223372036854775808≤n) (h1:n≤9223372036854775807):(Lit.int .i64 n).wf=true:=by
 simp[Lit.wf,IntKind.min,IntKind.max,IntKind.signed,IntKind.bits];omega
theorem opsV_ok (d:DecV) (h:d.ok):(opsV d).Ok:=by
 obtain⟨b0,b1,b2,b3,b4,b5⟩:=ops_bound d h;obtain⟨q1,q2⟩:=trimF_nn d.scale.toNat (opsF d) b2;have q3:=(trimF_ok d.scale.toNat (opsF d) (by omega) (by omega)).1
 obtain⟨h0,h1,h2,h3⟩:=h;exact⟨wf64 (by show _≤Int.tdiv _ _;omega) (by show Int.tdiv _ _≤_;omega),wf64 (by show _≤d.scale;omega) (by show d.scale≤_;omega),wf64 (by show _≤((trimF _ _).2:Int);omega) (by show((trimF _ _).2:Int)≤_;omega),wf64 (by show _≤opsF d;omega) (by show opsF d≤_;omega),wf64 (by show _≤(trimF _ _).1;omega) (by show(trimF _ _).1≤_;omega)⟩
theorem okT_check {t:ByteArray} (hn:t.toList≠[]) (h:okT t=true):checkR (ruleOf (bts t))=0:=by
 rw[okT_par hn]at h;exact(of_decide_eq_true h).1
theorem holdsC_any (t:ByteArray) (o:OpV) (v:Value) (w:World) (ho:o.Ok) (hn:t.toList≠[]) (hk:okT t=true) (hr:RuIn w 0 v (ruleOf (bts t))):
 Calls Tryz.prog 59 #[v,.agg #[.int .i64 o.i,.int .i64 o.v,.int .i64 o.w,.int .i64 o.f,.int .i64 o.t]] w fun e w'=>e=.returned (.tuple #[.bool (holdR o (ruleOf (bts t))),.nilIface])∧Below w.heap.size w w':=by
 have h:=Holds_any (ruleOf (bts t)) v o 0 w hr ho;rw[okT_check hn hk,if_pos rfl,errR_zero]at h;exact h
theorem pickO_hit {o:OpV} {t k:ByteArray} {ts ks:List ByteArray} (hn:t.toList≠[]) (h:holdR o (ruleOf (bts t))=true):pickO o (t::ts) (k::ks)=k:=by
 refine if_pos ?_;cases e:t.toList with
 | nil=>exact absurd e hn
 | cons a l=>rw[h];rfl
theorem pickO_next {o:OpV} {t k:ByteArray} {ts ks:List ByteArray} (h:t.toList=[]∨holdR o (ruleOf (bts t))=false):pickO o (t::ts) (k::ks)=pickO o ts ks:=by
 refine if_neg ?_;rcases h with h|h
 ·rw[h];exact Bool.false_ne_true
 ·rw[h,Bool.and_false];exact Bool.false_ne_true
theorem kind_any (s:SetV) (d:DecV) (w:World) (hs:s.small) (hv:EvV w):Calls Tryz.prog 23 #[s.val,d.v] w fun e w'=>e=.returned (.tuple #[.string (kndT s d),errD (kndE s d)])∧Below w.heap.size w w':=by
 have HT:Hid (∀ W,Calls Tryz.prog 57 #[s.val] W fun e w'=>e=.returned s.val∧Below W.heap.size W w'):=hid fun W=>texts_any' s W;have HV:Hid (∀ W,Below w.heap.size w W→EvV W):=hid fun W hW=>hv.below hW;have HC:Hid (∀ W,Below w.heap.size w W→Calls Tryz.prog 55 #[s.val] W fun e w'=>e=.returned (errD (checkS s))∧Below W.heap.size W w'):=hid fun W hW=>pcheck_any s W hs (hv.below hW);have HOp:Hid (∀ W,Calls Tryz.prog 56 #[d.v] W fun e w'=>e=.returned (.tuple #[(opsO d).val,errD (checkD d)])∧Below W.heap.size W w'):=hid fun W=>opsOf_any d W;have HOk:Hid (checkS s=0→∀ t∈s.list,okT t=true):=hid fun h t ht=>by
  unfold checkS at h;split at h
  ·rename_i h2;exact List.all_eq_true.1 h2 t ht
  ·cases h
 have HE:Hid ((checkS s=0→kndE s d=checkD d)∧(checkS s≠0→kndE s d=3)):=hid ⟨fun h=>if_pos h,fun h=>if_neg h⟩;have HK:Hid ((kndE s d=0→kndT s d=pickO (opsV d) s.list kindC)∧(kndE s d≠0→kndT s d=⟨#[]⟩)):=hid ⟨fun h=>if_pos h,fun h=>if_neg h⟩;have HS0:checkS s=0∨checkS s=3:=by unfold checkS;split <;> simp
 have HD1:Hid (d.ok→opsO d=opsV d∧checkD d=0∧(opsV d).Ok):=hid fun h=>⟨if_pos h,checkD_ok h,opsV_ok d h⟩;have HD2:Hid (¬ d.ok→checkD d=1):=hid fun h=>checkD_no h;have HSm:Hid (∀ t∈s.list,t.size≤10000):=hid hs;obtain⟨a,b,c,dd,f⟩:=s;generalize kndT ⟨a,b,c,dd,f⟩ d=kt at *;generalize kndE ⟨a,b,c,dd,f⟩ d=ke at *;generalize checkS ⟨a,b,c,dd,f⟩=cs at *;unfold SetV.val SetV.list at *;dsimp only at *;obtain⟨W2,eW2⟩:∃ W2,W2=(w.alloc (.cells #[.string a,.string b,.string c,.string dd,.string f] 54)).alloc (.cells #[.int .i64 d.coef,.int .i64 d.scale] 44):=⟨_,rfl⟩;have ma:Blk W2 w.heap.size 54 #[.string a,.string b,.string c,.string dd,.string f]:=by rw[eW2];exact(Blk.new _ _ _).alloc _
 have mb:Blk W2 (w.heap.size+1) 44 #[.int .i64 d.coef,.int .i64 d.scale]:=by
  rw[eW2];have:=Blk.new (w.alloc (.cells #[.string a,.string b,.string c,.string dd,.string f] 54)) 44 #[.int .i64 d.coef,.int .i64 d.scale];rw[World.size_alloc]at this;exact this
 have hb2:Below w.heap.size w W2:=by rw[eW2];exact((Below.refl _ _).alloc (Nat.le_refl _) _).alloc (by simp) _
 have HB2:=hid hb2;have MA:=hid ma;have MB:=hid mb;have EW:=hid eW2;have k0:=(ma.cell 0).trans (show _=some (.string a)from rfl);have k1:=(ma.cell 1).trans (show _=some (.string b)from rfl);have k2:=(ma.cell 2).trans (show _=some (.string c)from rfl);have k3:=(ma.cell 3).trans (show _=some (.string dd)from rfl);have k4:=(ma.cell 4).trans (show _=some (.string f)from rfl);have i0:∀ w,(Instr.index 100 (.agg #[.string a,.string b,.string c,.string dd,.string f]) (.int .i64 0)).run Tryz.prog w=.ok (.string a) w:=fun _=>by kernel_rfl
 have i1:∀ w,(Instr.index 100 (.agg #[.string a,.string b,.string c,.string dd,.string f]) (.int .i64 1)).run Tryz.prog w=.ok (.string b) w:=fun _=>by kernel_rfl
 have i2:∀ w,(Instr.index 100 (.agg #[.string a,.string b,.string c,.string dd,.string f]) (.int .i64 2)).run Tryz.prog w=.ok (.string c) w:=fun _=>by kernel_rfl
 have i3:∀ w,(Instr.index 100 (.agg #[.string a,.string b,.string c,.string dd,.string f]) (.int .i64 3)).run Tryz.prog w=.ok (.string dd) w:=fun _=>by kernel_rfl
 have i4:∀ w,(Instr.index 100 (.agg #[.string a,.string b,.string c,.string dd,.string f]) (.int .i64 4)).run Tryz.prog w=.ok (.string f) w:=fun _=>by kernel_rfl
 unfold DecV.v at *;have HCk:=hid (HC.out W2 hb2);clear hb2 ma mb eW2 hs hv HC
 go_enter Tryz.func23,Tryz.ntmps23
 go_upto_region 1 with fail
 rw[←EW.out];clear EW
 go_wp2_with fail
 refine HCk.out.mono ?_;clear HCk k0 k1 k2 k3 k4;rintro e w3 ⟨rfl,hb3⟩;have HB3:=hid (HB2.out.trans (hb3.mono HB2.out.size));have MA3:=hid (MA.out.below hb3 MA.out.lt);have MB3:=hid (MB.out.below hb3 MB.out.lt);clear hb3 MA MB HB2;rcases HS0 with rfl|rfl
 ·have hke:ke=checkD d:=HE.out.1 rfl;have HOk2:=hid (HOk.out rfl);rw[errD_zero];clear HE HOk;have d0:=(MB3.out.cell 0).trans (show _=some (.int .i64 d.coef)from rfl);have d1:=(MB3.out.cell 1).trans (show _=some (.int .i64 d.scale)from rfl);have HKe:=hid hke;clear hke
  go_wp2_with fail
  refine(HOp.out _).mono ?_;clear HOp d0 d1 MB3;rintro e w4 ⟨rfl,hb4⟩;have HB4:=hid (HB3.out.trans (hb4.mono HB3.out.size));have MA4:=hid (MA3.out.below hb4 MA3.out.lt);clear hb4 HB3 MA3
  by_cases hd:d.ok
  ·obtain⟨e1,e2,e3⟩:=HD1.out hd;rw[e1,e2,errD_zero];obtain rfl:ke=0:=HKe.out.trans e2;have HK2:Hid (kt=pickO (opsV d) [a,b,c,dd,f] kindC):=hid (HK.out.1 rfl);have HOo:=hid e3;clear e1 e2 e3 hd HD1 HD2 HKe HK;unfold OpV.val;generalize opsV d=o at *;have hb5:Below w4.heap.size w4 (w4.alloc (.cells #[.int .i64 o.i,.int .i64 o.v,.int .i64 o.w,.int .i64 o.f,.int .i64 o.t] 97)):=(Below.refl _ _).alloc (Nat.le_refl _) _;have MO5:Hid (Blk (w4.alloc (.cells #[.int .i64 o.i,.int .i64 o.v,.int .i64 o.w,.int .i64 o.f,.int .i64 o.t] 97)) w4.heap.size 97 #[.int .i64 o.i,.int .i64 o.v,.int .i64 o.w,.int .i64 o.f,.int .i64 o.t]):=hid (Blk.new _ _ _);have MA5:=hid (MA4.out.below hb5 MA4.out.lt);have HB5:=hid (HB4.out.trans (hb5.mono HB4.out.size));have k0:=(MA5.out.cell 0).trans (show _=some (.string a)from rfl);have k1:=(MA5.out.cell 1).trans (show _=some (.string b)from rfl);have k2:=(MA5.out.cell 2).trans (show _=some (.string c)from rfl);have k3:=(MA5.out.cell 3).trans (show _=some (.string dd)from rfl);have k4:=(MA5.out.cell 4).trans (show _=some (.string f)from rfl);have hO4:w4.heap.size < w4.heap.size+1:=Nat.lt_succ_self _;clear hb5 MA4 HB4
   go_wp2_with fail
   refine(HT.out _).mono ?_;clear HT k0 k1 k2 k3 k4 MA5;rintro e w6 ⟨rfl,hb6⟩;have HB6:=hid (HB5.out.trans (hb6.mono HB5.out.size));have MO6:=hid (MO5.out.below hb6 MO5.out.lt);clear hb6 MO5 HB5
   go_wp2_with fail
   go_loopw [30] (fun i wr=>∃ j:Nat,j≤5∧i=.int .i64 (j:Int)∧Hid (kt=pickO o ([a,b,c,dd,f].drop j) (kindC.drop j))∧Blk wr w4.heap.size 97 #[.int .i64 o.i,.int .i64 o.v,.int .i64 o.w,.int .i64 o.f,.int .i64 o.t]∧Below w.heap.size w wr) (fun i _=>5 - (intOf i).toNat)
   case atStart=>exact⟨0,Nat.zero_le _,rfl,HK2,MO6.out,HB6.out⟩
   case round=>
    clear HB6 MO6 HK2;obtain⟨j,hj,rfl,HP,hmo,hb⟩:=hrel;have HB:=hid hb;have MO:=hid hmo;have HEv:=hid (HV.out wr hb);clear hb hmo;have hcase:j=0∨j=1∨j=2∨j=3∨j=4∨j=5:=by omega
    rcases hcase with rfl|rfl|rfl|rfl|rfl|rfl
    ·by_cases hq:a.toList=[]
     ·have hq2:(a.toList == [])=true:=by rw[hq];rfl
      have HN:Hid (kt=pickO o ([a,b,c,dd,f].drop 1) (kindC.drop 1)):=hid (HP.out.trans (pickO_next (.inl hq)));clear hq
      go_wp2_with fail
      go_roundw
      case rel=>exact⟨1,by omega,rfl,HN,MO.out,HB.out⟩
      case measure=>simp[intOf]
     ·have hq2:(a.toList == [])=false:=by
       cases e:a.toList with
       | nil=>exact absurd e hq
       | cons _ _=>rfl
      have hk:=HOk2.out a (by simp)
      have HPa:=hid (parseC_any a wr (HSm.out a (by simp)) HEv.out hq)
      have HHo:Hid (∀ W v,RuIn W 0 v (ruleOf (bts a))→Calls Tryz.prog 59 #[v,.agg #[.int .i64 o.i,.int .i64 o.v,.int .i64 o.w,.int .i64 o.f,.int .i64 o.t]] W fun e w'=>e=.returned (.tuple #[.bool (holdR o (ruleOf (bts a))),.nilIface])∧Below W.heap.size W w'):=hid fun W v h=>holdsC_any a o v W HOo.out hq hk h;have HHit:Hid (holdR o (ruleOf (bts a))=true→kt=⟨#[122,101,114,111]⟩):=hid fun h=>HP.out.trans (pickO_hit hq h);have HNx:Hid (holdR o (ruleOf (bts a))=false→kt=pickO o ([a,b,c,dd,f].drop 1) (kindC.drop 1)):=hid fun h=>HP.out.trans (pickO_next (.inr h));rw[hk]at HPa;clear hq hk HP HSm HOk2 HOo HEv;generalize ruleOf (bts a)=R at *;generalize holdR o R=x at*
      go_wp2_with fail
      refine HPa.out.mono ?_;clear HPa;rintro e w7 ⟨hb7,v,rfl,hru,A,n,cp,rfl⟩;have HB7:=hid (HB.out.trans (hb7.mono HB.out.size));have MO7:=hid (MO.out.below hb7 MO.out.lt);have HHo7:=hid (HHo.out w7 _ (hru (by first|rfl|trivial)))
      have o0:=(MO7.out.cell 0).trans (show _=some (.int .i64 o.i)from rfl);have o1:=(MO7.out.cell 1).trans (show _=some (.int .i64 o.v)from rfl);have o2:=(MO7.out.cell 2).trans (show _=some (.int .i64 o.w)from rfl);have o3:=(MO7.out.cell 3).trans (show _=some (.int .i64 o.f)from rfl);have o4:=(MO7.out.cell 4).trans (show _=some (.int .i64 o.t)from rfl)
      first|rw[if_pos rfl]|rw[if_pos trivial]
      clear hb7 hru HHo HB MO
      go_wp2_with fail
      refine HHo7.out.mono ?_;clear HHo7 o0 o1 o2 o3 o4;rintro e w8 ⟨rfl,hb8⟩;have HB8:=hid (HB7.out.trans (hb8.mono HB7.out.size));have MO8:=hid (MO7.out.below hb8 MO7.out.lt);have kc:=(HV.out w8 HB8.out).knd 0 (by decide)
      simp only[kindC,List.getElem_cons_zero,List.getElem_cons_succ]at kc;clear hb8 HB7 MO7;cases x with
      | true=>
        have hkt:=HHit.out rfl;have HKt:=hid hkt;clear hkt HHit HNx
        go_wp2_with fail
        go_ret2
        exact⟨by rw[HKt.out];rfl,HB8.out⟩
      | false=>
        have HN:=hid (HNx.out rfl);clear HHit HNx kc
        go_wp2_with fail
        go_roundw
        case rel=>exact⟨1,by omega,rfl,HN.out,MO8.out,HB8.out⟩
        case measure=>simp[intOf]
    ·by_cases hq:b.toList=[]
     ·have hq2:(b.toList == [])=true:=by rw[hq];rfl
      have HN:Hid (kt=pickO o ([a,b,c,dd,f].drop 2) (kindC.drop 2)):=hid (HP.out.trans (pickO_next (.inl hq)));clear hq
      go_wp2_with fail
      go_roundw
      case rel=>exact⟨2,by omega,rfl,HN,MO.out,HB.out⟩
      case measure=>simp[intOf]
     ·have hq2:(b.toList == [])=false:=by
       cases e:b.toList with
       | nil=>exact absurd e hq
       | cons _ _=>rfl
      have hk:=HOk2.out b (by simp)
      have HPa:=hid (parseC_any b wr (HSm.out b (by simp)) HEv.out hq)
      have HHo:Hid (∀ W v,RuIn W 0 v (ruleOf (bts b))→Calls Tryz.prog 59 #[v,.agg #[.int .i64 o.i,.int .i64 o.v,.int .i64 o.w,.int .i64 o.f,.int .i64 o.t]] W fun e w'=>e=.returned (.tuple #[.bool (holdR o (ruleOf (bts b))),.nilIface])∧Below W.heap.size W w'):=hid fun W v h=>holdsC_any b o v W HOo.out hq hk h;have HHit:Hid (holdR o (ruleOf (bts b))=true→kt=⟨#[111,110,101]⟩):=hid fun h=>HP.out.trans (pickO_hit hq h);have HNx:Hid (holdR o (ruleOf (bts b))=false→kt=pickO o ([a,b,c,dd,f].drop 2) (kindC.drop 2)):=hid fun h=>HP.out.trans (pickO_next (.inr h));rw[hk]at HPa;clear hq hk HP HSm HOk2 HOo HEv;generalize ruleOf (bts b)=R at *;generalize holdR o R=x at*
      go_wp2_with fail
      refine HPa.out.mono ?_;clear HPa;rintro e w7 ⟨hb7,v,rfl,hru,A,n,cp,rfl⟩;have HB7:=hid (HB.out.trans (hb7.mono HB.out.size));have MO7:=hid (MO.out.below hb7 MO.out.lt);have HHo7:=hid (HHo.out w7 _ (hru (by first|rfl|trivial)))
      have o0:=(MO7.out.cell 0).trans (show _=some (.int .i64 o.i)from rfl);have o1:=(MO7.out.cell 1).trans (show _=some (.int .i64 o.v)from rfl);have o2:=(MO7.out.cell 2).trans (show _=some (.int .i64 o.w)from rfl);have o3:=(MO7.out.cell 3).trans (show _=some (.int .i64 o.f)from rfl);have o4:=(MO7.out.cell 4).trans (show _=some (.int .i64 o.t)from rfl)
      first|rw[if_pos rfl]|rw[if_pos trivial]
      clear hb7 hru HHo HB MO
      go_wp2_with fail
      refine HHo7.out.mono ?_;clear HHo7 o0 o1 o2 o3 o4;rintro e w8 ⟨rfl,hb8⟩;have HB8:=hid (HB7.out.trans (hb8.mono HB7.out.size));have MO8:=hid (MO7.out.below hb8 MO7.out.lt);have kc:=(HV.out w8 HB8.out).knd 1 (by decide)
      simp only[kindC,List.getElem_cons_zero,List.getElem_cons_succ]at kc;clear hb8 HB7 MO7;cases x with
      | true=>
        have hkt:=HHit.out rfl;have HKt:=hid hkt;clear hkt HHit HNx
        go_wp2_with fail
        go_ret2
        exact⟨by rw[HKt.out];rfl,HB8.out⟩
      | false=>
        have HN:=hid (HNx.out rfl);clear HHit HNx kc
        go_wp2_with fail
        go_roundw
        case rel=>exact⟨2,by omega,rfl,HN.out,MO8.out,HB8.out⟩
        case measure=>simp[intOf]
    ·by_cases hq:c.toList=[]
     ·have hq2:(c.toList == [])=true:=by rw[hq];rfl
      have HN:Hid (kt=pickO o ([a,b,c,dd,f].drop 3) (kindC.drop 3)):=hid (HP.out.trans (pickO_next (.inl hq)));clear hq
      go_wp2_with fail
      go_roundw
      case rel=>exact⟨3,by omega,rfl,HN,MO.out,HB.out⟩
      case measure=>simp[intOf]
     ·have hq2:(c.toList == [])=false:=by
       cases e:c.toList with
       | nil=>exact absurd e hq
       | cons _ _=>rfl
      have hk:=HOk2.out c (by simp)
      have HPa:=hid (parseC_any c wr (HSm.out c (by simp)) HEv.out hq)
      have HHo:Hid (∀ W v,RuIn W 0 v (ruleOf (bts c))→Calls Tryz.prog 59 #[v,.agg #[.int .i64 o.i,.int .i64 o.v,.int .i64 o.w,.int .i64 o.f,.int .i64 o.t]] W fun e w'=>e=.returned (.tuple #[.bool (holdR o (ruleOf (bts c))),.nilIface])∧Below W.heap.size W w'):=hid fun W v h=>holdsC_any c o v W HOo.out hq hk h;have HHit:Hid (holdR o (ruleOf (bts c))=true→kt=⟨#[116,119,111]⟩):=hid fun h=>HP.out.trans (pickO_hit hq h);have HNx:Hid (holdR o (ruleOf (bts c))=false→kt=pickO o ([a,b,c,dd,f].drop 3) (kindC.drop 3)):=hid fun h=>HP.out.trans (pickO_next (.inr h));rw[hk]at HPa;clear hq hk HP HSm HOk2 HOo HEv;generalize ruleOf (bts c)=R at *;generalize holdR o R=x at*
      go_wp2_with fail
      refine HPa.out.mono ?_;clear HPa;rintro e w7 ⟨hb7,v,rfl,hru,A,n,cp,rfl⟩;have HB7:=hid (HB.out.trans (hb7.mono HB.out.size));have MO7:=hid (MO.out.below hb7 MO.out.lt);have HHo7:=hid (HHo.out w7 _ (hru (by first|rfl|trivial)))
      have o0:=(MO7.out.cell 0).trans (show _=some (.int .i64 o.i)from rfl);have o1:=(MO7.out.cell 1).trans (show _=some (.int .i64 o.v)from rfl);have o2:=(MO7.out.cell 2).trans (show _=some (.int .i64 o.w)from rfl);have o3:=(MO7.out.cell 3).trans (show _=some (.int .i64 o.f)from rfl);have o4:=(MO7.out.cell 4).trans (show _=some (.int .i64 o.t)from rfl)
      first|rw[if_pos rfl]|rw[if_pos trivial]
      clear hb7 hru HHo HB MO
      go_wp2_with fail
      refine HHo7.out.mono ?_;clear HHo7 o0 o1 o2 o3 o4;rintro e w8 ⟨rfl,hb8⟩;have HB8:=hid (HB7.out.trans (hb8.mono HB7.out.size));have MO8:=hid (MO7.out.below hb8 MO7.out.lt);have kc:=(HV.out w8 HB8.out).knd 2 (by decide)
      simp only[kindC,List.getElem_cons_zero,List.getElem_cons_succ]at kc;clear hb8 HB7 MO7;cases x with
      | true=>
        have hkt:=HHit.out rfl;have HKt:=hid hkt;clear hkt HHit HNx
        go_wp2_with fail
        go_ret2
        exact⟨by rw[HKt.out];rfl,HB8.out⟩
      | false=>
        have HN:=hid (HNx.out rfl);clear HHit HNx kc
        go_wp2_with fail
        go_roundw
        case rel=>exact⟨3,by omega,rfl,HN.out,MO8.out,HB8.out⟩
        case measure=>simp[intOf]
    ·by_cases hq:dd.toList=[]
     ·have hq2:(dd.toList == [])=true:=by rw[hq];rfl
      have HN:Hid (kt=pickO o ([a,b,c,dd,f].drop 4) (kindC.drop 4)):=hid (HP.out.trans (pickO_next (.inl hq)));clear hq
      go_wp2_with fail
      go_roundw
      case rel=>exact⟨4,by omega,rfl,HN,MO.out,HB.out⟩
      case measure=>simp[intOf]
     ·have hq2:(dd.toList == [])=false:=by
       cases e:dd.toList with
       | nil=>exact absurd e hq
       | cons _ _=>rfl
      have hk:=HOk2.out dd (by simp)
      have HPa:=hid (parseC_any dd wr (HSm.out dd (by simp)) HEv.out hq)
      have HHo:Hid (∀ W v,RuIn W 0 v (ruleOf (bts dd))→Calls Tryz.prog 59 #[v,.agg #[.int .i64 o.i,.int .i64 o.v,.int .i64 o.w,.int .i64 o.f,.int .i64 o.t]] W fun e w'=>e=.returned (.tuple #[.bool (holdR o (ruleOf (bts dd))),.nilIface])∧Below W.heap.size W w'):=hid fun W v h=>holdsC_any dd o v W HOo.out hq hk h;have HHit:Hid (holdR o (ruleOf (bts dd))=true→kt=⟨#[102,101,119]⟩):=hid fun h=>HP.out.trans (pickO_hit hq h);have HNx:Hid (holdR o (ruleOf (bts dd))=false→kt=pickO o ([a,b,c,dd,f].drop 4) (kindC.drop 4)):=hid fun h=>HP.out.trans (pickO_next (.inr h));rw[hk]at HPa;clear hq hk HP HSm HOk2 HOo HEv;generalize ruleOf (bts dd)=R at *;generalize holdR o R=x at*
      go_wp2_with fail
      refine HPa.out.mono ?_;clear HPa;rintro e w7 ⟨hb7,v,rfl,hru,A,n,cp,rfl⟩;have HB7:=hid (HB.out.trans (hb7.mono HB.out.size));have MO7:=hid (MO.out.below hb7 MO.out.lt);have HHo7:=hid (HHo.out w7 _ (hru (by first|rfl|trivial)))
      have o0:=(MO7.out.cell 0).trans (show _=some (.int .i64 o.i)from rfl);have o1:=(MO7.out.cell 1).trans (show _=some (.int .i64 o.v)from rfl);have o2:=(MO7.out.cell 2).trans (show _=some (.int .i64 o.w)from rfl);have o3:=(MO7.out.cell 3).trans (show _=some (.int .i64 o.f)from rfl);have o4:=(MO7.out.cell 4).trans (show _=some (.int .i64 o.t)from rfl)
      first|rw[if_pos rfl]|rw[if_pos trivial]
      clear hb7 hru HHo HB MO
      go_wp2_with fail
      refine HHo7.out.mono ?_;clear HHo7 o0 o1 o2 o3 o4;rintro e w8 ⟨rfl,hb8⟩;have HB8:=hid (HB7.out.trans (hb8.mono HB7.out.size));have MO8:=hid (MO7.out.below hb8 MO7.out.lt);have kc:=(HV.out w8 HB8.out).knd 3 (by decide)
      simp only[kindC,List.getElem_cons_zero,List.getElem_cons_succ]at kc;clear hb8 HB7 MO7;cases x with
      | true=>
        have hkt:=HHit.out rfl;have HKt:=hid hkt;clear hkt HHit HNx
        go_wp2_with fail
        go_ret2
        exact⟨by rw[HKt.out];rfl,HB8.out⟩
      | false=>
        have HN:=hid (HNx.out rfl);clear HHit HNx kc
        go_wp2_with fail
        go_roundw
        case rel=>exact⟨4,by omega,rfl,HN.out,MO8.out,HB8.out⟩
        case measure=>simp[intOf]
    ·by_cases hq:f.toList=[]
     ·have hq2:(f.toList == [])=true:=by rw[hq];rfl
      have HN:Hid (kt=pickO o ([a,b,c,dd,f].drop 5) (kindC.drop 5)):=hid (HP.out.trans (pickO_next (.inl hq)));clear hq
      go_wp2_with fail
      go_roundw
      case rel=>exact⟨5,by omega,rfl,HN,MO.out,HB.out⟩
      case measure=>simp[intOf]
     ·have hq2:(f.toList == [])=false:=by
       cases e:f.toList with
       | nil=>exact absurd e hq
       | cons _ _=>rfl
      have hk:=HOk2.out f (by simp)
      have HPa:=hid (parseC_any f wr (HSm.out f (by simp)) HEv.out hq)
      have HHo:Hid (∀ W v,RuIn W 0 v (ruleOf (bts f))→Calls Tryz.prog 59 #[v,.agg #[.int .i64 o.i,.int .i64 o.v,.int .i64 o.w,.int .i64 o.f,.int .i64 o.t]] W fun e w'=>e=.returned (.tuple #[.bool (holdR o (ruleOf (bts f))),.nilIface])∧Below W.heap.size W w'):=hid fun W v h=>holdsC_any f o v W HOo.out hq hk h;have HHit:Hid (holdR o (ruleOf (bts f))=true→kt=⟨#[109,97,110,121]⟩):=hid fun h=>HP.out.trans (pickO_hit hq h);have HNx:Hid (holdR o (ruleOf (bts f))=false→kt=pickO o ([a,b,c,dd,f].drop 5) (kindC.drop 5)):=hid fun h=>HP.out.trans (pickO_next (.inr h));rw[hk]at HPa;clear hq hk HP HSm HOk2 HOo HEv;generalize ruleOf (bts f)=R at *;generalize holdR o R=x at*
      go_wp2_with fail
      refine HPa.out.mono ?_;clear HPa;rintro e w7 ⟨hb7,v,rfl,hru,A,n,cp,rfl⟩;have HB7:=hid (HB.out.trans (hb7.mono HB.out.size));have MO7:=hid (MO.out.below hb7 MO.out.lt);have HHo7:=hid (HHo.out w7 _ (hru (by first|rfl|trivial)))
      have o0:=(MO7.out.cell 0).trans (show _=some (.int .i64 o.i)from rfl);have o1:=(MO7.out.cell 1).trans (show _=some (.int .i64 o.v)from rfl);have o2:=(MO7.out.cell 2).trans (show _=some (.int .i64 o.w)from rfl);have o3:=(MO7.out.cell 3).trans (show _=some (.int .i64 o.f)from rfl);have o4:=(MO7.out.cell 4).trans (show _=some (.int .i64 o.t)from rfl)
      first|rw[if_pos rfl]|rw[if_pos trivial]
      clear hb7 hru HHo HB MO
      go_wp2_with fail
      refine HHo7.out.mono ?_;clear HHo7 o0 o1 o2 o3 o4;rintro e w8 ⟨rfl,hb8⟩;have HB8:=hid (HB7.out.trans (hb8.mono HB7.out.size));have MO8:=hid (MO7.out.below hb8 MO7.out.lt);have kc:=(HV.out w8 HB8.out).knd 4 (by decide)
      simp only[kindC,List.getElem_cons_zero,List.getElem_cons_succ]at kc;clear hb8 HB7 MO7;cases x with
      | true=>
        have hkt:=HHit.out rfl;have HKt:=hid hkt;clear hkt HHit HNx
        go_wp2_with fail
        go_ret2
        exact⟨by rw[HKt.out];rfl,HB8.out⟩
      | false=>
        have HN:=hid (HNx.out rfl);clear HHit HNx kc
        go_wp2_with fail
        go_roundw
        case rel=>exact⟨5,by omega,rfl,HN.out,MO8.out,HB8.out⟩
        case measure=>simp[intOf]
    ·have hkt:kt=othB:=HP.out;have HKt:=hid hkt;clear hkt HP
     go_wp2_with fail
     go_ret2
     exact⟨by rw[HKt.out];rfl,HB.out⟩
  ·obtain rfl:ke=1:=HKe.out.trans (HD2.out hd);have hkt:kt=⟨#[]⟩:=HK.out.2 (by decide)
   have HKt:=hid hkt;rw[HD2.out hd,errD_ne (by decide)]
   unfold OpV.val;clear hkt hd HD1 HD2 HKe HK;generalize opsO d=o at *;have HB5:Hid (Below w.heap.size w (w4.alloc (.cells #[.int .i64 o.i,.int .i64 o.v,.int .i64 o.w,.int .i64 o.f,.int .i64 o.t] 97))):=hid (HB4.out.alloc HB4.out.size _)
   go_wp2_with fail
   go_ret2
   exact⟨by rw[HKt.out];rfl,HB5.out⟩
 ·obtain rfl:ke=3:=HE.out.2 (by decide)
  have hkt:kt=⟨#[]⟩:=HK.out.2 (by decide)
  have HKt:=hid hkt;rw[errD_ne (by decide)]
  clear hkt HE HK HOk
  go_wp2_with fail
  go_ret2
  exact⟨by rw[HKt.out];rfl,HB3.out⟩
end Go.Proofs.YtagfnpdoooachaaGreatDoor
namespace Go.Proofs.YtagfnpdoooachaaGreatDoor
open Go.RowKit Go.Maps
open Lib (hid)
def set_en:SetV:=⟨⟨#[]⟩,⟨#[105,32,61,32,49,32,97,110,100,32,118,32,61,32,48]⟩,⟨#[]⟩,⟨#[]⟩,⟨#[]⟩⟩
def set_de:SetV:=⟨⟨#[]⟩,⟨#[105,32,61,32,49,32,97,110,100,32,118,32,61,32,48]⟩,⟨#[]⟩,⟨#[]⟩,⟨#[]⟩⟩
def set_fr:SetV:=⟨⟨#[]⟩,⟨#[105,32,61,32,48,44,49]⟩,⟨#[]⟩,⟨#[]⟩,⟨#[]⟩⟩
def set_ja:SetV:=⟨⟨#[]⟩,⟨#[]⟩,⟨#[]⟩,⟨#[]⟩,⟨#[]⟩⟩
def set_pl:SetV:=⟨⟨#[]⟩,⟨#[105,32,61,32,49,32,97,110,100,32,118,32,61,32,48]⟩,⟨#[]⟩,⟨#[118,32,61,32,48,32,97,110,100,32,105,32,37,32,49,48,32,61,32,50,46,46,52,32,97,110,100,32,105,32,37,32,49,48,48,32,33,61,32,49,50,46,46,49,52]⟩,⟨#[118,32,61,32,48,32,97,110,100,32,105,32,33,61,32,49,32,97,110,100,32,105,32,37,32,49,48,32,61,32,48,46,46,49,32,111,114,32,118,32,61,32,48,32,97,110,100,32,105,32,37,32,49,48,32,61,32,53,46,46,57,32,111,114,32,118,32,61,32,48,32,97,110,100,32,105,32,37,32,49,48,48,32,61,32,49,50,46,46,49,52]⟩⟩
def set_ru:SetV:=⟨⟨#[]⟩,⟨#[118,32,61,32,48,32,97,110,100,32,105,32,37,32,49,48,32,61,32,49,32,97,110,100,32,105,32,37,32,49,48,48,32,33,61,32,49,49]⟩,⟨#[]⟩,⟨#[118,32,61,32,48,32,97,110,100,32,105,32,37,32,49,48,32,61,32,50,46,46,52,32,97,110,100,32,105,32,37,32,49,48,48,32,33,61,32,49,50,46,46,49,52]⟩,⟨#[118,32,61,32,48,32,97,110,100,32,105,32,37,32,49,48,32,61,32,48,32,111,114,32,118,32,61,32,48,32,97,110,100,32,105,32,37,32,49,48,32,61,32,53,46,46,57,32,111,114,32,118,32,61,32,48,32,97,110,100,32,105,32,37,32,49,48,48,32,61,32,49,49,46,46,49,52]⟩⟩
def set_ar:SetV:=⟨⟨#[110,32,61,32,48]⟩,⟨#[110,32,61,32,49]⟩,⟨#[110,32,61,32,50]⟩,⟨#[110,32,37,32,49,48,48,32,61,32,51,46,46,49,48]⟩,⟨#[110,32,37,32,49,48,48,32,61,32,49,49,46,46,57,57]⟩⟩
def set_lv:SetV:=⟨⟨#[110,32,37,32,49,48,32,61,32,48,32,111,114,32,110,32,37,32,49,48,48,32,61,32,49,49,46,46,49,57,32,111,114,32,118,32,61,32,50,32,97,110,100,32,102,32,37,32,49,48,48,32,61,32,49,49,46,46,49,57]⟩,⟨#[110,32,37,32,49,48,32,61,32,49,32,97,110,100,32,110,32,37,32,49,48,48,32,33,61,32,49,49,32,111,114,32,118,32,61,32,50,32,97,110,100,32,102,32,37,32,49,48,32,61,32,49,32,97,110,100,32,102,32,37,32,49,48,48,32,33,61,32,49,49,32,111,114,32,118,32,33,61,32,50,32,97,110,100,32,102,32,37,32,49,48,32,61,32,49]⟩,⟨#[]⟩,⟨#[]⟩,⟨#[]⟩⟩
def set_no:SetV:=⟨⟨#[]⟩,⟨#[]⟩,⟨#[]⟩,⟨#[]⟩,⟨#[]⟩⟩
def langR (s:ByteArray):Option SetV:=
 if s=⟨#[108,118]⟩then some set_lv else if s=⟨#[97,114]⟩then some set_ar else if s=⟨#[114,117]⟩then some set_ru else if s=⟨#[112,108]⟩then some set_pl else if s=⟨#[106,97]⟩then some set_ja else if s=⟨#[102,114]⟩then some set_fr else if s=⟨#[100,101]⟩then some set_de else if s=⟨#[101,110]⟩then some set_en else none
theorem set_small:set_en.small∧set_de.small∧set_fr.small∧set_ja.small∧set_pl.small∧set_ru.small∧set_ar.small∧set_lv.small∧set_no.small:=by
 refine⟨?_,?_,?_,?_,?_,?_,?_,?_,?_⟩ <;> (intro t ht;revert t;decide)
theorem langR_small (s:ByteArray):((langR s).getD set_no).small:=by
 obtain⟨h1,h2,h3,h4,h5,h6,h7,h8,h9⟩:=set_small;unfold langR
 repeat' split
 all_goals assumption
def rulesF:ByteArray→Option Value:=putV (putV (putV (putV (putV (putV (putV (putV (fun _=>none) ⟨#[101,110]⟩ set_en.val) ⟨#[100,101]⟩ set_de.val) ⟨#[102,114]⟩ set_fr.val) ⟨#[106,97]⟩ set_ja.val) ⟨#[112,108]⟩ set_pl.val) ⟨#[114,117]⟩ set_ru.val) ⟨#[97,114]⟩ set_ar.val) ⟨#[108,118]⟩ set_lv.val
theorem rulesF_eq (s:ByteArray):rulesF s=(langR s).map SetV.val:=by
 unfold rulesF langR;simp only[putV]
 repeat' split
 all_goals rfl
theorem setTurn {w w':World} {b:Nat} {B:Nat} (h:w.grownBy w' (some b)) (hB:B≤b) (hs:B≤w.heap.size) {w0:World} (hb:Below B w0 w):Below B w0 w':=hb.grown h hs (fun k e=>by cases e;exact hB)
theorem rules_any (w:World):Calls Tryz.prog 60 #[] w fun e w'=>∃ b,e=.returned (.map (some b))∧w.heap.size≤b∧OwnsV w' b 8 rulesF∧Below w.heap.size w w':=by
 have hmm:=@run_makeMap Tryz.prog;obtain⟨W1,eW1⟩:∃ W1,W1=w.alloc (.cells #[.string ⟨#[]⟩,.string ⟨#[105,32,61,32,49,32,97,110,100,32,118,32,61,32,48]⟩,.string ⟨#[]⟩,.string ⟨#[]⟩,.string ⟨#[]⟩] 54):=⟨_,rfl⟩;have mb:Blk W1 w.heap.size 54 #[.string ⟨#[]⟩,.string ⟨#[105,32,61,32,49,32,97,110,100,32,118,32,61,32,48]⟩,.string ⟨#[]⟩,.string ⟨#[]⟩,.string ⟨#[]⟩]:=by rw[eW1];exact Blk.new _ _ _
 have hs1:W1.heap.size=w.heap.size+1:=by rw[eW1];simp
 have HB1:Hid (Below w.heap.size w (W1.alloc (.map #[] 0))):=hid (by rw[eW1];exact((Below.refl _ _).alloc (Nat.le_refl _) _).alloc (by simp) _)
 have HO0:Hid (OwnsV (W1.alloc (.map #[] 0)) (w.heap.size+1) 0 (fun _=>none)):=hid (by have h:=OwnsV.made W1;rwa[hs1]at h)
 have MB:=hid mb;have EW:=hid eW1;have hz:(W1.alloc (.map #[] 0)).heap.size=w.heap.size+2:=by simp[hs1]
 have HZ:=hid hz;have mb1:=mb.alloc (.map #[] 0);have k0:=(mb1.cell 0).trans (show _=some (.string ⟨#[]⟩)from rfl);have k1:=(mb1.cell 1).trans (show _=some (.string ⟨#[105,32,61,32,49,32,97,110,100,32,118,32,61,32,48]⟩)from rfl);have k2:=(mb1.cell 2).trans (show _=some (.string ⟨#[]⟩)from rfl);have k3:=(mb1.cell 3).trans (show _=some (.string ⟨#[]⟩)from rfl);have k4:=(mb1.cell 4).trans (show _=some (.string ⟨#[]⟩)from rfl);have MB1:=hid mb1;clear eW1 mb mb1 hz
 go_enter Tryz.func60,Tryz.ntmps60
 go_upto_region 2 with fail
 rw[←EW.out];clear EW
 go_wp2_with (refine wpList_insert_V rfl _ _ _ 107 54 rfl Tryz.underlying107 (w.heap.size+1) 0 _ rfl HO0.out (by decide) ⟨#[101,110]⟩ (.agg #[.string ⟨#[]⟩,.string ⟨#[105,32,61,32,49,32,97,110,100,32,118,32,61,32,48]⟩,.string ⟨#[]⟩,.string ⟨#[]⟩,.string ⟨#[]⟩]) rfl rfl (by decide) ?_)
 intro w1 hown1 hg1;have HO1:=hid hown1;have HZ1:Hid (w.heap.size+2≤w1.heap.size):=hid (by have:=hg1.size;have:=HZ.out;omega)
 have HC1:Hid (Below w.heap.size w w1):=hid (setTurn hg1 (by omega) (by have:=HZ.out;omega) HB1.out)
 have mb2:Blk w1 w.heap.size 54 _:=(hg1.block w.heap.size MB1.out.lt (by simp)).trans MB1.out
 have d0:=(mb2.cell 0).trans (show _=some (.string ⟨#[]⟩)from rfl);have d1:=(mb2.cell 1).trans (show _=some (.string ⟨#[105,32,61,32,49,32,97,110,100,32,118,32,61,32,48]⟩)from rfl);have d2:=(mb2.cell 2).trans (show _=some (.string ⟨#[]⟩)from rfl);have d3:=(mb2.cell 3).trans (show _=some (.string ⟨#[]⟩)from rfl);have d4:=(mb2.cell 4).trans (show _=some (.string ⟨#[]⟩)from rfl);clear mb2 k0 k1 k2 k3 k4;clear hown1 hg1
 go_wp2_with (refine wpList_insert_V rfl _ _ _ 107 54 rfl Tryz.underlying107 (w.heap.size+1) 1 _ rfl HO1.out (by decide) ⟨#[100,101]⟩ (.agg #[.string ⟨#[]⟩,.string ⟨#[105,32,61,32,49,32,97,110,100,32,118,32,61,32,48]⟩,.string ⟨#[]⟩,.string ⟨#[]⟩,.string ⟨#[]⟩]) rfl rfl (by decide) ?_)
 intro w2 hown2 hg2;have HO2:=hid hown2;have HZ2:Hid (w.heap.size+2≤w2.heap.size):=hid (by have:=hg2.size;have:=HZ1.out;omega)
 have HC2:Hid (Below w.heap.size w w2):=hid (setTurn hg2 (by omega) (by have:=HZ1.out;omega) HC1.out)
 clear d0 d1 d2 d3 d4;clear hown2 hg2
 go_wp2_with (refine wpList_insert_V rfl _ _ _ 107 54 rfl Tryz.underlying107 (w.heap.size+1) 2 _ rfl HO2.out (by decide) ⟨#[102,114]⟩ (.agg #[.string ⟨#[]⟩,.string ⟨#[105,32,61,32,48,44,49]⟩,.string ⟨#[]⟩,.string ⟨#[]⟩,.string ⟨#[]⟩]) rfl rfl (by decide) ?_)
 intro w3 hown3 hg3;have HO3:=hid hown3;have HZ3:Hid (w.heap.size+2≤w3.heap.size):=hid (by have:=hg3.size;have:=HZ2.out;omega)
 have HC3:Hid (Below w.heap.size w w3):=hid (setTurn hg3 (by omega) (by have:=HZ2.out;omega) HC2.out)
 clear hown3 hg3
 go_wp2_with (refine wpList_insert_V rfl _ _ _ 107 54 rfl Tryz.underlying107 (w.heap.size+1) 3 _ rfl HO3.out (by decide) ⟨#[106,97]⟩ (.agg #[.string ⟨#[]⟩,.string ⟨#[]⟩,.string ⟨#[]⟩,.string ⟨#[]⟩,.string ⟨#[]⟩]) rfl rfl (by decide) ?_)
 intro w4 hown4 hg4;have HO4:=hid hown4;have HZ4:Hid (w.heap.size+2≤w4.heap.size):=hid (by have:=hg4.size;have:=HZ3.out;omega)
 have HC4:Hid (Below w.heap.size w w4):=hid (setTurn hg4 (by omega) (by have:=HZ3.out;omega) HC3.out)
 clear hown4 hg4
 go_wp2_with (refine wpList_insert_V rfl _ _ _ 107 54 rfl Tryz.underlying107 (w.heap.size+1) 4 _ rfl HO4.out (by decide) ⟨#[112,108]⟩ (.agg #[.string ⟨#[]⟩,.string ⟨#[105,32,61,32,49,32,97,110,100,32,118,32,61,32,48]⟩,.string ⟨#[]⟩,.string ⟨#[118,32,61,32,48,32,97,110,100,32,105,32,37,32,49,48,32,61,32,50,46,46,52,32,97,110,100,32,105,32,37,32,49,48,48,32,33,61,32,49,50,46,46,49,52]⟩,.string ⟨#[118,32,61,32,48,32,97,110,100,32,105,32,33,61,32,49,32,97,110,100,32,105,32,37,32,49,48,32,61,32,48,46,46,49,32,111,114,32,118,32,61,32,48,32,97,110,100,32,105,32,37,32,49,48,32,61,32,53,46,46,57,32,111,114,32,118,32,61,32,48,32,97,110,100,32,105,32,37,32,49,48,48,32,61,32,49,50,46,46,49,52]⟩]) rfl rfl (by decide) ?_)
 intro w5 hown5 hg5;have HO5:=hid hown5;have HZ5:Hid (w.heap.size+2≤w5.heap.size):=hid (by have:=hg5.size;have:=HZ4.out;omega)
 have HC5:Hid (Below w.heap.size w w5):=hid (setTurn hg5 (by omega) (by have:=HZ4.out;omega) HC4.out)
 clear hown5 hg5
 go_wp2_with (refine wpList_insert_V rfl _ _ _ 107 54 rfl Tryz.underlying107 (w.heap.size+1) 5 _ rfl HO5.out (by decide) ⟨#[114,117]⟩ (.agg #[.string ⟨#[]⟩,.string ⟨#[118,32,61,32,48,32,97,110,100,32,105,32,37,32,49,48,32,61,32,49,32,97,110,100,32,105,32,37,32,49,48,48,32,33,61,32,49,49]⟩,.string ⟨#[]⟩,.string ⟨#[118,32,61,32,48,32,97,110,100,32,105,32,37,32,49,48,32,61,32,50,46,46,52,32,97,110,100,32,105,32,37,32,49,48,48,32,33,61,32,49,50,46,46,49,52]⟩,.string ⟨#[118,32,61,32,48,32,97,110,100,32,105,32,37,32,49,48,32,61,32,48,32,111,114,32,118,32,61,32,48,32,97,110,100,32,105,32,37,32,49,48,32,61,32,53,46,46,57,32,111,114,32,118,32,61,32,48,32,97,110,100,32,105,32,37,32,49,48,48,32,61,32,49,49,46,46,49,52]⟩]) rfl rfl (by decide) ?_)
 intro w6 hown6 hg6;have HO6:=hid hown6;have HZ6:Hid (w.heap.size+2≤w6.heap.size):=hid (by have:=hg6.size;have:=HZ5.out;omega)
 have HC6:Hid (Below w.heap.size w w6):=hid (setTurn hg6 (by omega) (by have:=HZ5.out;omega) HC5.out)
 clear hown6 hg6
 go_wp2_with (refine wpList_insert_V rfl _ _ _ 107 54 rfl Tryz.underlying107 (w.heap.size+1) 6 _ rfl HO6.out (by decide) ⟨#[97,114]⟩ (.agg #[.string ⟨#[110,32,61,32,48]⟩,.string ⟨#[110,32,61,32,49]⟩,.string ⟨#[110,32,61,32,50]⟩,.string ⟨#[110,32,37,32,49,48,48,32,61,32,51,46,46,49,48]⟩,.string ⟨#[110,32,37,32,49,48,48,32,61,32,49,49,46,46,57,57]⟩]) rfl rfl (by decide) ?_)
 intro w7 hown7 hg7;have HO7:=hid hown7;have HZ7:Hid (w.heap.size+2≤w7.heap.size):=hid (by have:=hg7.size;have:=HZ6.out;omega)
 have HC7:Hid (Below w.heap.size w w7):=hid (setTurn hg7 (by omega) (by have:=HZ6.out;omega) HC6.out)
 clear hown7 hg7
 go_wp2_with (refine wpList_insert_V rfl _ _ _ 107 54 rfl Tryz.underlying107 (w.heap.size+1) 7 _ rfl HO7.out (by decide) ⟨#[108,118]⟩ (.agg #[.string ⟨#[110,32,37,32,49,48,32,61,32,48,32,111,114,32,110,32,37,32,49,48,48,32,61,32,49,49,46,46,49,57,32,111,114,32,118,32,61,32,50,32,97,110,100,32,102,32,37,32,49,48,48,32,61,32,49,49,46,46,49,57]⟩,.string ⟨#[110,32,37,32,49,48,32,61,32,49,32,97,110,100,32,110,32,37,32,49,48,48,32,33,61,32,49,49,32,111,114,32,118,32,61,32,50,32,97,110,100,32,102,32,37,32,49,48,32,61,32,49,32,97,110,100,32,102,32,37,32,49,48,48,32,33,61,32,49,49,32,111,114,32,118,32,33,61,32,50,32,97,110,100,32,102,32,37,32,49,48,32,61,32,49]⟩,.string ⟨#[]⟩,.string ⟨#[]⟩,.string ⟨#[]⟩]) rfl rfl (by decide) ?_)
 intro w8 hown8 hg8;have HO8:=hid hown8;have HZ8:Hid (w.heap.size+2≤w8.heap.size):=hid (by have:=hg8.size;have:=HZ7.out;omega)
 have HC8:Hid (Below w.heap.size w w8):=hid (setTurn hg8 (by omega) (by have:=HZ7.out;omega) HC7.out)
 clear hown8 hg8
 go_wp2_with fail
 go_ret
 exact⟨w.heap.size+1,rfl,Nat.le_succ _,HO8.out,HC8.out⟩
end Go.Proofs.YtagfnpdoooachaaGreatDoor
