/- plural.texts, plural.Check. -/
import Derived.Test.YtagfnpdoooachaaGreatDoorParseR
set_option linter.unusedSimpArgs false
set_option linter.unusedVariables false
set_option maxHeartbeats 6400000
set_option maxRecDepth 100000
namespace Go.Proofs.YtagfnpdoooachaaGreatDoor
open Go.RowKit
open Lib (hid)
structure SetV where
 z:ByteArray
 o:ByteArray
 t:ByteArray
 f:ByteArray
 m:ByteArray
def SetV.list (s:SetV):List ByteArray:=[s.z,s.o,s.t,s.f,s.m]
def SetV.val (s:SetV):Value:=.agg #[.string s.z,.string s.o,.string s.t,.string s.f,.string s.m]
def SetV.small (s:SetV):Prop:=∀ t∈s.list,t.size≤10000
instance (s:List UInt8):Decidable (ParseOkR s):=by unfold ParseOkR;infer_instance
def okT (t:ByteArray):Bool:=t.toList.isEmpty || decide (ParseOkR (bts t))
def checkS (s:SetV):Int:=if s.list.all okT then 0 else 3
theorem texts_any' (s:SetV) (w:World):Calls Tryz.prog 57 #[s.val] w fun e w'=>e=.returned s.val∧Below w.heap.size w w':=by
 obtain⟨a,b,c,d,f⟩:=s;unfold SetV.val;dsimp only;have MR:Hid (Blk ((w.alloc (.cells #[.string a,.string b,.string c,.string d,.string f] 54)).alloc (.cells #[.string ⟨#[]⟩,.string ⟨#[]⟩,.string ⟨#[]⟩,.string ⟨#[]⟩,.string ⟨#[]⟩] 100)) (w.heap.size+1) 100 #[.string ⟨#[]⟩,.string ⟨#[]⟩,.string ⟨#[]⟩,.string ⟨#[]⟩,.string ⟨#[]⟩]):=hid (by
  have:=Blk.new (w.alloc (.cells #[.string a,.string b,.string c,.string d,.string f] 54)) 100 #[.string ⟨#[]⟩,.string ⟨#[]⟩,.string ⟨#[]⟩,.string ⟨#[]⟩,.string ⟨#[]⟩];rw[World.size_alloc]at this;exact this)
 have HB:Hid (Below w.heap.size w ((w.alloc (.cells #[.string a,.string b,.string c,.string d,.string f] 54)).alloc (.cells #[.string ⟨#[]⟩,.string ⟨#[]⟩,.string ⟨#[]⟩,.string ⟨#[]⟩,.string ⟨#[]⟩] 100))):=hid (((Below.refl _ _).alloc (Nat.le_refl _) _).alloc (by simp) _)
 generalize hW:(w.alloc (.cells #[.string a,.string b,.string c,.string d,.string f] 54)).alloc (.cells #[.string ⟨#[]⟩,.string ⟨#[]⟩,.string ⟨#[]⟩,.string ⟨#[]⟩,.string ⟨#[]⟩] 100)=W at *;have MA:Hid (Blk W w.heap.size 54 #[.string a,.string b,.string c,.string d,.string f]):=hid (by rw[←hW];exact(Blk.new _ _ _).alloc _)
 have HW:=hid hW;clear hW;have k0:=(MA.out.cell 0).trans (show _=some (.string a)from rfl);have k1:=(MA.out.cell 1).trans (show _=some (.string b)from rfl);have k2:=(MA.out.cell 2).trans (show _=some (.string c)from rfl);have k3:=(MA.out.cell 3).trans (show _=some (.string d)from rfl);have k4:=(MA.out.cell 4).trans (show _=some (.string f)from rfl);have r0:=(MR.out.cell 0).trans (show _=some (.string ⟨#[]⟩)from rfl);have r1:=(MR.out.cell 1).trans (show _=some (.string ⟨#[]⟩)from rfl);have r2:=(MR.out.cell 2).trans (show _=some (.string ⟨#[]⟩)from rfl);have r3:=(MR.out.cell 3).trans (show _=some (.string ⟨#[]⟩)from rfl);have r4:=(MR.out.cell 4).trans (show _=some (.string ⟨#[]⟩)from rfl);have f0:=MR.out.frozen 0;have f1:=MR.out.frozen 1;have f2:=MR.out.frozen 2;have f3:=MR.out.frozen 3;have f4:=MR.out.frozen 4
 go_enter Tryz.func57,Tryz.ntmps57
 go_upto_region 1 with fail
 rw[HW.out];clear HW
 go_wp2_with fail
 refine bodyPost_ret (v:=.agg #[.string a,.string b,.string c,.string d,.string f]) ?_ rfl ?_
 ·simp[results,Tryz.results57,go_sem,r0,r1,r2,r3,r4,f0,f1,f2,f3,f4]
 ·refine⟨rfl,?_⟩
  repeat' (first|exact HB.out|refine Below.setCell ?_ (by show w.heap.size≤w.heap.size+1;omega) _)
theorem okT_nil {t:ByteArray} (h:t.toList=[]):okT t=true:=by unfold okT;rw[h];rfl
theorem okT_par {t:ByteArray} (h:t.toList≠[]):okT t=decide (ParseOkR (bts t)):=by
 unfold okT;cases e:t.toList with
 | nil=>exact absurd e h
 | cons a l=>rfl
theorem checkS_no {s:SetV} {t:ByteArray} (h:t∈s.list) (hn:okT t=false):checkS s=3:=if_neg (by
 intro hall;have:=List.all_eq_true.1 hall t h;rw[hn]at this;cases this)
theorem parseC_any (t:ByteArray) (w:World) (hs:t.size≤10000) (hv:EvV w) (hn:t.toList≠[]):
 Calls Tryz.prog 58 #[.string t] w fun e w'=>Below w.heap.size w w'∧∃ v,e=.returned (.tuple #[v,if okT t=true then .nilIface else .iface 27 (.int .i64 3)])∧(okT t=true→RuIn w' 0 v (ruleOf (bts t)))∧∃ A n c,v=.slice A n c:=by
 obtain⟨m,hm⟩:=hv.rv.max;have h:=Parse_any (bts t) w (by rw[bts_len];omega) hv.rv (cell_lt hm)
 rw[str_bts]at h;refine h.mono ?_;rintro e w' ⟨hb,⟨hok,v,us,rfl,hu,hr⟩|⟨hno,rfl⟩⟩
 ·have hd:okT t=true:=by rw[okT_par hn];exact decide_eq_true hok
  refine⟨hb,v,by rw[if_pos hd],fun _=> ?_,?_⟩
  ·obtain⟨l1,l2⟩:=rule_len (bts t);have l3:=bts_len t;have hl:=hr.list (lo:=0) (hi:=w'.heap.size) (Nat.zero_le _) (Nat.le_refl _);rw[hu]at hl;exact⟨hl,by omega,fun p hp=>by have:=(l2 p hp).1;omega,fun p hp r hrr=>by have:=(l2 p hp).2 r hrr;omega⟩
  ·obtain⟨A,c,hv',_⟩:=own_slice hr.row;exact⟨A,_,c,hv'⟩
 ·have hd:okT t=false:=by rw[okT_par hn];exact decide_eq_false hno
  exact⟨hb,.slice none 0 0,by rw[hd];rfl,(fun h=>by rw[hd]at h;cases h),none,0,0,rfl⟩
theorem pcheck_any (s:SetV) (w:World) (hs:s.small) (hv:EvV w):Calls Tryz.prog 55 #[s.val] w fun e w'=>e=.returned (errD (checkS s))∧Below w.heap.size w w':=by
 have HT:Hid (∀ W,Calls Tryz.prog 57 #[s.val] W fun e w'=>e=.returned s.val∧Below W.heap.size W w'):=hid fun W=>texts_any' s W;have HV:Hid (∀ W,Below w.heap.size w W→EvV W):=hid fun W hW=>hv.below hW;have HNo:Hid (∀ t∈s.list,okT t=false→checkS s=3):=hid fun t h hn=>checkS_no h hn;have HYes:Hid ((∀ t∈s.list,okT t=true)→checkS s=0):=hid fun h=>if_pos (List.all_eq_true.2 h);have HSm:Hid (∀ t∈s.list,t.size≤10000):=hid hs;generalize checkS s=r at *;obtain⟨a,b,c,d,f⟩:=s;unfold SetV.val SetV.list at *;dsimp only at *;have HB1:Hid (Below w.heap.size w (w.alloc (.cells #[.string a,.string b,.string c,.string d,.string f] 54))):=hid ((Below.refl _ _).alloc (Nat.le_refl _) _);have i0:∀ w,(Instr.index 100 (.agg #[.string a,.string b,.string c,.string d,.string f]) (.int .i64 0)).run Tryz.prog w=.ok (.string a) w:=fun _=>by kernel_rfl
 have i1:∀ w,(Instr.index 100 (.agg #[.string a,.string b,.string c,.string d,.string f]) (.int .i64 1)).run Tryz.prog w=.ok (.string b) w:=fun _=>by kernel_rfl
 have i2:∀ w,(Instr.index 100 (.agg #[.string a,.string b,.string c,.string d,.string f]) (.int .i64 2)).run Tryz.prog w=.ok (.string c) w:=fun _=>by kernel_rfl
 have i3:∀ w,(Instr.index 100 (.agg #[.string a,.string b,.string c,.string d,.string f]) (.int .i64 3)).run Tryz.prog w=.ok (.string d) w:=fun _=>by kernel_rfl
 have i4:∀ w,(Instr.index 100 (.agg #[.string a,.string b,.string c,.string d,.string f]) (.int .i64 4)).run Tryz.prog w=.ok (.string f) w:=fun _=>by kernel_rfl
 clear hv hs
 go_enter Tryz.func55,Tryz.ntmps55
 go_wp2_with fail
 refine(HT.out _).mono ?_;clear HT;rintro e w2 ⟨rfl,hb2⟩;have HB2:=hid (HB1.out.trans (hb2.mono HB1.out.size));clear hb2 HB1
 go_wp2_with fail
 go_loopw [9] (fun i wr=>∃ j:Nat,j≤5∧i=.int .i64 (j:Int)∧Hid (∀ t∈[a,b,c,d,f].take j,okT t=true)∧Below w.heap.size w wr) (fun i _=>5 - (intOf i).toNat)
 case atStart=>exact⟨0,Nat.zero_le _,rfl,hid (fun t h=>(by cases h)),HB2.out⟩
 case round=>
  clear HB2;obtain⟨j,hj,rfl,HO,hb⟩:=hrel;have HB:=hid hb;have HE:=hid (HV.out wr hb);clear hb HV;have hcase:j=0∨j=1∨j=2∨j=3∨j=4∨j=5:=by omega
  rcases hcase with rfl|rfl|rfl|rfl|rfl|rfl
  ·by_cases hq:a.toList=[]
   ·have hq2:(a.toList == [])=true:=by rw[hq];rfl
    have HN:Hid (∀ t∈[a,b,c,d,f].take 1,okT t=true):=hid fun t ht=>by
     rw[show [a,b,c,d,f].take 1=[a,b,c,d,f].take 0++[a]from rfl]at ht;rcases List.mem_append.1 ht with ht|ht
     ·exact HO.out t ht
     ·obtain rfl:=List.mem_singleton.1 ht;exact okT_nil hq
    clear hq
    go_wp2_with fail
    go_roundw
    case rel=>exact⟨1,by omega,rfl,HN,HB.out⟩
    case measure=>simp[intOf]
   ·have hq2:(a.toList == [])=false:=by
     cases e:a.toList with
     | nil=>exact absurd e hq
     | cons _ _=>rfl
    have HP:=hid (parseC_any a wr (HSm.out a (by simp)) HE.out hq)
    have HN:Hid (okT a=true→∀ t∈[a,b,c,d,f].take 1,okT t=true):=hid fun h t ht=>by
     rw[show [a,b,c,d,f].take 1=[a,b,c,d,f].take 0++[a]from rfl]at ht;rcases List.mem_append.1 ht with ht|ht
     ·exact HO.out t ht
     ·obtain rfl:=List.mem_singleton.1 ht;exact h
    have HNo2:Hid (okT a=false→r=3):=hid fun h=>HNo.out a (by simp) h
    clear hq HE HNo HO HSm;generalize okT a=x at*
    go_wp2_with fail
    refine HP.out.mono ?_;clear HP;rintro e w3 ⟨hb3,v,rfl,_,A,n,cp,rfl⟩;have HB3:=hid (HB.out.trans (hb3.mono HB.out.size));clear hb3;cases x with
    | true=>
      have HN2:=hid (HN.out rfl);rw[if_pos rfl];clear HN HNo2
      go_wp2_with fail
      go_roundw
      case rel=>exact⟨1,by omega,rfl,HN2.out,HB3.out⟩
      case measure=>simp[intOf]
    | false=>
      obtain rfl:r=3:=HNo2.out rfl;rw[if_neg (by decide)]
      clear HN
      go_wp2_with fail
      go_ret
      exact⟨rfl,HB3.out⟩
  ·by_cases hq:b.toList=[]
   ·have hq2:(b.toList == [])=true:=by rw[hq];rfl
    have HN:Hid (∀ t∈[a,b,c,d,f].take 2,okT t=true):=hid fun t ht=>by
     rw[show [a,b,c,d,f].take 2=[a,b,c,d,f].take 1++[b]from rfl]at ht;rcases List.mem_append.1 ht with ht|ht
     ·exact HO.out t ht
     ·obtain rfl:=List.mem_singleton.1 ht;exact okT_nil hq
    clear hq
    go_wp2_with fail
    go_roundw
    case rel=>exact⟨2,by omega,rfl,HN,HB.out⟩
    case measure=>simp[intOf]
   ·have hq2:(b.toList == [])=false:=by
     cases e:b.toList with
     | nil=>exact absurd e hq
     | cons _ _=>rfl
    have HP:=hid (parseC_any b wr (HSm.out b (by simp)) HE.out hq)
    have HN:Hid (okT b=true→∀ t∈[a,b,c,d,f].take 2,okT t=true):=hid fun h t ht=>by
     rw[show [a,b,c,d,f].take 2=[a,b,c,d,f].take 1++[b]from rfl]at ht;rcases List.mem_append.1 ht with ht|ht
     ·exact HO.out t ht
     ·obtain rfl:=List.mem_singleton.1 ht;exact h
    have HNo2:Hid (okT b=false→r=3):=hid fun h=>HNo.out b (by simp) h
    clear hq HE HNo HO HSm;generalize okT b=x at*
    go_wp2_with fail
    refine HP.out.mono ?_;clear HP;rintro e w3 ⟨hb3,v,rfl,_,A,n,cp,rfl⟩;have HB3:=hid (HB.out.trans (hb3.mono HB.out.size));clear hb3;cases x with
    | true=>
      have HN2:=hid (HN.out rfl);rw[if_pos rfl];clear HN HNo2
      go_wp2_with fail
      go_roundw
      case rel=>exact⟨2,by omega,rfl,HN2.out,HB3.out⟩
      case measure=>simp[intOf]
    | false=>
      obtain rfl:r=3:=HNo2.out rfl;rw[if_neg (by decide)]
      clear HN
      go_wp2_with fail
      go_ret
      exact⟨rfl,HB3.out⟩
  ·by_cases hq:c.toList=[]
   ·have hq2:(c.toList == [])=true:=by rw[hq];rfl
    have HN:Hid (∀ t∈[a,b,c,d,f].take 3,okT t=true):=hid fun t ht=>by
     rw[show [a,b,c,d,f].take 3=[a,b,c,d,f].take 2++[c]from rfl]at ht;rcases List.mem_append.1 ht with ht|ht
     ·exact HO.out t ht
     ·obtain rfl:=List.mem_singleton.1 ht;exact okT_nil hq
    clear hq
    go_wp2_with fail
    go_roundw
    case rel=>exact⟨3,by omega,rfl,HN,HB.out⟩
    case measure=>simp[intOf]
   ·have hq2:(c.toList == [])=false:=by
     cases e:c.toList with
     | nil=>exact absurd e hq
     | cons _ _=>rfl
    have HP:=hid (parseC_any c wr (HSm.out c (by simp)) HE.out hq)
    have HN:Hid (okT c=true→∀ t∈[a,b,c,d,f].take 3,okT t=true):=hid fun h t ht=>by
     rw[show [a,b,c,d,f].take 3=[a,b,c,d,f].take 2++[c]from rfl]at ht;rcases List.mem_append.1 ht with ht|ht
     ·exact HO.out t ht
     ·obtain rfl:=List.mem_singleton.1 ht;exact h
    have HNo2:Hid (okT c=false→r=3):=hid fun h=>HNo.out c (by simp) h
    clear hq HE HNo HO HSm;generalize okT c=x at*
    go_wp2_with fail
    refine HP.out.mono ?_;clear HP;rintro e w3 ⟨hb3,v,rfl,_,A,n,cp,rfl⟩;have HB3:=hid (HB.out.trans (hb3.mono HB.out.size));clear hb3;cases x with
    | true=>
      have HN2:=hid (HN.out rfl);rw[if_pos rfl];clear HN HNo2
      go_wp2_with fail
      go_roundw
      case rel=>exact⟨3,by omega,rfl,HN2.out,HB3.out⟩
      case measure=>simp[intOf]
    | false=>
      obtain rfl:r=3:=HNo2.out rfl;rw[if_neg (by decide)]
      clear HN
      go_wp2_with fail
      go_ret
      exact⟨rfl,HB3.out⟩
  ·by_cases hq:d.toList=[]
   ·have hq2:(d.toList == [])=true:=by rw[hq];rfl
    have HN:Hid (∀ t∈[a,b,c,d,f].take 4,okT t=true):=hid fun t ht=>by
     rw[show [a,b,c,d,f].take 4=[a,b,c,d,f].take 3++[d]from rfl]at ht;rcases List.mem_append.1 ht with ht|ht
     ·exact HO.out t ht
     ·obtain rfl:=List.mem_singleton.1 ht;exact okT_nil hq
    clear hq
    go_wp2_with fail
    go_roundw
    case rel=>exact⟨4,by omega,rfl,HN,HB.out⟩
    case measure=>simp[intOf]
   ·have hq2:(d.toList == [])=false:=by
     cases e:d.toList with
     | nil=>exact absurd e hq
     | cons _ _=>rfl
    have HP:=hid (parseC_any d wr (HSm.out d (by simp)) HE.out hq)
    have HN:Hid (okT d=true→∀ t∈[a,b,c,d,f].take 4,okT t=true):=hid fun h t ht=>by
     rw[show [a,b,c,d,f].take 4=[a,b,c,d,f].take 3++[d]from rfl]at ht;rcases List.mem_append.1 ht with ht|ht
     ·exact HO.out t ht
     ·obtain rfl:=List.mem_singleton.1 ht;exact h
    have HNo2:Hid (okT d=false→r=3):=hid fun h=>HNo.out d (by simp) h
    clear hq HE HNo HO HSm;generalize okT d=x at*
    go_wp2_with fail
    refine HP.out.mono ?_;clear HP;rintro e w3 ⟨hb3,v,rfl,_,A,n,cp,rfl⟩;have HB3:=hid (HB.out.trans (hb3.mono HB.out.size));clear hb3;cases x with
    | true=>
      have HN2:=hid (HN.out rfl);rw[if_pos rfl];clear HN HNo2
      go_wp2_with fail
      go_roundw
      case rel=>exact⟨4,by omega,rfl,HN2.out,HB3.out⟩
      case measure=>simp[intOf]
    | false=>
      obtain rfl:r=3:=HNo2.out rfl;rw[if_neg (by decide)]
      clear HN
      go_wp2_with fail
      go_ret
      exact⟨rfl,HB3.out⟩
  ·by_cases hq:f.toList=[]
   ·have hq2:(f.toList == [])=true:=by rw[hq];rfl
    have HN:Hid (∀ t∈[a,b,c,d,f].take 5,okT t=true):=hid fun t ht=>by
     rw[show [a,b,c,d,f].take 5=[a,b,c,d,f].take 4++[f]from rfl]at ht;rcases List.mem_append.1 ht with ht|ht
     ·exact HO.out t ht
     ·obtain rfl:=List.mem_singleton.1 ht;exact okT_nil hq
    clear hq
    go_wp2_with fail
    go_roundw
    case rel=>exact⟨5,by omega,rfl,HN,HB.out⟩
    case measure=>simp[intOf]
   ·have hq2:(f.toList == [])=false:=by
     cases e:f.toList with
     | nil=>exact absurd e hq
     | cons _ _=>rfl
    have HP:=hid (parseC_any f wr (HSm.out f (by simp)) HE.out hq)
    have HN:Hid (okT f=true→∀ t∈[a,b,c,d,f].take 5,okT t=true):=hid fun h t ht=>by
     rw[show [a,b,c,d,f].take 5=[a,b,c,d,f].take 4++[f]from rfl]at ht;rcases List.mem_append.1 ht with ht|ht
     ·exact HO.out t ht
     ·obtain rfl:=List.mem_singleton.1 ht;exact h
    have HNo2:Hid (okT f=false→r=3):=hid fun h=>HNo.out f (by simp) h
    clear hq HE HNo HO HSm;generalize okT f=x at*
    go_wp2_with fail
    refine HP.out.mono ?_;clear HP;rintro e w3 ⟨hb3,v,rfl,_,A,n,cp,rfl⟩;have HB3:=hid (HB.out.trans (hb3.mono HB.out.size));clear hb3;cases x with
    | true=>
      have HN2:=hid (HN.out rfl);rw[if_pos rfl];clear HN HNo2
      go_wp2_with fail
      go_roundw
      case rel=>exact⟨5,by omega,rfl,HN2.out,HB3.out⟩
      case measure=>simp[intOf]
    | false=>
      obtain rfl:r=3:=HNo2.out rfl;rw[if_neg (by decide)]
      clear HN
      go_wp2_with fail
      go_ret
      exact⟨rfl,HB3.out⟩
  ·obtain rfl:r=0:=HYes.out HO.out;clear HO
   go_wp2_with fail
   go_ret
   exact⟨rfl,HB.out⟩
end Go.Proofs.YtagfnpdoooachaaGreatDoor
