/- plural.texts, plural.Check. -/
import Derived.Test.YtpfmmbbggcghiaaGreatDoorParseR
set_option linter.unusedSimpArgs false
set_option linter.unusedVariables false
set_option maxHeartbeats 6400000
set_option maxRecDepth 100000
namespace Go.Proofs.YtpfmmbbggcghiaaGreatDoor
open Go.RowKit
open Lib (hid)
structure SetV where
 z:ByteArray
 o:ByteArray
 t:ByteArray
 f:ByteArray
 m:ByteArray
def SetV.list (s:SetV):List ByteArray:=[s.z,s.o,s.t,s.f,s.m]
def SetV.val (s:SetV):Value:=.agg #[.string s.z,.string s.o,.string s.t,.string s.f,.string s.m]
def SetV.small (s:SetV):Prop:=∀ t∈s.list,t.size≤10000
instance (s:List UInt8):Decidable (ParseOkR s):=by unfold ParseOkR;infer_instance
def okT (t:ByteArray):Bool:=t.toList.isEmpty || decide (ParseOkR (bts t))
def checkS (s:SetV):Int:=if s.list.all okT then 0 else 3
theorem texts_any' (s:SetV) (w:World):Calls Tryz.prog 144 #[s.val] w fun e w'=>e=.returned s.val∧Below w.heap.size w w':=by
 obtain⟨a,b,c,d,f⟩:=s;unfold SetV.val;dsimp only;have MR:Hid (Blk ((w.alloc (.cells #[.string a,.string b,.string c,.string d,.string f] 108)).alloc (.cells #[.string ⟨#[]⟩,.string ⟨#[]⟩,.string ⟨#[]⟩,.string ⟨#[]⟩,.string ⟨#[]⟩] 252)) (w.heap.size+1) 252 #[.string ⟨#[]⟩,.string ⟨#[]⟩,.string ⟨#[]⟩,.string ⟨#[]⟩,.string ⟨#[]⟩]):=hid (by
  have:=Blk.new (w.alloc (.cells #[.string a,.string b,.string c,.string d,.string f] 108)) 252 #[.string ⟨#[]⟩,.string ⟨#[]⟩,.string ⟨#[]⟩,.string ⟨#[]⟩,.string ⟨#[]⟩];rw[World.size_alloc]at this;exact this)
 have HB:Hid (Below w.heap.size w ((w.alloc (.cells #[.string a,.string b,.string c,.string d,.string f] 108)).alloc (.cells #[.string ⟨#[]⟩,.string ⟨#[]⟩,.string ⟨#[]⟩,.string ⟨#[]⟩,.string ⟨#[]⟩] 252))):=hid (((Below.refl _ _).alloc (Nat.le_refl _) _).alloc (by simp) _)
 generalize hW:(w.alloc (.cells #[.string a,.string b,.string c,.string d,.string f] 108)).alloc (.cells #[.string ⟨#[]⟩,.string ⟨#[]⟩,.string ⟨#[]⟩,.string ⟨#[]⟩,.string ⟨#[]⟩] 252)=W at *;have MA:Hid (Blk W w.heap.size 108 #[.string a,.string b,.string c,.string d,.string f]):=hid (by rw[←hW];exact(Blk.new _ _ _).alloc _)
 have HW:=hid hW;clear hW;have k0:=(MA.out.cell 0).trans (show _=some (.string a)from rfl);have k1:=(MA.out.cell 1).trans (show _=some (.string b)from rfl);have k2:=(MA.out.cell 2).trans (show _=some (.string c)from rfl);have k3:=(MA.out.cell 3).trans (show _=some (.string d)from rfl);have k4:=(MA.out.cell 4).trans (show _=some (.string f)from rfl);have r0:=(MR.out.cell 0).trans (show _=some (.string ⟨#[]⟩)from rfl);have r1:=(MR.out.cell 1).trans (show _=some (.string ⟨#[]⟩)from rfl);have r2:=(MR.out.cell 2).trans (show _=some (.string ⟨#[]⟩)from rfl);have r3:=(MR.out.cell 3).trans (show _=some (.string ⟨#[]⟩)from rfl);have r4:=(MR.out.cell 4).trans (show _=some (.string ⟨#[]⟩)from rfl);have f0:=MR.out.frozen 0;have f1:=MR.out.frozen 1;have f2:=MR.out.frozen 2;have f3:=MR.out.frozen 3;have f4:=MR.out.frozen 4
 go_enter Tryz.func144,Tryz.ntmps144
 go_upto_region 1 with fail
 rw[HW.out];clear HW
 go_wp2_with fail
 refine bodyPost_ret (v:=.agg #[.string a,.string b,.string c,.string d,.string f]) ?_ rfl ?_
 ·simp[results,Tryz.results144,go_sem,r0,r1,r2,r3,r4,f0,f1,f2,f3,f4]
 ·refine⟨rfl,?_⟩
  repeat' (first|exact HB.out|refine Below.setCell ?_ (by show w.heap.size≤w.heap.size+1;omega) _)
theorem okT_nil {t:ByteArray} (h:t.toList=[]):okT t=true:=by unfold okT;rw[h];rfl
theorem okT_par {t:ByteArray} (h:t.toList≠[]):okT t=decide (ParseOkR (bts t)):=by
 unfold okT;cases e:t.toList with
 | nil=>exact absurd e h
 | cons a l=>rfl
theorem checkS_no {s:SetV} {t:ByteArray} (h:t∈s.list) (hn:okT t=false):checkS s=3:=if_neg (by
 intro hall;have:=List.all_eq_true.1 hall t h;rw[hn]at this;cases this)
theorem parseC_any (t:ByteArray) (w:World) (hs:t.size≤10000) (hv:EvV w) (hn:t.toList≠[]):
 Calls Tryz.prog 145 #[.string t] w fun e w'=>Below w.heap.size w w'∧∃ v,e=.returned (.tuple #[v,if okT t=true then .nilIface else .iface 35 (.int .i64 3)])∧(okT t=true→RuIn w' 0 v (ruleOf (bts t)))∧∃ A n c,v=.slice A n c:=by
 obtain⟨m,hm⟩:=hv.rv.max;have h:=Parse_any (bts t) w (by rw[bts_len];omega) hv.rv (cell_lt hm)
 rw[str_bts]at h;refine h.mono ?_;rintro e w' ⟨hb,⟨hok,v,us,rfl,hu,hr⟩|⟨hno,rfl⟩⟩
 ·have hd:okT t=true:=by rw[okT_par hn];exact decide_eq_true hok
  refine⟨hb,v,by rw[if_pos hd],fun _=> ?_,?_⟩
  ·obtain⟨l1,l2⟩:=rule_len (bts t);have l3:=bts_len t;have hl:=hr.list (lo:=0) (hi:=w'.heap.size) (Nat.zero_le _) (Nat.le_refl _);rw[hu]at hl;exact⟨hl,by omega,fun p hp=>by have:=(l2 p hp).1;omega,fun p hp r hrr=>by have:=(l2 p hp).2 r hrr;omega⟩
  ·obtain⟨A,c,hv',_⟩:=own_slice hr.row;exact⟨A,_,c,hv'⟩
 ·have hd:okT t=false:=by rw[okT_par hn];exact decide_eq_false hno
  exact⟨hb,.slice none 0 0,by rw[hd];rfl,(fun h=>by rw[hd]at h;cases h),none,0,0,rfl⟩
theorem pcheck_any (s:SetV) (w:World) (hs:s.small) (hv:EvV w):Calls Tryz.prog 142 #[s.val] w fun e w'=>e=.returned (errD (checkS s))∧Below w.heap.size w w':=by
 have HT:Hid (∀ W,Calls Tryz.prog 144 #[s.val] W fun e w'=>e=.returned s.val∧Below W.heap.size W w'):=hid fun W=>texts_any' s W;have HV:Hid (∀ W,Below w.heap.size w W→EvV W):=hid fun W hW=>hv.below hW;have HNo:Hid (∀ t∈s.list,okT t=false→checkS s=3):=hid fun t h hn=>checkS_no h hn;have HYes:Hid ((∀ t∈s.list,okT t=true)→checkS s=0):=hid fun h=>if_pos (List.all_eq_true.2 h);have HSm:Hid (∀ t∈s.list,t.size≤10000):=hid hs;generalize checkS s=r at *;obtain⟨a,b,c,d,f⟩:=s;unfold SetV.val SetV.list at *;dsimp only at *;have HB1:Hid (Below w.heap.size w (w.alloc (.cells #[.string a,.string b,.string c,.string d,.string f] 108))):=hid ((Below.refl _ _).alloc (Nat.le_refl _) _);have i0:∀ w,(Instr.index 252 (.agg #[.string a,.string b,.string c,.string d,.string f]) (.int .i64 0)).run Tryz.prog w=.ok (.string a) w:=fun _=>by kernel_rfl
 have i1:∀ w,(Instr.index 252 (.agg #[.string a,.string b,.string c,.string d,.string f]) (.int .i64 1)).run Tryz.prog w=.ok (.string b) w:=fun _=>by kernel_rfl
 have i2:∀ w,(Instr.index 252 (.agg #[.string a,.string b,.string c,.string d,.string f]) (.int .i64 2)).run Tryz.prog w=.ok (.string c) w:=fun _=>by kernel_rfl
 have i3:∀ w,(Instr.index 252 (.agg #[.string a,.string b,.string c,.string d,.string f]) (.int .i64 3)).run Tryz.prog w=.ok (.string d) w:=fun _=>by kernel_rfl
 have i4:∀ w,(Instr.index 252 (.agg #[.string a,.string b,.string c,.string d,.string f]) (.int .i64 4)).run Tryz.prog w=.ok (.string f) w:=fun _=>by kernel_rfl
 clear hv hs
 go_enter Tryz.func142,Tryz.ntmps142
 go_wp2_with fail
 refine(HT.out _).mono ?_;clear HT;rintro e w2 ⟨rfl,hb2⟩;have HB2:=hid (HB1.out.trans (hb2.mono HB1.out.size));clear hb2 HB1
 go_wp2_with fail
 go_loopw [9] (fun i wr=>∃ j:Nat,j≤5∧i=.int .i64 (j:Int)∧Hid (∀ t∈[a,b,c,d,f].take j,okT t=true)∧Below w.heap.size w wr) (fun i _=>5 - (intOf i).toNat)
 case atStart=>exact⟨0,Nat.zero_le _,rfl,hid (fun t h=>(by cases h)),HB2.out⟩
 case round=>
  clear HB2;obtain⟨j,hj,rfl,HO,hb⟩:=hrel;have HB:=hid hb;have HE:=hid (HV.out wr hb);clear hb HV;have hcase:j=0∨j=1∨j=2∨j=3∨j=4∨j=5:=by omega
  rcases hcase with rfl|rfl|rfl|rfl|rfl|rfl
  ·by_cases hq:a.toList=[]
   ·have hq2:(a.toList == [])=true:=by rw[hq];rfl
    have HN:Hid (∀ t∈[a,b,c,d,f].take 1,okT t=true):=hid fun t ht=>by
     rw[show [a,b,c,d,f].take 1=[a,b,c,d,f].take 0++[a]from rfl]at ht;rcases List.mem_append.1 ht with ht|ht
     ·exact HO.out t ht
     ·obtain rfl:=List.mem_singleton.1 ht;exact okT_nil hq
    clear hq
    go_wp2_with fail
    go_roundw
    case rel=>exact⟨1,by omega,rfl,HN,HB.out⟩
    case measure=>simp[intOf]
   ·have hq2:(a.toList == [])=false:=by
     cases e:a.toList with
     | nil=>exact absurd e hq
     | cons _ _=>rfl
    have HP:=hid (parseC_any a wr (HSm.out a (by simp)) HE.out hq)
    have HN:Hid (okT a=true→∀ t∈[a,b,c,d,f].take 1,okT t=true):=hid fun h t ht=>by
     rw[show [a,b,c,d,f].take 1=[a,b,c,d,f].take 0++[a]from rfl]at ht;rcases List.mem_append.1 ht with ht|ht
     ·exact HO.out t ht
     ·obtain rfl:=List.mem_singleton.1 ht;exact h
    have HNo2:Hid (okT a=false→r=3):=hid fun h=>HNo.out a (by simp) h
    clear hq HE HNo HO HSm;generalize okT a=x at*
    go_wp2_with fail
    refine HP.out.mono ?_;clear HP;rintro e w3 ⟨hb3,v,rfl,_,A,n,cp,rfl⟩;have HB3:=hid (HB.out.trans (hb3.mono HB.out.size));clear hb3;cases x with
    | true=>
      have HN2:=hid (HN.out rfl);rw[if_pos rfl];clear HN HNo2
      go_wp2_with fail
      go_roundw
      case rel=>exact⟨1,by omega,rfl,HN2.out,HB3.out⟩
      case measure=>simp[intOf]
    | false=>
      obtain rfl:r=3:=HNo2.out rfl;rw[if_neg (by decide)]
      clear HN
      go_wp2_with fail
      go_ret
      exact⟨rfl,HB3.out⟩
  ·by_cases hq:b.toList=[]
   ·have hq2:(b.toList == [])=true:=by rw[hq];rfl
    have HN:Hid (∀ t∈[a,b,c,d,f].take 2,okT t=true):=hid fun t ht=>by
     rw[show [a,b,c,d,f].take 2=[a,b,c,d,f].take 1++[b]from rfl]at ht;rcases List.mem_append.1 ht with ht|ht
     ·exact HO.out t ht
     ·obtain rfl:=List.mem_singleton.1 ht;exact okT_nil hq
    clear hq
    go_wp2_with fail
    go_roundw
    case rel=>exact⟨2,by omega,rfl,HN,HB.out⟩
    case measure=>simp[intOf]
   ·have hq2:(b.toList == [])=false:=by
     cases e:b.toList with
     | nil=>exact absurd e hq
     | cons _ _=>rfl
    have HP:=hid (parseC_any b wr (HSm.out b (by simp)) HE.out hq)
    have HN:Hid (okT b=true→∀ t∈[a,b,c,d,f].take 2,okT t=true):=hid fun h t ht=>by
     rw[show [a,b,c,d,f].take 2=[a,b,c,d,f].take 1++[b]from rfl]at ht;rcases List.mem_append.1 ht with ht|ht
     ·exact HO.out t ht
     ·obtain rfl:=List.mem_singleton.1 ht;exact h
    have HNo2:Hid (okT b=false→r=3):=hid fun h=>HNo.out b (by simp) h
    clear hq HE HNo HO HSm;generalize okT b=x at*
    go_wp2_with fail
    refine HP.out.mono ?_;clear HP;rintro e w3 ⟨hb3,v,rfl,_,A,n,cp,rfl⟩;have HB3:=hid (HB.out.trans (hb3.mono HB.out.size));clear hb3;cases x with
    | true=>
      have HN2:=hid (HN.out rfl);rw[if_pos rfl];clear HN HNo2
      go_wp2_with fail
      go_roundw
      case rel=>exact⟨2,by omega,rfl,HN2.out,HB3.out⟩
      case measure=>simp[intOf]
    | false=>
      obtain rfl:r=3:=HNo2.out rfl;rw[if_neg (by decide)]
      clear HN
      go_wp2_with fail
      go_ret
      exact⟨rfl,HB3.out⟩
  ·by_cases hq:c.toList=[]
   ·have hq2:(c.toList == [])=true:=by rw[hq];rfl
    have HN:Hid (∀ t∈[a,b,c,d,f].take 3,okT t=true):=hid fun t ht=>by
     rw[show [a,b,c,d,f].take 3=[a,b,c,d,f].take 2++[c]from rfl]at ht;rcases List.mem_append.1 ht with ht|ht
     ·exact HO.out t ht
     ·obtain rfl:=List.mem_singleton.1 ht;exact okT_nil hq
    clear hq
    go_wp2_with fail
    go_roundw
    case rel=>exact⟨3,by omega,rfl,HN,HB.out⟩
    case measure=>simp[intOf]
   ·have hq2:(c.toList == [])=false:=by
     cases e:c.toList with
     | nil=>exact absurd e hq
     | cons _ _=>rfl
    have HP:=hid (parseC_any c wr (HSm.out c (by simp)) HE.out hq)
    have HN:Hid (okT c=true→∀ t∈[a,b,c,d,f].take 3,okT t=true):=hid fun h t ht=>by
     rw[show [a,b,c,d,f].take 3=[a,b,c,d,f].take 2++[c]from rfl]at ht;rcases List.mem_append.1 ht with ht|ht
     ·exact HO.out t ht
     ·obtain rfl:=List.mem_singleton.1 ht;exact h
    have HNo2:Hid (okT c=false→r=3):=hid fun h=>HNo.out c (by simp) h
    clear hq HE HNo HO HSm;generalize okT c=x at*
    go_wp2_with fail
    refine HP.out.mono ?_;clear HP;rintro e w3 ⟨hb3,v,rfl,_,A,n,cp,rfl⟩;have HB3:=hid (HB.out.trans (hb3.mono HB.out.size));clear hb3;cases x with
    | true=>
      have HN2:=hid (HN.out rfl);rw[if_pos rfl];clear HN HNo2
      go_wp2_with fail
      go_roundw
      case rel=>exact⟨3,by omega,rfl,HN2.out,HB3.out⟩
      case measure=>simp[intOf]
    | false=>
      obtain rfl:r=3:=HNo2.out rfl;rw[if_neg (by decide)]
      clear HN
      go_wp2_with fail
      go_ret
      exact⟨rfl,HB3.out⟩
  ·by_cases hq:d.toList=[]
   ·have hq2:(d.toList == [])=true:=by rw[hq];rfl
    have HN:Hid (∀ t∈[a,b,c,d,f].take 4,okT t=true):=hid fun t ht=>by
     rw[show [a,b,c,d,f].take 4=[a,b,c,d,f].take 3++[d]from rfl]at ht;rcases List.mem_append.1 ht with ht|ht
     ·exact HO.out t ht
     ·obtain rfl:=List.mem_singleton.1 ht;exact okT_nil hq
    clear hq
    go_wp2_with fail
    go_roundw
    case rel=>exact⟨4,by omega,rfl,HN,HB.out⟩
    case measure=>simp[intOf]
   ·have hq2:(d.toList == [])=false:=by
     cases e:d.toList with
     | nil=>exact absurd e hq
     | cons _ _=>rfl
    have HP:=hid (parseC_any d wr (HSm.out d (by simp)) HE.out hq)
    have HN:Hid (okT d=true→∀ t∈[a,b,c,d,f].take 4,okT t=true):=hid fun h t ht=>by
     rw[show [a,b,c,d,f].take 4=[a,b,c,d,f].take 3++[d]from rfl]at ht;rcases List.mem_append.1 ht with ht|ht
     ·exact HO.out t ht
     ·obtain rfl:=List.mem_singleton.1 ht;exact h
    have HNo2:Hid (okT d=false→r=3):=hid fun h=>HNo.out d (by simp) h
    clear hq HE HNo HO HSm;generalize okT d=x at*
    go_wp2_with fail
    refine HP.out.mono ?_;clear HP;rintro e w3 ⟨hb3,v,rfl,_,A,n,cp,rfl⟩;have HB3:=hid (HB.out.trans (hb3.mono HB.out.size));clear hb3;cases x with
    | true=>
      have HN2:=hid (HN.out rfl);rw[if_pos rfl];clear HN HNo2
      go_wp2_with fail
      go_roundw
      case rel=>exact⟨4,by omega,rfl,HN2.out,HB3.out⟩
      case measure=>simp[intOf]
    | false=>
      obtain rfl:r=3:=HNo2.out rfl;rw[if_neg (by decide)]
      clear HN
      go_wp2_with fail
      go_ret
      exact⟨rfl,HB3.out⟩
  ·by_cases hq:f.toList=[]
   ·have hq2:(f.toList == [])=true:=by rw[hq];rfl
    have HN:Hid (∀ t∈[a,b,c,d,f].take 5,okT t=true):=hid fun t ht=>by
     rw[show [a,b,c,d,f].take 5=[a,b,c,d,f].take 4++[f]from rfl]at ht;rcases List.mem_append.1 ht with ht|ht
     ·exact HO.out t ht
     ·obtain rfl:=List.mem_singleton.1 ht;exact okT_nil hq
    clear hq
    go_wp2_with fail
    go_roundw
    case rel=>exact⟨5,by omega,rfl,HN,HB.out⟩
    case measure=>simp[intOf]
   ·have hq2:(f.toList == [])=false:=by
     cases e:f.toList with
     | nil=>exact absurd e hq
     | cons _ _=>rfl
    have HP:=hid (parseC_any f wr (HSm.out f (by simp)) HE.out hq)
    have HN:Hid (okT f=true→∀ t∈[a,b,c,d,f].take 5,okT t=true):=hid fun h t ht=>by
     rw[show [a,b,c,d,f].take 5=[a,b,c,d,f].take 4++[f]from rfl]at ht;rcases List.mem_append.1 ht with ht|ht
     ·exact HO.out t ht
     ·obtain rfl:=List.mem_singleton.1 ht;exact h
    have HNo2:Hid (okT f=false→r=3):=hid fun h=>HNo.out f (by simp) h
    clear hq HE HNo HO HSm;generalize okT f=x at*
    go_wp2_with fail
    refine HP.out.mono ?_;clear HP;rintro e w3 ⟨hb3,v,rfl,_,A,n,cp,rfl⟩;have HB3:=hid (HB.out.trans (hb3.mono HB.out.size));clear hb3;cases x with
    | true=>
      have HN2:=hid (HN.out rfl);rw[if_pos rfl];clear HN HNo2
      go_wp2_with fail
      go_roundw
      case rel=>exact⟨5,by omega,rfl,HN2.out,HB3.out⟩
      case measure=>simp[intOf]
    | false=>
      obtain rfl:r=3:=HNo2.out rfl;rw[if_neg (by decide)]
      clear HN
      go_wp2_with fail
      go_ret
      exact⟨rfl,HB3.out⟩
  ·obtain rfl:r=0:=HYes.out HO.out;clear HO
   go_wp2_with fail
   go_ret
   exact⟨rfl,HB.out⟩
def othB:ByteArray:=⟨#[111,116,104,101,114]⟩
def pickO (o:OpV):List ByteArray→List ByteArray→ByteArray
 | t::ts,k::ks=>if !t.toList.isEmpty && holdR o (ruleOf (bts t))then k else pickO o ts ks
 | _,_=>othB
def kndE (s:SetV) (d:DecV):Int:=if checkS s=0 then checkD d else 3
def kndT (s:SetV) (d:DecV):ByteArray:=if kndE s d=0 then pickO (opsV d) s.list kindC else⟨#[]⟩
theorem trimF_nn:∀(n:Nat) (c:Int),0≤c→0≤(trimF n c).1∧(trimF n c).1≤c
 | 0,c,h=>⟨h,Int.le_refl _⟩
 | n+1,c,h=>by
   unfold trimF;split
   ·have h1:0≤Int.tdiv c 10:=by rw[Int.tdiv_eq_ediv_of_nonneg h];exact Int.ediv_nonneg h (by decide)
    have h2:Int.tdiv c 10≤c:=by rw[Int.tdiv_eq_ediv_of_nonneg h];exact Int.ediv_le_self _ h
    obtain⟨q1,q2⟩:=trimF_nn n _ h1;exact⟨q1,Int.le_trans q2 h2⟩
   ·exact⟨h,Int.le_refl _⟩
theorem wf64 {n:Int} (h0: -9223372036854775808≤n) (h1:n≤9223372036854775807):(Lit.int .i64 n).wf=true:=by
 simp[Lit.wf,IntKind.min,IntKind.max,IntKind.signed,IntKind.bits];omega
theorem opsV_ok (d:DecV) (h:d.ok):(opsV d).Ok:=by
 obtain⟨b0,b1,b2,b3,b4,b5⟩:=ops_bound d h;obtain⟨q1,q2⟩:=trimF_nn d.scale.toNat (opsF d) b2;have q3:=(trimF_ok d.scale.toNat (opsF d) (by omega) (by omega)).1
 obtain⟨h0,h1,h2,h3⟩:=h;exact⟨wf64 (by show _≤Int.tdiv _ _;omega) (by show Int.tdiv _ _≤_;omega),wf64 (by show _≤d.scale;omega) (by show d.scale≤_;omega),wf64 (by show _≤((trimF _ _).2:Int);omega) (by show((trimF _ _).2:Int)≤_;omega),wf64 (by show _≤opsF d;omega) (by show opsF d≤_;omega),wf64 (by show _≤(trimF _ _).1;omega) (by show(trimF _ _).1≤_;omega)⟩
theorem okT_check {t:ByteArray} (hn:t.toList≠[]) (h:okT t=true):checkR (ruleOf (bts t))=0:=by
 rw[okT_par hn]at h;exact(of_decide_eq_true h).1
theorem holdsC_any (t:ByteArray) (o:OpV) (v:Value) (w:World) (ho:o.Ok) (hn:t.toList≠[]) (hk:okT t=true) (hr:RuIn w 0 v (ruleOf (bts t))):
 Calls Tryz.prog 146 #[v,.agg #[.int .i64 o.i,.int .i64 o.v,.int .i64 o.w,.int .i64 o.f,.int .i64 o.t]] w fun e w'=>e=.returned (.tuple #[.bool (holdR o (ruleOf (bts t))),.nilIface])∧Below w.heap.size w w':=by
 have h:=Holds_any (ruleOf (bts t)) v o 0 w hr ho;rw[okT_check hn hk,if_pos rfl,errR_zero]at h;exact h
theorem pickO_hit {o:OpV} {t k:ByteArray} {ts ks:List ByteArray} (hn:t.toList≠[]) (h:holdR o (ruleOf (bts t))=true):pickO o (t::ts) (k::ks)=k:=by
 refine if_pos ?_;cases e:t.toList with
 | nil=>exact absurd e hn
 | cons a l=>rw[h];rfl
theorem pickO_next {o:OpV} {t k:ByteArray} {ts ks:List ByteArray} (h:t.toList=[]∨holdR o (ruleOf (bts t))=false):pickO o (t::ts) (k::ks)=pickO o ts ks:=by
 refine if_neg ?_;rcases h with h|h
 ·rw[h];exact Bool.false_ne_true
 ·rw[h,Bool.and_false];exact Bool.false_ne_true
theorem kind_any (s:SetV) (d:DecV) (w:World) (hs:s.small) (hv:EvV w):Calls Tryz.prog 96 #[s.val,d.v] w fun e w'=>e=.returned (.tuple #[.string (kndT s d),errD (kndE s d)])∧Below w.heap.size w w':=by
 have HT:Hid (∀ W,Calls Tryz.prog 144 #[s.val] W fun e w'=>e=.returned s.val∧Below W.heap.size W w'):=hid fun W=>texts_any' s W;have HV:Hid (∀ W,Below w.heap.size w W→EvV W):=hid fun W hW=>hv.below hW;have HC:Hid (∀ W,Below w.heap.size w W→Calls Tryz.prog 142 #[s.val] W fun e w'=>e=.returned (errD (checkS s))∧Below W.heap.size W w'):=hid fun W hW=>pcheck_any s W hs (hv.below hW);have HOp:Hid (∀ W,Calls Tryz.prog 143 #[d.v] W fun e w'=>e=.returned (.tuple #[(opsO d).val,errD (checkD d)])∧Below W.heap.size W w'):=hid fun W=>opsOf_any d W;have HOk:Hid (checkS s=0→∀ t∈s.list,okT t=true):=hid fun h t ht=>by
  unfold checkS at h;split at h
  ·rename_i h2;exact List.all_eq_true.1 h2 t ht
  ·cases h
 have HE:Hid ((checkS s=0→kndE s d=checkD d)∧(checkS s≠0→kndE s d=3)):=hid ⟨fun h=>if_pos h,fun h=>if_neg h⟩;have HK:Hid ((kndE s d=0→kndT s d=pickO (opsV d) s.list kindC)∧(kndE s d≠0→kndT s d=⟨#[]⟩)):=hid ⟨fun h=>if_pos h,fun h=>if_neg h⟩;have HS0:checkS s=0∨checkS s=3:=by unfold checkS;split <;> simp
 have HD1:Hid (d.ok→opsO d=opsV d∧checkD d=0∧(opsV d).Ok):=hid fun h=>⟨if_pos h,checkD_ok h,opsV_ok d h⟩;have HD2:Hid (¬ d.ok→checkD d=1):=hid fun h=>checkD_no h;have HSm:Hid (∀ t∈s.list,t.size≤10000):=hid hs;obtain⟨a,b,c,dd,f⟩:=s;generalize kndT ⟨a,b,c,dd,f⟩ d=kt at *;generalize kndE ⟨a,b,c,dd,f⟩ d=ke at *;generalize checkS ⟨a,b,c,dd,f⟩=cs at *;unfold SetV.val SetV.list at *;dsimp only at *;obtain⟨W2,eW2⟩:∃ W2,W2=(w.alloc (.cells #[.string a,.string b,.string c,.string dd,.string f] 108)).alloc (.cells #[.int .i64 d.coef,.int .i64 d.scale] 65):=⟨_,rfl⟩;have ma:Blk W2 w.heap.size 108 #[.string a,.string b,.string c,.string dd,.string f]:=by rw[eW2];exact(Blk.new _ _ _).alloc _
 have mb:Blk W2 (w.heap.size+1) 65 #[.int .i64 d.coef,.int .i64 d.scale]:=by
  rw[eW2];have:=Blk.new (w.alloc (.cells #[.string a,.string b,.string c,.string dd,.string f] 108)) 65 #[.int .i64 d.coef,.int .i64 d.scale];rw[World.size_alloc]at this;exact this
 have hb2:Below w.heap.size w W2:=by rw[eW2];exact((Below.refl _ _).alloc (Nat.le_refl _) _).alloc (by simp) _
 have HB2:=hid hb2;have MA:=hid ma;have MB:=hid mb;have EW:=hid eW2;have k0:=(ma.cell 0).trans (show _=some (.string a)from rfl);have k1:=(ma.cell 1).trans (show _=some (.string b)from rfl);have k2:=(ma.cell 2).trans (show _=some (.string c)from rfl);have k3:=(ma.cell 3).trans (show _=some (.string dd)from rfl);have k4:=(ma.cell 4).trans (show _=some (.string f)from rfl);have i0:∀ w,(Instr.index 252 (.agg #[.string a,.string b,.string c,.string dd,.string f]) (.int .i64 0)).run Tryz.prog w=.ok (.string a) w:=fun _=>by kernel_rfl
 have i1:∀ w,(Instr.index 252 (.agg #[.string a,.string b,.string c,.string dd,.string f]) (.int .i64 1)).run Tryz.prog w=.ok (.string b) w:=fun _=>by kernel_rfl
 have i2:∀ w,(Instr.index 252 (.agg #[.string a,.string b,.string c,.string dd,.string f]) (.int .i64 2)).run Tryz.prog w=.ok (.string c) w:=fun _=>by kernel_rfl
 have i3:∀ w,(Instr.index 252 (.agg #[.string a,.string b,.string c,.string dd,.string f]) (.int .i64 3)).run Tryz.prog w=.ok (.string dd) w:=fun _=>by kernel_rfl
 have i4:∀ w,(Instr.index 252 (.agg #[.string a,.string b,.string c,.string dd,.string f]) (.int .i64 4)).run Tryz.prog w=.ok (.string f) w:=fun _=>by kernel_rfl
 unfold DecV.v at *;have HCk:=hid (HC.out W2 hb2);clear hb2 ma mb eW2 hs hv HC
 go_enter Tryz.func96,Tryz.ntmps96
 go_upto_region 1 with fail
 rw[←EW.out];clear EW
 go_wp2_with fail
 refine HCk.out.mono ?_;clear HCk k0 k1 k2 k3 k4;rintro e w3 ⟨rfl,hb3⟩;have HB3:=hid (HB2.out.trans (hb3.mono HB2.out.size));have MA3:=hid (MA.out.below hb3 MA.out.lt);have MB3:=hid (MB.out.below hb3 MB.out.lt);clear hb3 MA MB HB2;rcases HS0 with rfl|rfl
 ·have hke:ke=checkD d:=HE.out.1 rfl;have HOk2:=hid (HOk.out rfl);rw[errD_zero];clear HE HOk;have d0:=(MB3.out.cell 0).trans (show _=some (.int .i64 d.coef)from rfl);have d1:=(MB3.out.cell 1).trans (show _=some (.int .i64 d.scale)from rfl);have HKe:=hid hke;clear hke
  go_wp2_with fail
  refine(HOp.out _).mono ?_;clear HOp d0 d1 MB3;rintro e w4 ⟨rfl,hb4⟩;have HB4:=hid (HB3.out.trans (hb4.mono HB3.out.size));have MA4:=hid (MA3.out.below hb4 MA3.out.lt);clear hb4 HB3 MA3
  by_cases hd:d.ok
  ·obtain⟨e1,e2,e3⟩:=HD1.out hd;rw[e1,e2,errD_zero];obtain rfl:ke=0:=HKe.out.trans e2;have HK2:Hid (kt=pickO (opsV d) [a,b,c,dd,f] kindC):=hid (HK.out.1 rfl);have HOo:=hid e3;clear e1 e2 e3 hd HD1 HD2 HKe HK;unfold OpV.val;generalize opsV d=o at *;have hb5:Below w4.heap.size w4 (w4.alloc (.cells #[.int .i64 o.i,.int .i64 o.v,.int .i64 o.w,.int .i64 o.f,.int .i64 o.t] 249)):=(Below.refl _ _).alloc (Nat.le_refl _) _;have MO5:Hid (Blk (w4.alloc (.cells #[.int .i64 o.i,.int .i64 o.v,.int .i64 o.w,.int .i64 o.f,.int .i64 o.t] 249)) w4.heap.size 249 #[.int .i64 o.i,.int .i64 o.v,.int .i64 o.w,.int .i64 o.f,.int .i64 o.t]):=hid (Blk.new _ _ _);have MA5:=hid (MA4.out.below hb5 MA4.out.lt);have HB5:=hid (HB4.out.trans (hb5.mono HB4.out.size));have k0:=(MA5.out.cell 0).trans (show _=some (.string a)from rfl);have k1:=(MA5.out.cell 1).trans (show _=some (.string b)from rfl);have k2:=(MA5.out.cell 2).trans (show _=some (.string c)from rfl);have k3:=(MA5.out.cell 3).trans (show _=some (.string dd)from rfl);have k4:=(MA5.out.cell 4).trans (show _=some (.string f)from rfl);have hO4:w4.heap.size < w4.heap.size+1:=Nat.lt_succ_self _;clear hb5 MA4 HB4
   go_wp2_with fail
   refine(HT.out _).mono ?_;clear HT k0 k1 k2 k3 k4 MA5;rintro e w6 ⟨rfl,hb6⟩;have HB6:=hid (HB5.out.trans (hb6.mono HB5.out.size));have MO6:=hid (MO5.out.below hb6 MO5.out.lt);clear hb6 MO5 HB5
   go_wp2_with fail
   go_loopw [30] (fun i wr=>∃ j:Nat,j≤5∧i=.int .i64 (j:Int)∧Hid (kt=pickO o ([a,b,c,dd,f].drop j) (kindC.drop j))∧Blk wr w4.heap.size 249 #[.int .i64 o.i,.int .i64 o.v,.int .i64 o.w,.int .i64 o.f,.int .i64 o.t]∧Below w.heap.size w wr) (fun i _=>5 - (intOf i).toNat)
   case atStart=>exact⟨0,Nat.zero_le _,rfl,HK2,MO6.out,HB6.out⟩
   case round=>
    clear HB6 MO6 HK2;obtain⟨j,hj,rfl,HP,hmo,hb⟩:=hrel;have HB:=hid hb;have MO:=hid hmo;have HEv:=hid (HV.out wr hb);clear hb hmo;have hcase:j=0∨j=1∨j=2∨j=3∨j=4∨j=5:=by omega
    rcases hcase with rfl|rfl|rfl|rfl|rfl|rfl
    ·by_cases hq:a.toList=[]
     ·have hq2:(a.toList == [])=true:=by rw[hq];rfl
      have HN:Hid (kt=pickO o ([a,b,c,dd,f].drop 1) (kindC.drop 1)):=hid (HP.out.trans (pickO_next (.inl hq)));clear hq
      go_wp2_with fail
      go_roundw
      case rel=>exact⟨1,by omega,rfl,HN,MO.out,HB.out⟩
      case measure=>simp[intOf]
     ·have hq2:(a.toList == [])=false:=by
       cases e:a.toList with
       | nil=>exact absurd e hq
       | cons _ _=>rfl
      have hk:=HOk2.out a (by simp)
      have HPa:=hid (parseC_any a wr (HSm.out a (by simp)) HEv.out hq)
      have HHo:Hid (∀ W v,RuIn W 0 v (ruleOf (bts a))→Calls Tryz.prog 146 #[v,.agg #[.int .i64 o.i,.int .i64 o.v,.int .i64 o.w,.int .i64 o.f,.int .i64 o.t]] W fun e w'=>e=.returned (.tuple #[.bool (holdR o (ruleOf (bts a))),.nilIface])∧Below W.heap.size W w'):=hid fun W v h=>holdsC_any a o v W HOo.out hq hk h;have HHit:Hid (holdR o (ruleOf (bts a))=true→kt=⟨#[122,101,114,111]⟩):=hid fun h=>HP.out.trans (pickO_hit hq h);have HNx:Hid (holdR o (ruleOf (bts a))=false→kt=pickO o ([a,b,c,dd,f].drop 1) (kindC.drop 1)):=hid fun h=>HP.out.trans (pickO_next (.inr h));rw[hk]at HPa;clear hq hk HP HSm HOk2 HOo HEv;generalize ruleOf (bts a)=R at *;generalize holdR o R=x at*
      go_wp2_with fail
      refine HPa.out.mono ?_;clear HPa;rintro e w7 ⟨hb7,v,rfl,hru,A,n,cp,rfl⟩;have HB7:=hid (HB.out.trans (hb7.mono HB.out.size));have MO7:=hid (MO.out.below hb7 MO.out.lt);have HHo7:=hid (HHo.out w7 _ (hru (by first|rfl|trivial)))
      have o0:=(MO7.out.cell 0).trans (show _=some (.int .i64 o.i)from rfl);have o1:=(MO7.out.cell 1).trans (show _=some (.int .i64 o.v)from rfl);have o2:=(MO7.out.cell 2).trans (show _=some (.int .i64 o.w)from rfl);have o3:=(MO7.out.cell 3).trans (show _=some (.int .i64 o.f)from rfl);have o4:=(MO7.out.cell 4).trans (show _=some (.int .i64 o.t)from rfl)
      first|rw[if_pos rfl]|rw[if_pos trivial]
      clear hb7 hru HHo HB MO
      go_wp2_with fail
      refine HHo7.out.mono ?_;clear HHo7 o0 o1 o2 o3 o4;rintro e w8 ⟨rfl,hb8⟩;have HB8:=hid (HB7.out.trans (hb8.mono HB7.out.size));have MO8:=hid (MO7.out.below hb8 MO7.out.lt);have kc:=(HV.out w8 HB8.out).knd 0 (by decide)
      simp only[kindC,List.getElem_cons_zero,List.getElem_cons_succ]at kc;clear hb8 HB7 MO7;cases x with
      | true=>
        have hkt:=HHit.out rfl;have HKt:=hid hkt;clear hkt HHit HNx
        go_wp2_with fail
        go_ret2
        exact⟨by rw[HKt.out];rfl,HB8.out⟩
      | false=>
        have HN:=hid (HNx.out rfl);clear HHit HNx kc
        go_wp2_with fail
        go_roundw
        case rel=>exact⟨1,by omega,rfl,HN.out,MO8.out,HB8.out⟩
        case measure=>simp[intOf]
    ·by_cases hq:b.toList=[]
     ·have hq2:(b.toList == [])=true:=by rw[hq];rfl
      have HN:Hid (kt=pickO o ([a,b,c,dd,f].drop 2) (kindC.drop 2)):=hid (HP.out.trans (pickO_next (.inl hq)));clear hq
      go_wp2_with fail
      go_roundw
      case rel=>exact⟨2,by omega,rfl,HN,MO.out,HB.out⟩
      case measure=>simp[intOf]
     ·have hq2:(b.toList == [])=false:=by
       cases e:b.toList with
       | nil=>exact absurd e hq
       | cons _ _=>rfl
      have hk:=HOk2.out b (by simp)
      have HPa:=hid (parseC_any b wr (HSm.out b (by simp)) HEv.out hq)
      have HHo:Hid (∀ W v,RuIn W 0 v (ruleOf (bts b))→Calls Tryz.prog 146 #[v,.agg #[.int .i64 o.i,.int .i64 o.v,.int .i64 o.w,.int .i64 o.f,.int .i64 o.t]] W fun e w'=>e=.returned (.tuple #[.bool (holdR o (ruleOf (bts b))),.nilIface])∧Below W.heap.size W w'):=hid fun W v h=>holdsC_any b o v W HOo.out hq hk h;have HHit:Hid (holdR o (ruleOf (bts b))=true→kt=⟨#[111,110,101]⟩):=hid fun h=>HP.out.trans (pickO_hit hq h);have HNx:Hid (holdR o (ruleOf (bts b))=false→kt=pickO o ([a,b,c,dd,f].drop 2) (kindC.drop 2)):=hid fun h=>HP.out.trans (pickO_next (.inr h));rw[hk]at HPa;clear hq hk HP HSm HOk2 HOo HEv;generalize ruleOf (bts b)=R at *;generalize holdR o R=x at*
      go_wp2_with fail
      refine HPa.out.mono ?_;clear HPa;rintro e w7 ⟨hb7,v,rfl,hru,A,n,cp,rfl⟩;have HB7:=hid (HB.out.trans (hb7.mono HB.out.size));have MO7:=hid (MO.out.below hb7 MO.out.lt);have HHo7:=hid (HHo.out w7 _ (hru (by first|rfl|trivial)))
      have o0:=(MO7.out.cell 0).trans (show _=some (.int .i64 o.i)from rfl);have o1:=(MO7.out.cell 1).trans (show _=some (.int .i64 o.v)from rfl);have o2:=(MO7.out.cell 2).trans (show _=some (.int .i64 o.w)from rfl);have o3:=(MO7.out.cell 3).trans (show _=some (.int .i64 o.f)from rfl);have o4:=(MO7.out.cell 4).trans (show _=some (.int .i64 o.t)from rfl)
      first|rw[if_pos rfl]|rw[if_pos trivial]
      clear hb7 hru HHo HB MO
      go_wp2_with fail
      refine HHo7.out.mono ?_;clear HHo7 o0 o1 o2 o3 o4;rintro e w8 ⟨rfl,hb8⟩;have HB8:=hid (HB7.out.trans (hb8.mono HB7.out.size));have MO8:=hid (MO7.out.below hb8 MO7.out.lt);have kc:=(HV.out w8 HB8.out).knd 1 (by decide)
      simp only[kindC,List.getElem_cons_zero,List.getElem_cons_succ]at kc;clear hb8 HB7 MO7;cases x with
      | true=>
        have hkt:=HHit.out rfl;have HKt:=hid hkt;clear hkt HHit HNx
        go_wp2_with fail
        go_ret2
        exact⟨by rw[HKt.out];rfl,HB8.out⟩
      | false=>
        have HN:=hid (HNx.out rfl);clear HHit HNx kc
        go_wp2_with fail
        go_roundw
        case rel=>exact⟨2,by omega,rfl,HN.out,MO8.out,HB8.out⟩
        case measure=>simp[intOf]
    ·by_cases hq:c.toList=[]
     ·have hq2:(c.toList == [])=true:=by rw[hq];rfl
      have HN:Hid (kt=pickO o ([a,b,c,dd,f].drop 3) (kindC.drop 3)):=hid (HP.out.trans (pickO_next (.inl hq)));clear hq
      go_wp2_with fail
      go_roundw
      case rel=>exact⟨3,by omega,rfl,HN,MO.out,HB.out⟩
      case measure=>simp[intOf]
     ·have hq2:(c.toList == [])=false:=by
       cases e:c.toList with
       | nil=>exact absurd e hq
       | cons _ _=>rfl
      have hk:=HOk2.out c (by simp)
      have HPa:=hid (parseC_any c wr (HSm.out c (by simp)) HEv.out hq)
      have HHo:Hid (∀ W v,RuIn W 0 v (ruleOf (bts c))→Calls Tryz.prog 146 #[v,.agg #[.int .i64 o.i,.int .i64 o.v,.int .i64 o.w,.int .i64 o.f,.int .i64 o.t]] W fun e w'=>e=.returned (.tuple #[.bool (holdR o (ruleOf (bts c))),.nilIface])∧Below W.heap.size W w'):=hid fun W v h=>holdsC_any c o v W HOo.out hq hk h;have HHit:Hid (holdR o (ruleOf (bts c))=true→kt=⟨#[116,119,111]⟩):=hid fun h=>HP.out.trans (pickO_hit hq h);have HNx:Hid (holdR o (ruleOf (bts c))=false→kt=pickO o ([a,b,c,dd,f].drop 3) (kindC.drop 3)):=hid fun h=>HP.out.trans (pickO_next (.inr h));rw[hk]at HPa;clear hq hk HP HSm HOk2 HOo HEv;generalize ruleOf (bts c)=R at *;generalize holdR o R=x at*
      go_wp2_with fail
      refine HPa.out.mono ?_;clear HPa;rintro e w7 ⟨hb7,v,rfl,hru,A,n,cp,rfl⟩;have HB7:=hid (HB.out.trans (hb7.mono HB.out.size));have MO7:=hid (MO.out.below hb7 MO.out.lt);have HHo7:=hid (HHo.out w7 _ (hru (by first|rfl|trivial)))
      have o0:=(MO7.out.cell 0).trans (show _=some (.int .i64 o.i)from rfl);have o1:=(MO7.out.cell 1).trans (show _=some (.int .i64 o.v)from rfl);have o2:=(MO7.out.cell 2).trans (show _=some (.int .i64 o.w)from rfl);have o3:=(MO7.out.cell 3).trans (show _=some (.int .i64 o.f)from rfl);have o4:=(MO7.out.cell 4).trans (show _=some (.int .i64 o.t)from rfl)
      first|rw[if_pos rfl]|rw[if_pos trivial]
      clear hb7 hru HHo HB MO
      go_wp2_with fail
      refine HHo7.out.mono ?_;clear HHo7 o0 o1 o2 o3 o4;rintro e w8 ⟨rfl,hb8⟩;have HB8:=hid (HB7.out.trans (hb8.mono HB7.out.size));have MO8:=hid (MO7.out.below hb8 MO7.out.lt);have kc:=(HV.out w8 HB8.out).knd 2 (by decide)
      simp only[kindC,List.getElem_cons_zero,List.getElem_cons_succ]at kc;clear hb8 HB7 MO7;cases x with
      | true=>
        have hkt:=HHit.out rfl;have HKt:=hid hkt;clear hkt HHit HNx
        go_wp2_with fail
        go_ret2
        exact⟨by rw[HKt.out];rfl,HB8.out⟩
      | false=>
        have HN:=hid (HNx.out rfl);clear HHit HNx kc
        go_wp2_with fail
        go_roundw
        case rel=>exact⟨3,by omega,rfl,HN.out,MO8.out,HB8.out⟩
        case measure=>simp[intOf]
    ·by_cases hq:dd.toList=[]
     ·have hq2:(dd.toList == [])=true:=by rw[hq];rfl
      have HN:Hid (kt=pickO o ([a,b,c,dd,f].drop 4) (kindC.drop 4)):=hid (HP.out.trans (pickO_next (.inl hq)));clear hq
      go_wp2_with fail
      go_roundw
      case rel=>exact⟨4,by omega,rfl,HN,MO.out,HB.out⟩
      case measure=>simp[intOf]
     ·have hq2:(dd.toList == [])=false:=by
       cases e:dd.toList with
       | nil=>exact absurd e hq
       | cons _ _=>rfl
      have hk:=HOk2.out dd (by simp)
      have HPa:=hid (parseC_any dd wr (HSm.out dd (by simp)) HEv.out hq)
      have HHo:Hid (∀ W v,RuIn W 0 v (ruleOf (bts dd))→Calls Tryz.prog 146 #[v,.agg #[.int .i64 o.i,.int .i64 o.v,.int .i64 o.w,.int .i64 o.f,.int .i64 o.t]] W fun e w'=>e=.returned (.tuple #[.bool (holdR o (ruleOf (bts dd))),.nilIface])∧Below W.heap.size W w'):=hid fun W v h=>holdsC_any dd o v W HOo.out hq hk h;have HHit:Hid (holdR o (ruleOf (bts dd))=true→kt=⟨#[102,101,119]⟩):=hid fun h=>HP.out.trans (pickO_hit hq h);have HNx:Hid (holdR o (ruleOf (bts dd))=false→kt=pickO o ([a,b,c,dd,f].drop 4) (kindC.drop 4)):=hid fun h=>HP.out.trans (pickO_next (.inr h));rw[hk]at HPa;clear hq hk HP HSm HOk2 HOo HEv;generalize ruleOf (bts dd)=R at *;generalize holdR o R=x at*
      go_wp2_with fail
      refine HPa.out.mono ?_;clear HPa;rintro e w7 ⟨hb7,v,rfl,hru,A,n,cp,rfl⟩;have HB7:=hid (HB.out.trans (hb7.mono HB.out.size));have MO7:=hid (MO.out.below hb7 MO.out.lt);have HHo7:=hid (HHo.out w7 _ (hru (by first|rfl|trivial)))
      have o0:=(MO7.out.cell 0).trans (show _=some (.int .i64 o.i)from rfl);have o1:=(MO7.out.cell 1).trans (show _=some (.int .i64 o.v)from rfl);have o2:=(MO7.out.cell 2).trans (show _=some (.int .i64 o.w)from rfl);have o3:=(MO7.out.cell 3).trans (show _=some (.int .i64 o.f)from rfl);have o4:=(MO7.out.cell 4).trans (show _=some (.int .i64 o.t)from rfl)
      first|rw[if_pos rfl]|rw[if_pos trivial]
      clear hb7 hru HHo HB MO
      go_wp2_with fail
      refine HHo7.out.mono ?_;clear HHo7 o0 o1 o2 o3 o4;rintro e w8 ⟨rfl,hb8⟩;have HB8:=hid (HB7.out.trans (hb8.mono HB7.out.size));have MO8:=hid (MO7.out.below hb8 MO7.out.lt);have kc:=(HV.out w8 HB8.out).knd 3 (by decide)
      simp only[kindC,List.getElem_cons_zero,List.getElem_cons_succ]at kc;clear hb8 HB7 MO7;cases x with
      | true=>
        have hkt:=HHit.out rfl;have HKt:=hid hkt;clear hkt HHit HNx
        go_wp2_with fail
        go_ret2
        exact⟨by rw[HKt.out];rfl,HB8.out⟩
      | false=>
        have HN:=hid (HNx.out rfl);clear HHit HNx kc
        go_wp2_with fail
        go_roundw
        case rel=>exact⟨4,by omega,rfl,HN.out,MO8.out,HB8.out⟩
        case measure=>simp[intOf]
    ·by_cases hq:f.toList=[]
     ·have hq2:(f.toList == [])=true:=by rw[hq];rfl
      have HN:Hid (kt=pickO o ([a,b,c,dd,f].drop 5) (kindC.drop 5)):=hid (HP.out.trans (pickO_next (.inl hq)));clear hq
      go_wp2_with fail
      go_roundw
      case rel=>exact⟨5,by omega,rfl,HN,MO.out,HB.out⟩
      case measure=>simp[intOf]
     ·have hq2:(f.toList == [])=false:=by
       cases e:f.toList with
       | nil=>exact absurd e hq
       | cons _ _=>rfl
      have hk:=HOk2.out f (by simp)
      have HPa:=hid (parseC_any f wr (HSm.out f (by simp)) HEv.out hq)
      have HHo:Hid (∀ W v,RuIn W 0 v (ruleOf (bts f))→Calls Tryz.prog 146 #[v,.agg #[.int .i64 o.i,.int .i64 o.v,.int .i64 o.w,.int .i64 o.f,.int .i64 o.t]] W fun e w'=>e=.returned (.tuple #[.bool (holdR o (ruleOf (bts f))),.nilIface])∧Below W.heap.size W w'):=hid fun W v h=>holdsC_any f o v W HOo.out hq hk h;have HHit:Hid (holdR o (ruleOf (bts f))=true→kt=⟨#[109,97,110,121]⟩):=hid fun h=>HP.out.trans (pickO_hit hq h);have HNx:Hid (holdR o (ruleOf (bts f))=false→kt=pickO o ([a,b,c,dd,f].drop 5) (kindC.drop 5)):=hid fun h=>HP.out.trans (pickO_next (.inr h));rw[hk]at HPa;clear hq hk HP HSm HOk2 HOo HEv;generalize ruleOf (bts f)=R at *;generalize holdR o R=x at*
      go_wp2_with fail
      refine HPa.out.mono ?_;clear HPa;rintro e w7 ⟨hb7,v,rfl,hru,A,n,cp,rfl⟩;have HB7:=hid (HB.out.trans (hb7.mono HB.out.size));have MO7:=hid (MO.out.below hb7 MO.out.lt);have HHo7:=hid (HHo.out w7 _ (hru (by first|rfl|trivial)))
      have o0:=(MO7.out.cell 0).trans (show _=some (.int .i64 o.i)from rfl);have o1:=(MO7.out.cell 1).trans (show _=some (.int .i64 o.v)from rfl);have o2:=(MO7.out.cell 2).trans (show _=some (.int .i64 o.w)from rfl);have o3:=(MO7.out.cell 3).trans (show _=some (.int .i64 o.f)from rfl);have o4:=(MO7.out.cell 4).trans (show _=some (.int .i64 o.t)from rfl)
      first|rw[if_pos rfl]|rw[if_pos trivial]
      clear hb7 hru HHo HB MO
      go_wp2_with fail
      refine HHo7.out.mono ?_;clear HHo7 o0 o1 o2 o3 o4;rintro e w8 ⟨rfl,hb8⟩;have HB8:=hid (HB7.out.trans (hb8.mono HB7.out.size));have MO8:=hid (MO7.out.below hb8 MO7.out.lt);have kc:=(HV.out w8 HB8.out).knd 4 (by decide)
      simp only[kindC,List.getElem_cons_zero,List.getElem_cons_succ]at kc;clear hb8 HB7 MO7;cases x with
      | true=>
        have hkt:=HHit.out rfl;have HKt:=hid hkt;clear hkt HHit HNx
        go_wp2_with fail
        go_ret2
        exact⟨by rw[HKt.out];rfl,HB8.out⟩
      | false=>
        have HN:=hid (HNx.out rfl);clear HHit HNx kc
        go_wp2_with fail
        go_roundw
        case rel=>exact⟨5,by omega,rfl,HN.out,MO8.out,HB8.out⟩
        case measure=>simp[intOf]
    ·have hkt:kt=othB:=HP.out;have HKt:=hid hkt;clear hkt HP
     go_wp2_with fail
     go_ret2
     exact⟨by rw[HKt.out];rfl,HB.out⟩
  ·obtain rfl:ke=1:=HKe.out.trans (HD2.out hd);have hkt:kt=⟨#[]⟩:=HK.out.2 (by decide)
   have HKt:=hid hkt;rw[HD2.out hd,errD_ne (by decide)]
   unfold OpV.val;clear hkt hd HD1 HD2 HKe HK;generalize opsO d=o at *;have HB5:Hid (Below w.heap.size w (w4.alloc (.cells #[.int .i64 o.i,.int .i64 o.v,.int .i64 o.w,.int .i64 o.f,.int .i64 o.t] 249))):=hid (HB4.out.alloc HB4.out.size _)
   go_wp2_with fail
   go_ret2
   exact⟨by rw[HKt.out];rfl,HB5.out⟩
 ·obtain rfl:ke=3:=HE.out.2 (by decide)
  have hkt:kt=⟨#[]⟩:=HK.out.2 (by decide)
  have HKt:=hid hkt;rw[errD_ne (by decide)]
  clear hkt HE HK HOk
  go_wp2_with fail
  go_ret2
  exact⟨by rw[HKt.out];rfl,HB3.out⟩
end Go.Proofs.YtpfmmbbggcghiaaGreatDoor
