/- msg.check: the walk; msg.Check. -/
import Derived.Test.YtagfnpdoooachaaGreatDoorMsgE
set_option linter.unusedSimpArgs false
set_option linter.unusedVariables false
set_option maxHeartbeats 6400000
set_option maxRecDepth 100000
namespace Go.Proofs.YtagfnpdoooachaaGreatDoor
open Go.RowKit
open Lib (hid)
section
variable {β:Type} (chk:List β→Bool→Int)
theorem checkM_at {mark:Bool} {l:List (NdF β)} {j:Nat} {last:Option Int} (h:j < l.length):checkM chk mark last (l.drop j)=
 if fineM l[j].kind l[j].text last mark=false then 3 else if l[j].kind=4∧(l[j].off < 0∨9 < l[j].off)then 1 else if hasCases l[j].kind=true∧casesM chk l[j].kind mark l[j].cases []≠0 then casesM chk l[j].kind mark l[j].cases []else checkM chk mark (some l[j].kind) (l.drop (j+1)):=by
 rw[List.drop_eq_getElem_cons h];rfl
def lastK (l:List (NdF β)):Option Int:=l.getLast?.map (·.kind)
theorem lastK_succ {l:List (NdF β)} {j:Nat} (h:j < l.length):lastK (l.take (j+1))=some l[j].kind:=by
 unfold lastK;rw[List.take_succ_eq_append_getElem h,List.getLast?_append];simp
end
theorem check_walk {β:Type} {E:Enc β} (hE:E.Laws) (chk:List β→Bool→Int) (m:List (NdF β)) (v:Value) (mark:Bool) (lo:Nat) (w:World) (hv:ListOk (Enc.nodeF E) w lo w.heap.size v m) (hl:m.length≤10000000)
 (IH:Hid (∀ x∈m,∀ W U,Below w.heap.size w W→ListOk (Enc.cas E) W lo W.heap.size U x.cases→Calls Tryz.prog 190 #[.agg #[.int .i64 x.kind,.string x.text,.int .i64 x.off,U],.bool mark] W fun e w'=>e=.returned (errV (casesM chk x.kind mark x.cases []))∧Below W.heap.size W w')):
 Calls Tryz.prog 136 #[v,.bool mark] w fun e w'=>e=.returned (errV (checkM chk mark none m))∧Below w.heap.size w w':=by
 obtain⟨A,c,rfl,hcap⟩:=hv.form;have HV:Hid (∀ W,Below w.heap.size w W→ListOk (Enc.nodeF E) W lo w.heap.size (.slice A m.length c) m):=hid fun W hW=>hv.below (Enc.nodeF_laws hE) hW;clear hv
 go_enter Tryz.func136,Tryz.ntmps136
 go_wp2_with fail
 go_loopw [5,6,7,10] (fun _ _ _ i wr=>∃ j:Nat,j≤m.length∧i=.int .i64 (j:Int)∧Hid (checkM chk mark none m=checkM chk mark (lastK (m.take j)) (m.drop j))∧Below w.heap.size w wr) (fun _ _ _ i _=>m.length - (intOf i).toNat)
 case atStart=>exact⟨0,Nat.zero_le _,rfl,hid rfl,Below.refl _ _⟩
 case round=>
  obtain⟨j,hj,rfl,HNo,hb⟩:=hrel;have HB:=hid hb;have hbs:=hb.size
  by_cases hlt:j < m.length
  ·have i1:(0:Int)≤(j:Int):=Int.natCast_nonneg j;have i2:(j:Int) < (m.length:Int):=by omega
   have i3:(j:Int)≤(c:Int):=by omega
   have hmem:m[j]∈m:=List.getElem_mem hlt;have HLs:=hid (lastK_succ hlt);have HAt:Hid (checkM chk mark none m=if fineM m[j].kind m[j].text (lastK (m.take j)) mark=false then 3 else if m[j].kind=4∧(m[j].off < 0∨9 < m[j].off)then 1 else if hasCases m[j].kind=true∧casesM chk m[j].kind mark m[j].cases []≠0 then casesM chk m[j].kind mark m[j].cases []else checkM chk mark (some m[j].kind) (m.drop (j+1))):=hid (by rw[HNo.out,checkM_at chk hlt])
   have htk:(m.take j).length=j:=by rw[List.length_take];omega
   obtain⟨b0,o0,V,rfl,_,_,x0,x1,x2,x3,hV⟩:=(HV.out _ hb).nodeAt j hlt;obtain⟨VA,Vc,rfl,_⟩:=hV.form;have HFi:Hid (∀ W,Below w.heap.size w W→Calls Tryz.prog 189 #[.agg #[.int .i64 m[j].kind,.string m[j].text,.int .i64 m[j].off,.slice VA m[j].cases.length Vc],.slice (some ⟨b0,o0,none⟩) j c,.bool mark] W fun e w'=>e=.returned (.bool (fineM m[j].kind m[j].text (lastK (m.take j)) mark))∧Below W.heap.size W w'):=hid fun W hW=>by
    have ht:=((HV.out W hW).take j (by omega)).mono (Enc.nodeF_laws hE) (Nat.le_refl _) hW.size
    exact fineM_any (E:=E) m[j].kind m[j].off m[j].text VA m[j].cases.length Vc (m.take j) (.slice (some ⟨b0,o0,none⟩) j c) mark lo W ht hE (by omega)
   have HCa:Hid (∀ W,Below w.heap.size w W→Calls Tryz.prog 190 #[.agg #[.int .i64 m[j].kind,.string m[j].text,.int .i64 m[j].off,.slice VA m[j].cases.length Vc],.bool mark] W fun e w'=>e=.returned (errV (casesM chk m[j].kind mark m[j].cases []))∧Below W.heap.size W w'):=hid fun W hW=>
    IH.out _ hmem W _ hW ((hV.keep (Enc.cas_laws hE) fun p h1 h2=>(hW.cell h2).trans (HB.out.cell h2).symm).mono (Enc.cas_laws hE) (Nat.le_refl _) hW.size)
   clear hV hmem HNo hb htk;generalize m[j]=x at *;obtain⟨y0,y1,y2,y3⟩:=x;dsimp only at x0 x1 x2 x3 HAt HFi HCa HLs;obtain⟨W2,eW2⟩:∃ W2,W2=wr.alloc (.cells #[.int .i64 y0,.string y1,.int .i64 y2,.slice VA y3.length Vc] 197):=⟨_,rfl⟩;have hb2:Below wr.heap.size wr W2:=by rw[eW2];exact(Below.refl _ _).alloc (Nat.le_refl _) _
   have M2:Hid (Blk W2 wr.heap.size 197 #[.int .i64 y0,.string y1,.int .i64 y2,.slice VA y3.length Vc]):=hid (by rw[eW2];exact Blk.new _ _ _)
   have a0:W2.drew.cell? ⟨wr.heap.size,0,none⟩=some (.int .i64 y0):=(M2.out.cell 0).trans rfl;have a1:W2.drew.cell? ⟨wr.heap.size,1,none⟩=some (.string y1):=(M2.out.cell 1).trans rfl;have a2:W2.drew.cell? ⟨wr.heap.size,2,none⟩=some (.int .i64 y2):=(M2.out.cell 2).trans rfl;have a3:W2.drew.cell? ⟨wr.heap.size,3,none⟩=some (.slice VA y3.length Vc):=(M2.out.cell 3).trans rfl;have HB2:=hid (HB.out.trans (hb2.mono hbs));have HFd:=hid (HFi.out W2.drew (below_drewN HB2.out 1));have HW2:=hid eW2;generalize fineM y0 y1 (lastK (m.take j)) mark=F0 at *;generalize casesM chk y0 mark y3 []=e0 at *;clear eW2 hb2 HFi
   go_upto_region 4 with fail
   rw[←HW2.out];clear HW2
   go_cut [21]from 22 (fun b wx=>b=.bool (!F0)∧Below w.heap.size w wx∧Blk wx wr.heap.size 197 #[.int .i64 y0,.string y1,.int .i64 y2,.slice VA y3.length Vc])
   case first=>
    go_region_with ((go_at_call 189;with_reducible refine(HFd.out).mono ?_);rintro e wx ⟨rfl,hbx⟩)
    all_goals
     go_wp2_with fail
     go_meet
     case rel=>exact⟨rfl,(below_drewN HB2.out 1).trans (hbx.mono HB2.out.size),M2.out.drew.below hbx M2.out.drew.lt⟩
   case rest=>
    obtain⟨rfl,hbc,hmc⟩:=hcut;have HBc:=hid hbc;have c0:=(hmc.cell 0).trans (show _=some (.int .i64 y0)from rfl);have c1:=(hmc.cell 1).trans (show _=some (.string y1)from rfl);have c2:=(hmc.cell 2).trans (show _=some (.int .i64 y2)from rfl);have c3:=(hmc.cell 3).trans (show _=some (.slice VA y3.length Vc)from rfl);have HC:=hid (HCa.out wc hbc);clear hbc hmc HCa HFd M2 HB2 a0 a1 a2 a3 x0 x1 x2 x3;cases F0 with
    | false=>
      have HE:Hid (checkM chk mark none m=3):=hid (by rw[HAt.out,if_pos rfl])
      clear HAt HC HLs
      go_wp2_with fail
      go_ret
      exact⟨by rw[HE.out];rfl,HBc.out⟩
    | true=>
      have HA2:Hid (checkM chk mark none m=if y0=4∧(y2 < 0∨9 < y2)then 1 else if hasCases y0=true∧e0≠0 then e0 else checkM chk mark (some y0) (m.drop (j+1))):=hid (by rw[HAt.out,if_neg (by decide)])
      clear HAt
      by_cases h4:y0=4
      ·subst h4
       by_cases h0:y2 < 0
       ·have HE:Hid (checkM chk mark none m=1):=hid (by rw[HA2.out,if_pos ⟨rfl,.inl h0⟩])
        clear HA2 HC HLs
        go_wp2_with fail
        go_ret
        exact⟨by rw[HE.out];rfl,HBc.out⟩
       ·by_cases h9:9 < y2
        ·have HE:Hid (checkM chk mark none m=1):=hid (by rw[HA2.out,if_pos ⟨rfl,.inr h9⟩])
         clear HA2 HC HLs
         go_wp2_with fail
         go_ret
         exact⟨by rw[HE.out];rfl,HBc.out⟩
        ·have HA3:Hid (checkM chk mark none m=if e0≠0 then e0 else checkM chk mark (some 4) (m.drop (j+1))):=hid (by
          rw[HA2.out,if_neg (fun h=>by rcases h.2 with h|h;exact h0 h;exact h9 h)]
          simp[hasCases])
         clear HA2
         go_wp2_with fail
         refine HC.out.mono ?_;clear HC;rintro e w5 ⟨rfl,hb5⟩;have HB5:=hid (HBc.out.trans (hb5.mono HBc.out.size));clear hb5
         by_cases he:e0=0
         ·subst he;have HN:Hid (checkM chk mark none m=checkM chk mark (lastK (m.take (j+1))) (m.drop (j+1))):=hid (by rw[HA3.out,if_neg (by simp),HLs.out])
          rw[errV_zero];clear HA3 HLs
          go_wp2_with fail
          go_roundw
          case rel=>exact⟨j+1,by omega,by go_num,HN,HB5.out⟩
          case measure=>simp[intOf];omega
         ·have HE:Hid (checkM chk mark none m=e0):=hid (by rw[HA3.out,if_pos he])
          rw[errV_ne he];clear HA3 HLs
          go_wp2_with fail
          go_ret
          exact⟨by rw[HE.out,errV_ne he];rfl,HB5.out⟩
      ·have q4:(y0 == 4)=false:=by rw[beq_eq_false_iff_ne];exact h4
       have HA2':Hid (checkM chk mark none m=if hasCases y0=true∧e0≠0 then e0 else checkM chk mark (some y0) (m.drop (j+1))):=hid (by rw[HA2.out,if_neg (fun h=>h4 h.1)])
       clear HA2
       by_cases h5:y0=5
       ·subst h5;have HA3:Hid (checkM chk mark none m=if e0≠0 then e0 else checkM chk mark (some 5) (m.drop (j+1))):=hid (by rw[HA2'.out];simp[hasCases])
        clear HA2'
        go_wp2_with fail
        refine HC.out.mono ?_;clear HC;rintro e w5 ⟨rfl,hb5⟩;have HB5:=hid (HBc.out.trans (hb5.mono HBc.out.size));clear hb5
        by_cases he:e0=0
        ·subst he;have HN:Hid (checkM chk mark none m=checkM chk mark (lastK (m.take (j+1))) (m.drop (j+1))):=hid (by rw[HA3.out,if_neg (by simp),HLs.out])
         rw[errV_zero];clear HA3 HLs
         go_wp2_with fail
         go_roundw
         case rel=>exact⟨j+1,by omega,by go_num,HN,HB5.out⟩
         case measure=>simp[intOf];omega
        ·have HE:Hid (checkM chk mark none m=e0):=hid (by rw[HA3.out,if_pos he])
         rw[errV_ne he];clear HA3 HLs
         go_wp2_with fail
         go_ret
         exact⟨by rw[HE.out,errV_ne he];rfl,HB5.out⟩
       ·have q5:(y0 == 5)=false:=by rw[beq_eq_false_iff_ne];exact h5
        have HN:Hid (checkM chk mark none m=checkM chk mark (lastK (m.take (j+1))) (m.drop (j+1))):=hid (by
         rw[HA2'.out,if_neg (fun h=>by unfold hasCases at h;rw[q4,q5]at h;exact absurd h.1 (by decide)),HLs.out])
        clear HA2' HC HLs h4 h5
        go_wp2_with fail
        go_roundw
        case rel=>exact⟨j+1,by omega,by go_num,HN,HBc.out⟩
        case measure=>simp[intOf];omega
  ·obtain rfl:j=m.length:=by omega
   have HE:Hid (checkM chk mark none m=0):=hid (by rw[HNo.out,List.drop_length];cases lastK (m.take m.length) <;> rfl)
   clear hb HNo
   go_wp2_with fail
   go_ret
   exact⟨by rw[HE.out];rfl,HB.out⟩
def checkN:(n:Nat)→List (Nd n)→Bool→Int
 | 0,_,_=>0
 | n+1,m,mark=>checkM (checkN n) mark none (m:List (NdF (Nd n)))
theorem mcheck_any:(n:Nat)→(m:List (Nd n))→(v:Value)→(mark:Bool)→(lo:Nat)→(w:World)→MsgIn n m→ListOk (Enc.node n) w lo w.heap.size v m→MV w→
 Calls Tryz.prog 136 #[v,.bool mark] w fun e w'=>e=.returned (errV (checkN n m mark))∧Below w.heap.size w w'
 | 0,m,v,mark,lo,w,hm,hv,_=>by
   obtain rfl:=empty_list m;obtain⟨A,c,rfl,_⟩:=hv.form;exact check_walk (E:=Enc.none_) Enc.none_laws (fun _ _=>0) ([]:List (NdF Empty)) (.slice A 0 c) mark lo w (ListOk.nil c A) (Nat.zero_le _) (hid fun x hx=>by cases hx)
 | n+1,m,v,mark,lo,w,hm,hv,hV=>by
   refine check_walk (E:=Enc.node n) (Enc.node_laws n) (checkN n) (m:List (NdF (Nd n))) v mark lo w hv hm.len (hid fun x hx W U hW hU=> ?_);have h1:smallF (SmallN n) x:=hm.each x hx;exact cases_walk (E:=Enc.node n) (Enc.node_laws n) (checkN n) x U mark lo W hU h1.2.1 (fun c hc=>(h1.2.2 c hc).1) (hV.below hW)
    (hid fun c hc mk W' U' hW' hU'=>mcheck_any n c.2 U' mk lo W' (hm.body hx hc) hU' ((hV.below hW).below hW'))
def checkAll (n:Nat) (m:List (Nd n)):Int:=if(sizeN n m 0).2=true then 4 else checkN n m false
theorem Check_any (n:Nat) (m:List (Nd n)) (v:Value) (lo:Nat) (w:World) (hm:MsgIn n m) (hv:ListOk (Enc.node n) w lo w.heap.size v m) (hV:MV w):
 Calls Tryz.prog 87 #[v] w fun e w'=>e=.returned (errV (checkAll n m))∧Below w.heap.size w w':=by
 have HS:=hid (size_any n m 0 v lo w (by decide) hm hv)
 have HC:Hid (∀ W,Below w.heap.size w W→Calls Tryz.prog 136 #[v,.bool false] W fun e w'=>e=.returned (errV (checkN n m false))∧Below W.heap.size W w'):=hid fun W hW=>
  mcheck_any n m v false lo W hm ((hv.below (Enc.node_laws n) hW).mono (Enc.node_laws n) (Nat.le_refl _) hW.size) (hV.below hW)
 have HE:Hid (checkAll n m=if(sizeN n m 0).2=true then 4 else checkN n m false):=hid rfl
 generalize sizeN n m 0=z at *;obtain⟨z1,z2⟩:=z;dsimp only at HS HE;generalize checkN n m false=k at *;clear hv hV hm
 go_enter Tryz.func87,Tryz.ntmps87
 go_wp2_with fail
 refine HS.out.mono ?_;clear HS;rintro e w1 ⟨rfl,hb1⟩;have HB1:=hid hb1;have HC1:=hid (HC.out w1 hb1);clear hb1 HC;cases z2 with
 | true=>
   have HE2:Hid (checkAll n m=4):=hid (by rw[HE.out,if_pos rfl])
   clear HE HC1
   go_wp2_with fail
   go_ret
   exact⟨by rw[HE2.out];rfl,HB1.out⟩
 | false=>
   have HE2:Hid (checkAll n m=k):=hid (by rw[HE.out,if_neg (by decide)])
   clear HE
   go_wp2_with fail
   refine HC1.out.mono ?_;clear HC1;rintro e w2 ⟨rfl,hb2⟩;have HB2:=hid (HB1.out.trans (hb2.mono HB1.out.size));clear hb2
   go_wp2_with fail
   go_ret
   exact⟨by rw[HE2.out];rfl,HB2.out⟩
structure Ned where
 name:ByteArray
 num:Bool
 text:Bool
def nedV (x:Ned):List Value:=[.string x.name,.bool x.num,.bool x.text]
def flatN (l:List Ned):List Value:=l.flatMap nedV
theorem flatN_snoc (l:List Ned) (x:Ned):flatN (l++[x])=flatN l++nedV x:=by simp[flatN]
theorem flatN_at:∀(l:List Ned) (i:Nat) (h:i < l.length),((flatN l).drop (i*3)).take 3=nedV l[i]
 | [],i,h=>by cases h
 | p::l,0,_=>by show((nedV p++flatN l).drop (0*3)).take 3=_;simp[nedV]
 | p::l,i+1,h=>by
   have ih:=flatN_at l i (by simpa using h)
   show((nedV p++flatN l).drop ((i+1)*3)).take 3=_;rw[show(i+1)*3=(nedV p).length+i*3 from by simp[nedV];omega,List.drop_append,List.drop_eq_nil_of_le (Nat.le_add_right _ _),Nat.add_sub_cancel_left]
   exact ih
theorem flatN_set:∀(l:List Ned) (i:Nat) (h:i < l.length) (a b:Bool),((flatN l).set (i*3+1) (.bool a)).set (i*3+2) (.bool b)=flatN (l.set i ⟨l[i].name,a,b⟩)
 | [],i,h,_,_=>by cases h
 | p::l,0,_,a,b=>by rfl
 | p::l,i+1,h,a,b=>by
   have ih:=flatN_set l i (by simpa using h) a b
   have e1:(i+1)*3+1=(i*3+1)+1+1+1:=by omega
   have e2:(i+1)*3+2=(i*3+2)+1+1+1:=by omega
   rw[e1,e2];show(((nedV p++flatN l).set ((i*3+1)+1+1+1) (.bool a)).set ((i*3+2)+1+1+1) (.bool b))=nedV p++flatN (l.set i ⟨(l[i]'(by simpa using h)).name,a,b⟩)
   rw[←ih]
   rfl
def Enc.ned:Enc Ned:=⟨3,24,fun _ _ _ cs x=>cs=nedV x,fun _ _=>True,fun _=>1⟩
theorem Enc.ned_laws:Enc.ned.Laws:=⟨fun h=>by cases h;rfl,fun h _=>h,fun h _ _=>h⟩
theorem neds_of_own {w:World} {base lo hi:Nat} {v:Value} {l:List Ned} (h:w.ownsRow base 194 3 v l.length (flatN l)) (hb:lo≤base) (hs:w.heap.size≤hi):ListOk Enc.ned w lo hi v l:=
 ListOk.of_own (E:=Enc.ned) h hb hs fun i hl=>flatN_at l i hl
theorem ListOk.nedAt {w:World} {lo hi:Nat} {A:Option Addr} {n c:Nat} {l:List Ned} (h:ListOk Enc.ned w lo hi (.slice A n c) l) (i:Nat) (hl:i < l.length):
 ∃ b o,A=some ⟨b,o,none⟩∧lo≤b∧b < hi∧w.cell? ⟨b,o+i*3,none⟩=some (.string l[i].name)∧w.cell? ⟨b,o+i*3+1,none⟩=some (.bool l[i].num)∧w.cell? ⟨b,o+i*3+2,none⟩=some (.bool l[i].text):=by
 obtain⟨A',c',hv,_,hi'⟩:=h;injection hv with hv1 _ _;subst hv1;obtain⟨b,o,cs,hA,h1,h2,h3,h4⟩:=hi' i hl;have h4':cs=nedV l[i]:=h4;subst h4';exact⟨b,o,hA,h1,h2,h3 0 _ rfl,h3 1 _ rfl,h3 2 _ rfl⟩
def idxOfN {α:Type} (l:List α) (T:α→Bool):Int:=match l.findIdx? T with|some i=>i|none=> -1
theorem idxN_hit {α:Type} {l:List α} {T:α→Bool} {j:Nat} (h:j < l.length) (hp:T l[j]=true) (hno:∀ q (h:q < l.length),q < j→T l[q]=false):idxOfN l T=j:=by
 unfold idxOfN;rw[findIdx_at l T j h hp hno]
theorem idxN_no {α:Type} {l:List α} {T:α→Bool} (hno:∀ q (h:q < l.length),T l[q]=false):idxOfN l T= -1:=by
 unfold idxOfN;rw[findIdx_none l T hno]
theorem idxN_any {α:Type} (l:List α) (T:α→Bool):decide (0≤idxOfN l T)=l.any T:=by
 unfold idxOfN;cases h:l.findIdx? T with
 | none=>
   rw[List.findIdx?_eq_none_iff]at h;have:l.any T=false:=by rw[List.any_eq_false];intro x hx;simp[h x hx]
   rw[this];decide
 | some i=>
   rw[List.findIdx?_eq_some_iff_getElem]at h;obtain⟨hi,hp,_⟩:=h;rw[any_of_at l T i hi hp];simp
theorem idx_cases {α:Type} (l:List α) (T:α→Bool):idxOfN l T= -1∨∃ i,i < l.length∧idxOfN l T=(i:Nat):=by
 unfold idxOfN;cases h:l.findIdx? T with
 | none=>exact .inl rfl
 | some i=>
   rw[List.findIdx?_eq_some_iff_getElem]at h;exact .inr ⟨i,h.1,rfl⟩
theorem indexA_any (l:List Ned) (v:Value) (q0:Nat) (T:Ned→Bool) (lo:Nat) (w:World) (hv:ListOk Enc.ned w lo w.heap.size v l) (hn:l.length≤1000000000)
 (HT:Hid (∀ x∈l,∀ W,Below w.heap.size w W→Calls Tryz.prog 230 #[.agg #[.string x.name,.bool x.num,.bool x.text],.pointer (some ⟨q0,0,none⟩)] W fun e w'=>e=.returned (.bool (T x))∧Below W.heap.size W w')):
 Calls Tryz.prog 209 #[v,.func (.func 230) #[] #[.pointer (some ⟨q0,0,none⟩)]] w fun e w'=>e=.returned (.int .i64 (idxOfN l T))∧Below w.heap.size w w':=by
 obtain⟨A,c,rfl,hc⟩:=hv.form;have HV:Hid (∀ W,Below w.heap.size w W→ListOk Enc.ned W lo w.heap.size (.slice A l.length c) l):=hid fun W hW=>hv.below Enc.ned_laws hW;clear hv
 go_enter Tryz.func209,Tryz.ntmps209
 go_wp2_with fail
 go_loopw [5,8] (fun _ i wr=>∃ j:Nat,j≤l.length∧i=.int .i64 (j:Int)∧Hid (∀ q (h:q < l.length),q < j→T l[q]=false)∧Below w.heap.size w wr) (fun _ i _=>l.length - (intOf i).toNat)
 case atStart=>exact⟨0,Nat.zero_le _,rfl,hid fun q _ h=>absurd h (Nat.not_lt_zero _),Below.refl _ _⟩
 case round=>
  obtain⟨j,hj,rfl,HNo,hb⟩:=hrel;have HB:=hid hb;have hbs:=hb.size
  by_cases hlt:j < l.length
  ·have hx:l[j]∈l:=List.getElem_mem hlt;have HTj:=hid (HT.out l[j] hx);obtain⟨X,hX⟩:∃ X,X=T l[j]:=⟨_,rfl⟩;have HX:Hid (X=T l[j]):=hid hX;rw[←hX]at HTj;have HI1:Hid (X=true→idxOfN l T=(j:Int)):=hid fun h=>idxN_hit hlt (HX.out.symm.trans h) HNo.out;have HI2:Hid (X=false→∀ q (h:q < l.length),q < j+1→T l[q]=false):=hid fun h=>step_no l T j HNo.out fun _=>HX.out.symm.trans h;clear HX HNo;obtain⟨b0,o0,rfl,hb1,hb2,x0,x1,x2⟩:=(HV.out _ hb).nedAt j hlt;generalize l[j]=e at *;obtain⟨e0,e1,e2⟩:=e;dsimp only at x0 x1 x2 HTj;have HTw:=hid (HTj.out wr hb);clear hb hx hX;have i1:(0:Int)≤(j:Int):=Int.natCast_nonneg j;have i2:(j:Int) < (l.length:Int):=by omega
   clear HTj HT
   go_wp2_with fail
   refine HTw.out.mono ?_;clear HTw;rintro e w1 ⟨rfl,hb1'⟩;have HB1:=hid (HB.out.trans (hb1'.mono hbs));clear hb1';cases X with
   | true=>
     have HI:Hid (idxOfN l T=(j:Int)):=hid (HI1.out rfl);clear HI1 HI2
     go_wp2_with fail
     go_ret
     exact⟨by rw[HI.out];rfl,HB1.out⟩
   | false=>
     have HN2:Hid (∀ q (h:q < l.length),q < j+1→T l[q]=false):=hid (HI2.out rfl);clear HI1 HI2
     go_wp2_with fail
     go_roundw
     case rel=>exact⟨j+1,by omega,by go_num,HN2,HB1.out⟩
     case measure=>simp[intOf];omega
  ·obtain rfl:j=l.length:=by omega
   have HI:Hid (idxOfN l T= -1):=hid (idxN_no fun q h=>HNo.out q h h);clear hb HNo
   go_wp2_with fail
   go_ret
   exact⟨by rw[HI.out];rfl,HB.out⟩
theorem indexO_any (l:List Ned) (v:Value) (T:Ned→Bool) (lo:Nat) (w:World) (hv:ListOk Enc.ned w lo w.heap.size v l) (hn:l.length≤1000000000)
 (HT:Hid (∀ x∈l,∀ W,Below w.heap.size w W→Calls Tryz.prog 175 #[.agg #[.string x.name,.bool x.num,.bool x.text]] W fun e w'=>e=.returned (.bool (T x))∧Below W.heap.size W w')):
 Calls Tryz.prog 209 #[v,.func (.func 175) #[] #[]] w fun e w'=>e=.returned (.int .i64 (idxOfN l T))∧Below w.heap.size w w':=by
 obtain⟨A,c,rfl,hc⟩:=hv.form;have HV:Hid (∀ W,Below w.heap.size w W→ListOk Enc.ned W lo w.heap.size (.slice A l.length c) l):=hid fun W hW=>hv.below Enc.ned_laws hW;clear hv
 go_enter Tryz.func209,Tryz.ntmps209
 go_wp2_with fail
 go_loopw [5,8] (fun _ i wr=>∃ j:Nat,j≤l.length∧i=.int .i64 (j:Int)∧Hid (∀ q (h:q < l.length),q < j→T l[q]=false)∧Below w.heap.size w wr) (fun _ i _=>l.length - (intOf i).toNat)
 case atStart=>exact⟨0,Nat.zero_le _,rfl,hid fun q _ h=>absurd h (Nat.not_lt_zero _),Below.refl _ _⟩
 case round=>
  obtain⟨j,hj,rfl,HNo,hb⟩:=hrel;have HB:=hid hb;have hbs:=hb.size
  by_cases hlt:j < l.length
  ·have hx:l[j]∈l:=List.getElem_mem hlt;have HTj:=hid (HT.out l[j] hx);obtain⟨X,hX⟩:∃ X,X=T l[j]:=⟨_,rfl⟩;have HX:Hid (X=T l[j]):=hid hX;rw[←hX]at HTj;have HI1:Hid (X=true→idxOfN l T=(j:Int)):=hid fun h=>idxN_hit hlt (HX.out.symm.trans h) HNo.out;have HI2:Hid (X=false→∀ q (h:q < l.length),q < j+1→T l[q]=false):=hid fun h=>step_no l T j HNo.out fun _=>HX.out.symm.trans h;clear HX HNo;obtain⟨b0,o0,rfl,hb1,hb2,x0,x1,x2⟩:=(HV.out _ hb).nedAt j hlt;generalize l[j]=e at *;obtain⟨e0,e1,e2⟩:=e;dsimp only at x0 x1 x2 HTj;have HTw:=hid (HTj.out wr hb);clear hb hx hX;have i1:(0:Int)≤(j:Int):=Int.natCast_nonneg j;have i2:(j:Int) < (l.length:Int):=by omega
   clear HTj HT
   go_wp2_with fail
   refine HTw.out.mono ?_;clear HTw;rintro e w1 ⟨rfl,hb1'⟩;have HB1:=hid (HB.out.trans (hb1'.mono hbs));clear hb1';cases X with
   | true=>
     have HI:Hid (idxOfN l T=(j:Int)):=hid (HI1.out rfl);clear HI1 HI2
     go_wp2_with fail
     go_ret
     exact⟨by rw[HI.out];rfl,HB1.out⟩
   | false=>
     have HN2:Hid (∀ q (h:q < l.length),q < j+1→T l[q]=false):=hid (HI2.out rfl);clear HI1 HI2
     go_wp2_with fail
     go_roundw
     case rel=>exact⟨j+1,by omega,by go_num,HN2,HB1.out⟩
     case measure=>simp[intOf];omega
  ·obtain rfl:j=l.length:=by omega
   have HI:Hid (idxOfN l T= -1):=hid (idxN_no fun q h=>HNo.out q h h);clear hb HNo
   go_wp2_with fail
   go_ret
   exact⟨by rw[HI.out];rfl,HB.out⟩
theorem addC_any (x:Ned) (q0:Nat) (t:ByteArray) (w:World) (hq:w.cell? ⟨q0,1,none⟩=some (.string t)):
 Calls Tryz.prog 230 #[.agg #[.string x.name,.bool x.num,.bool x.text],.pointer (some ⟨q0,0,none⟩)] w fun e w'=>e=.returned (.bool (eqs x.name t))∧Below w.heap.size w w':=by
 obtain⟨n0,n1,n2⟩:=x;obtain⟨W1,eW1⟩:∃ W1,W1=w.alloc (.cells #[.string n0,.bool n1,.bool n2] 194):=⟨_,rfl⟩;have hb1:Below w.heap.size w W1:=by rw[eW1];exact(Below.refl _ _).alloc (Nat.le_refl _) _
 have m1:Blk W1 w.heap.size 194 #[.string n0,.bool n1,.bool n2]:=by rw[eW1];exact Blk.new _ _ _
 have k0:W1.cell? ⟨w.heap.size,0,none⟩=some (.string n0):=(m1.cell 0).trans rfl;have kq:W1.cell? ⟨q0,1,none⟩=some (.string t):=(hb1.cell (p:=⟨q0,1,none⟩) (cellLt hq)).trans hq;have HB1:=hid hb1;have HW1:=hid eW1;clear hq eW1 m1 hb1;dsimp only
 go_enter Tryz.func230,Tryz.ntmps230
 go_upto_region 1 with fail
 rw[←HW1.out];clear HW1
 go_wp2_with fail
 go_ret
 exact⟨rfl,HB1.out⟩
theorem ofC_any (x:Ned) (w:World):Calls Tryz.prog 175 #[.agg #[.string x.name,.bool x.num,.bool x.text]] w fun e w'=>e=.returned (.bool (x.num && x.text))∧Below w.heap.size w w':=by
 obtain⟨n0,n1,n2⟩:=x;dsimp only;cases n1 with
 | true=>
   go_enter Tryz.func175,Tryz.ntmps175
   go_wp2_with fail
   go_ret
   exact⟨by simp,(Below.refl _ _).alloc (Nat.le_refl _) _⟩
 | false=>
   go_enter Tryz.func175,Tryz.ntmps175
   go_wp2_with fail
   go_ret
   exact⟨by simp,(Below.refl _ _).alloc (Nat.le_refl _) _⟩
theorem containsO_any (l:List Ned) (v:Value) (lo:Nat) (w:World) (hv:ListOk Enc.ned w lo w.heap.size v l) (hn:l.length≤1000000000):
 Calls Tryz.prog 174 #[v,.func (.func 175) #[] #[]] w fun e w'=>e=.returned (.bool (l.any fun x=>x.num && x.text))∧Below w.heap.size w w':=by
 have HI:=hid (indexO_any l v (fun x=>x.num && x.text) lo w hv hn (hid fun x _ W _=>ofC_any x W));have HE:=hid (idxN_any l fun x=>x.num && x.text);clear hv;generalize idxOfN l (fun x=>x.num && x.text)=I at *;generalize l.any (fun x=>x.num && x.text)=X at*
 go_enter Tryz.func174,Tryz.ntmps174
 go_wp2_with fail
 refine HI.out.mono ?_;clear HI;rintro e w1 ⟨rfl,hb⟩;have HB:=hid hb;clear hb
 go_wp2_with fail
 go_ret
 exact⟨by rw[←HE.out];rfl,HB.out⟩
section
variable {β:Type}
def away (v:Value) (s e:Nat):Prop:=∀ r,v.ownBlock=some r→r < s∨e≤r
end
end Go.Proofs.YtagfnpdoooachaaGreatDoor
