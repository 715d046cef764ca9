/- msg.cases and msg.check: the walks. -/
import Derived.Test.YtpfmmbbggcghiaaGreatDoorTold
set_option linter.unusedSimpArgs false
set_option linter.unusedVariables false
set_option maxHeartbeats 6400000
set_option maxRecDepth 100000
namespace Go.Proofs.YtpfmmbbggcghiaaGreatDoor
open Go.RowKit
open Lib (hid)
def otherB:ByteArray:=⟨#[111,116,104,101,114]⟩
section
variable {β:Type} (chk:List β→Bool→Int)
def casesM (kind:Int) (mark:Bool):List (ByteArray×List β)→List ByteArray→Int
 | [],seen=>if seen.any (eqs · otherB)then 0 else 2
 | c::r,seen=>if keyM kind c.1=false then 3 else if seen.any (eqs · c.1)=true then 5 else if chk c.2 (mark || kind == 4)≠0 then chk c.2 (mark || kind == 4)else casesM kind mark r (seen++[c.1])
def checkM (mark:Bool):Option Int→List (NdF β)→Int
 | _,[]=>0
 | last,x::r=>if fineM x.kind x.text last mark=false then 3 else if x.kind=4∧(x.off < 0∨9 < x.off)then 1 else if hasCases x.kind=true∧casesM chk x.kind mark x.cases []≠0 then casesM chk x.kind mark x.cases []else checkM mark (some x.kind) r
theorem casesM_at {kind:Int} {mark:Bool} {l:List (ByteArray×List β)} {j:Nat} {seen:List ByteArray} (h:j < l.length):casesM chk kind mark (l.drop j) seen=
 if keyM kind l[j].1=false then 3 else if seen.any (eqs · l[j].1)=true then 5 else if chk l[j].2 (mark || kind == 4)≠0 then chk l[j].2 (mark || kind == 4)else casesM chk kind mark (l.drop (j+1)) (seen++[l[j].1]):=by
 rw[List.drop_eq_getElem_cons h];rfl
end
theorem info_strM:(Tryz.prog.info? 9).map (fun i=>(i.zero,i.size,i.bytes))=some (some (.string ByteArray.empty),1,16):=by kernel_rfl
theorem one_newsM (w:World) (X:ByteArray) (t:TypeId):∀ q u,([Value.string X]:List Value)[q]? =some u→(w.alloc (.cells #[.string X] t)).cell? ⟨w.heap.size,0+q,none⟩=some u:=fun q u hq=>by
 rw[Nat.zero_add,(Blk.new w t #[.string X]).cell q];simpa using hq
theorem own_blkM {w:World} {base:Nat} {e t:TypeId} {size:Nat} {v:Value} {m:Nat} {xs:List Value} {g:Nat} {cs:Array Value} (h:w.ownsRow base e size v m xs) (k:Blk w g t cs) (hne:e≠t):v.ownBlock≠some g:=by
 intro hg;obtain⟨_,⟨h2,_⟩|⟨g',cap,cur,hv,hb,hh,_⟩⟩:=h
 ·rw[h2]at hg;cases hg
 ·rw[hv]at hg;injection hg with hg;subst hg;unfold Blk at k;rw[hh]at k;injection k with k;injection k with _ k;exact hne k
theorem cases_walk {β:Type} {E:Enc β} (hE:E.Laws) (chk:List β→Bool→Int) (x:NdF β) (V:Value) (mark:Bool) (lo:Nat) (w:World) (hV:ListOk (Enc.cas E) w lo w.heap.size V x.cases) (hl:x.cases.length≤10000000) (hk:∀ c∈x.cases,c.1.size≤1000000000) (hv:MV w)
 (IH:Hid (∀ c∈x.cases,∀ mk W U,Below w.heap.size w W→ListOk E W lo W.heap.size U c.2→Calls Tryz.prog 78 #[U,.bool mk] W fun e w'=>e=.returned (errV (chk c.2 mk))∧Below W.heap.size W w')):
 Calls Tryz.prog 125 #[.agg #[.int .i64 x.kind,.string x.text,.int .i64 x.off,V],.bool mark] w fun e w'=>e=.returned (errV (casesM chk x.kind mark x.cases []))∧Below w.heap.size w w':=by
 obtain⟨VA,Vc,rfl,_⟩:=hV.form;obtain⟨kind,text,off,cs⟩:=x;dsimp only at hV hl hk IH ⊢;obtain⟨W1,eW1⟩:∃ W1,W1=w.alloc (.cells #[.int .i64 kind,.string text,.int .i64 off,.slice VA cs.length Vc] 126):=⟨_,rfl⟩;have hb1:Below w.heap.size w W1:=by rw[eW1];exact(Below.refl _ _).alloc (Nat.le_refl _) _
 have M1:Hid (Blk W1 w.heap.size 126 #[.int .i64 kind,.string text,.int .i64 off,.slice VA cs.length Vc]):=hid (by rw[eW1];exact Blk.new _ _ _)
 have HB1:=hid hb1;have HW1:=hid eW1;have k3:W1.cell? ⟨w.heap.size,3,none⟩=some (.slice VA cs.length Vc):=(M1.out.cell 3).trans rfl;have HVc:Hid (∀ W,Below w.heap.size w W→ListOk (Enc.cas E) W lo w.heap.size (.slice VA cs.length Vc) cs):=hid fun W hW=>hV.below (Enc.cas_laws hE) hW;have HMV:Hid (∀ W,Below w.heap.size w W→MV W):=hid fun W hW=>hv.below hW;have HKs:=hid hk;have hs1:w.heap.size+1≤W1.heap.size:=by have:=M1.out.lt;omega
 clear hV hk hv eW1 hb1
 go_enter Tryz.func125,Tryz.ntmps125
 go_upto_region 1 with fail
 rw[←HW1.out];clear HW1
 go_wp2_with fail
 go_loopw [5,7,8,12] (fun o _ _ i wr=>∃ j:Nat,j≤cs.length∧i=.int .i64 (j:Int)∧wr.ownsRow W1.heap.size 9 1 o ((cs.take j).map (·.1)).length (((cs.take j).map (·.1)).map Value.string)∧Hid (casesM chk kind mark cs []=casesM chk kind mark (cs.drop j) ((cs.take j).map (·.1)))∧Below W1.heap.size W1 wr) (fun _ _ _ i _=>cs.length - (intOf i).toNat)
 case atStart=>exact⟨0,Nat.zero_le _,rfl,own_nil,hid rfl,Below.refl _ _⟩
 case round=>
  obtain⟨j,hj,rfl,hown,HNo,hb⟩:=hrel;have HO:=hid hown;have HB:=hid hb;have hbs:=hb.size;have htl:((cs.take j).map (·.1)).length=j:=by rw[List.length_map,List.length_take];omega
  obtain⟨OA,Oc,rfl,_⟩:=own_slice hown;have Mr:=hid (M1.out.below hb M1.out.lt);have HBw:=hid (HB1.out.trans (hb.mono HB1.out.size))
  by_cases hlt:j < cs.length
  ·have i1:(0:Int)≤(j:Int):=Int.natCast_nonneg j;have i2:(j:Int) < (cs.length:Int):=by omega
   have hmem:cs[j]∈cs:=List.getElem_mem hlt;have HTk:Hid ((cs.take (j+1)).map (·.1)=(cs.take j).map (·.1)++[cs[j].1]):=hid (by rw[List.take_succ_eq_append_getElem hlt,List.map_append];rfl)
   have HAt:Hid (casesM chk kind mark cs []=if keyM kind cs[j].1=false then 3 else if((cs.take j).map (·.1)).any (eqs · cs[j].1)=true then 5 else if chk cs[j].2 (mark || kind == 4)≠0 then chk cs[j].2 (mark || kind == 4)else casesM chk kind mark (cs.drop (j+1)) ((cs.take j).map (·.1)++[cs[j].1])):=hid (by rw[HNo.out,casesM_at chk hlt])
   obtain⟨b0,o0,U,rfl,_,_,x0,x1,hU⟩:=(HVc.out _ HBw.out).casAt j hlt;have hks:=HKs.out _ hmem;obtain⟨UA,Uc,rfl,_⟩:=hU.form;have HCk:Hid (∀ mk W,Below w.heap.size w W→Calls Tryz.prog 78 #[.slice UA cs[j].2.length Uc,.bool mk] W fun e w'=>e=.returned (errV (chk cs[j].2 mk))∧Below W.heap.size W w'):=hid fun mk W hW=>
    IH.out _ hmem mk W _ hW ((hU.keep hE fun p h1 h2=>(hW.cell h2).trans (HBw.out.cell h2).symm).mono hE (Nat.le_refl _) hW.size)
   clear hU hmem HNo hb hown;rw[htl];rw[htl]at HO;generalize cs[j]=cc at *;obtain⟨ck,cb⟩:=cc;dsimp only at x0 x1 hks HCk HTk HAt;obtain⟨S,hS⟩:∃ S,S=(cs.take j).map (·.1):=⟨_,rfl⟩;rw[←hS]at HO HTk HAt htl;have HSq:Hid (S.length=j):=hid htl;clear hS htl;obtain⟨W2,eW2⟩:∃ W2,W2=wr.alloc (.cells #[.string ck,.slice UA cb.length Uc] 189):=⟨_,rfl⟩;have hb2:Below wr.heap.size wr W2:=by rw[eW2];exact(Below.refl _ _).alloc (Nat.le_refl _) _
   have M2:Hid (Blk W2 wr.heap.size 189 #[.string ck,.slice UA cb.length Uc]):=hid (by rw[eW2];exact Blk.new _ _ _)
   have Mx:=hid (Mr.out.below hb2 Mr.out.lt);have y0:W2.cell? ⟨wr.heap.size,0,none⟩=some (.string ck):=(M2.out.cell 0).trans rfl;have a0:=(Mx.out.cell 0).trans (show _=some (.int .i64 kind)from rfl);have a1:=(Mx.out.cell 1).trans (show _=some (.string text)from rfl);have a2:=(Mx.out.cell 2).trans (show _=some (.int .i64 off)from rfl);have a3:=(Mx.out.cell 3).trans (show _=some (.slice (some ⟨b0,o0,none⟩) cs.length Vc)from rfl);have HKy:=hid (key_any kind off text ck (some ⟨b0,o0,none⟩) cs.length Vc W2 hks (HMV.out _ (HBw.out.trans (hb2.mono HBw.out.size))));have HB2:=hid hb2;have HW2:=hid eW2;clear eW2 hb2
   go_upto_region 5 with fail
   rw[←HW2.out];clear HW2
   go_wp2_with fail
   refine HKy.out.mono ?_;clear HKy;rintro e w3 ⟨rfl,hb3⟩;have HB3:=hid (HB2.out.trans (hb3.mono HB2.out.size));have M3:=hid (M2.out.below hb3 M2.out.lt);have Mx3:=hid (Mx.out.below hb3 Mx.out.lt);have z0:w3.cell? ⟨wr.heap.size,0,none⟩=some (.string ck):=(M3.out.cell 0).trans rfl;have HB3w:=hid (HBw.out.trans (HB3.out.mono HBw.out.size));have HB31:=hid (HB.out.trans (HB3.out.mono hbs));clear hb3 a0 a1 a2 a3 y0 M2 Mx HB2;generalize keyM kind ck=KY at *;cases KY with
   | false=>
     have HE:Hid (casesM chk kind mark cs []=3):=hid (by rw[HAt.out,if_pos rfl])
     clear HAt HCk
     go_wp2_with fail
     go_ret
     exact⟨by rw[HE.out];rfl,HB3w.out⟩
   | true=>
     have HO3:=hid (own_below HO.out HB3.out (Nat.le_refl _));have HCt:=hid (containsS_any S (.slice OA j Oc) ck 0 w3.heap.size w3 (by
      have h:=HO3.out;have e:j=S.length:=HSq.out.symm;rw[e]at h ⊢;exact ListOk.strs_of_own h (Nat.zero_le _) (Nat.le_refl _)) (by have:=HSq.out;omega))
     have HA2:Hid (casesM chk kind mark cs []=if S.any (eqs · ck)=true then 5 else if chk cb (mark || kind == 4)≠0 then chk cb (mark || kind == 4)else casesM chk kind mark (cs.drop (j+1)) (S++[ck])):=hid (by rw[HAt.out,if_neg (by decide)])
     generalize S.any (eqs · ck)=SN at *;clear HAt
     go_wp2_with fail
     refine HCt.out.mono ?_;clear HCt;rintro e w4 ⟨rfl,rfl⟩;cases SN with
     | true=>
       have HE:Hid (casesM chk kind mark cs []=5):=hid (by rw[HA2.out,if_pos rfl])
       clear HA2 HCk
       go_wp2_with fail
       go_ret
       exact⟨by rw[HE.out];rfl,HB3w.out⟩
     | false=>
       have HA3:Hid (casesM chk kind mark cs []=if chk cb (mark || kind == 4)≠0 then chk cb (mark || kind == 4)else casesM chk kind mark (cs.drop (j+1)) (S++[ck])):=hid (by rw[HA2.out,if_neg (by decide)])
       clear HA2;have hsz3:=HB31.out.size
       go_wp2_with (at_builtin;refine wpList_append_any rfl _ _ 42 rfl W1.heap.size 9 Tryz.underlying42 info_strM rfl (by decide) (S.map Value.string) rfl (HO3.out.alloc _) [.string ck] rfl rfl (.inr ⟨_,_,rfl,one_newsM _ _ _⟩) (by simp[Value.oneCell']) (by unfold maxLen;omega) (by omega) (by simp;omega) ?_)
       intro v5 w5 hown5 hgrow5 _;obtain⟨A5,c5,rfl,_⟩:=own_slice hown5;have hO3l:∀ r,(Value.slice OA j Oc).ownBlock=some r→W1.heap.size≤r:=fun r hr=>(own_lt HO3.out hr).1;have HB5:Hid (Below W1.heap.size W1 w5):=hid ((HB31.out.alloc hsz3 _).grown hgrow5 (by simp;omega) hO3l)
       have M5:Hid (Blk w5 wr.heap.size 189 #[.string ck,.slice UA cb.length Uc]):=hid ((hgrow5.block _ (by have:=M3.out.lt;simp;omega) (fun e=>own_blkM HO3.out M3.out (by decide) e.symm)).trans (M3.out.alloc _))
       have Mx5:Hid (Blk w5 w.heap.size 126 #[.int .i64 kind,.string text,.int .i64 off,.slice (some ⟨b0,o0,none⟩) cs.length Vc]):=hid ((hgrow5.block _ (by have:=Mx3.out.lt;simp;omega) (fun e=>by have:=hO3l _ e.symm;omega)).trans (Mx3.out.alloc _))
       have HO5:Hid (w5.ownsRow W1.heap.size 9 1 (.slice A5 (j+1) c5) (S++[ck]).length ((S++[ck]).map Value.string)):=hid (by
        rw[List.length_append,HSq.out,List.map_append];exact hown5)
       have HB5w:=hid (HB1.out.trans (HB5.out.mono HB1.out.size));have u1:w5.cell? ⟨wr.heap.size,1,none⟩=some (.slice UA cb.length Uc):=(M5.out.cell 1).trans rfl;have c0:=(Mx5.out.cell 0).trans (show _=some (.int .i64 kind)from rfl);have HC5:=hid (HCk.out (mark || kind == 4) w5 HB5w.out);have hsz5:=HB5.out.size;generalize chk cb (mark || kind == 4)=e0 at *;clear hown5 hgrow5 HO3 HCk z0;obtain⟨K4,hK4⟩:∃ K4,K4=(kind == 4):=⟨_,rfl⟩;have hK4':(kind == 4)=K4:=hK4.symm;rw[hK4']at HC5;clear hK4;cases mark with
       | true=>
         rw[Bool.true_or]at HC5
         go_wp2_with fail
         refine HC5.out.mono ?_;clear HC5;rintro e w6 ⟨rfl,hb6⟩;have HB6:=hid (HB5.out.trans (hb6.mono hsz5));have HB6w:=hid (HB1.out.trans (HB6.out.mono HB1.out.size));have HO6:=hid (own_below HO5.out hb6 (Nat.le_refl _));clear hb6
         by_cases he:e0=0
         ·subst he;have HN:Hid (casesM chk kind true cs []=casesM chk kind true (cs.drop (j+1)) (S++[ck])):=hid (by rw[HA3.out,if_neg (by simp)])
          rw[errV_zero];clear HA3
          go_wp2_with fail
          go_roundw
          case rel=>exact⟨j+1,by omega,by go_num,by rw[HTk.out];exact HO6.out,by rw[HTk.out];exact HN,HB6.out⟩
          case measure=>simp[intOf];omega
         ·have HN:Hid (casesM chk kind true cs []=e0):=hid (by rw[HA3.out,if_pos he])
          rw[errV_ne he];clear HA3
          go_wp2_with fail
          go_ret
          exact⟨by rw[HN.out,errV_ne he];rfl,HB6w.out⟩
       | false=>
         rw[Bool.false_or]at HC5;cases K4 with
         | true=>
           go_wp2_with fail
           refine HC5.out.mono ?_;clear HC5;rintro e w6 ⟨rfl,hb6⟩;have HB6:=hid (HB5.out.trans (hb6.mono hsz5));have HB6w:=hid (HB1.out.trans (HB6.out.mono HB1.out.size));have HO6:=hid (own_below HO5.out hb6 (Nat.le_refl _));clear hb6
           by_cases he:e0=0
           ·subst he;have HN:Hid (casesM chk kind false cs []=casesM chk kind false (cs.drop (j+1)) (S++[ck])):=hid (by rw[HA3.out,if_neg (by simp)])
            rw[errV_zero];clear HA3
            go_wp2_with fail
            go_roundw
            case rel=>exact⟨j+1,by omega,by go_num,by rw[HTk.out];exact HO6.out,by rw[HTk.out];exact HN,HB6.out⟩
            case measure=>simp[intOf];omega
           ·have HN:Hid (casesM chk kind false cs []=e0):=hid (by rw[HA3.out,if_pos he])
            rw[errV_ne he];clear HA3
            go_wp2_with fail
            go_ret
            exact⟨by rw[HN.out,errV_ne he];rfl,HB6w.out⟩
         | false=>
           go_wp2_with fail
           refine HC5.out.mono ?_;clear HC5;rintro e w6 ⟨rfl,hb6⟩;have HB6:=hid (HB5.out.trans (hb6.mono hsz5));have HB6w:=hid (HB1.out.trans (HB6.out.mono HB1.out.size));have HO6:=hid (own_below HO5.out hb6 (Nat.le_refl _));clear hb6
           by_cases he:e0=0
           ·subst he;have HN:Hid (casesM chk kind false cs []=casesM chk kind false (cs.drop (j+1)) (S++[ck])):=hid (by rw[HA3.out,if_neg (by simp)])
            rw[errV_zero];clear HA3
            go_wp2_with fail
            go_roundw
            case rel=>exact⟨j+1,by omega,by go_num,by rw[HTk.out];exact HO6.out,by rw[HTk.out];exact HN,HB6.out⟩
            case measure=>simp[intOf];omega
           ·have HN:Hid (casesM chk kind false cs []=e0):=hid (by rw[HA3.out,if_pos he])
            rw[errV_ne he];clear HA3
            go_wp2_with fail
            go_ret
            exact⟨by rw[HN.out,errV_ne he];rfl,HB6w.out⟩
  ·obtain rfl:j=cs.length:=by omega
   have HCt:=hid (containsS_any ((cs.take cs.length).map (·.1)) (.slice OA ((cs.take cs.length).map (·.1)).length Oc) otherB 0 wr.heap.size wr (ListOk.strs_of_own HO.out (Nat.zero_le _) (Nat.le_refl _)) (by rw[htl];omega))
   have HN:Hid (casesM chk kind mark cs []=if((cs.take cs.length).map (·.1)).any (eqs · otherB)=true then 0 else 2):=hid (by rw[HNo.out,List.drop_length];rfl)
   rw[htl]at HCt ⊢;unfold otherB at *;generalize ((cs.take cs.length).map (·.1)).any (eqs · (⟨#[111,116,104,101,114]⟩:ByteArray))=X at *;clear hb HNo hown HO
   go_wp2_with fail
   refine HCt.out.mono ?_;clear HCt;rintro e w4 ⟨rfl,rfl⟩;cases X with
   | true=>
     have HE:Hid (casesM chk kind mark cs []=0):=hid (by rw[HN.out,if_pos rfl])
     clear HN
     go_wp2_with fail
     go_ret
     exact⟨by rw[HE.out];rfl,HBw.out⟩
   | false=>
     have HE:Hid (casesM chk kind mark cs []=2):=hid (by rw[HN.out,if_neg (by decide)])
     clear HN
     go_wp2_with fail
     go_ret
     exact⟨by rw[HE.out];rfl,HBw.out⟩
section
variable {β:Type} (chk:List β→Bool→Int)
theorem checkM_at {mark:Bool} {l:List (NdF β)} {j:Nat} {last:Option Int} (h:j < l.length):checkM chk mark last (l.drop j)=
 if fineM l[j].kind l[j].text last mark=false then 3 else if l[j].kind=4∧(l[j].off < 0∨9 < l[j].off)then 1 else if hasCases l[j].kind=true∧casesM chk l[j].kind mark l[j].cases []≠0 then casesM chk l[j].kind mark l[j].cases []else checkM chk mark (some l[j].kind) (l.drop (j+1)):=by
 rw[List.drop_eq_getElem_cons h];rfl
def lastK (l:List (NdF β)):Option Int:=l.getLast?.map (·.kind)
theorem lastK_succ {l:List (NdF β)} {j:Nat} (h:j < l.length):lastK (l.take (j+1))=some l[j].kind:=by
 unfold lastK;rw[List.take_succ_eq_append_getElem h,List.getLast?_append];simp
end
theorem check_walk {β:Type} {E:Enc β} (hE:E.Laws) (chk:List β→Bool→Int) (m:List (NdF β)) (v:Value) (mark:Bool) (lo:Nat) (w:World) (hv:ListOk (Enc.nodeF E) w lo w.heap.size v m) (hl:m.length≤10000000)
 (IH:Hid (∀ x∈m,∀ W U,Below w.heap.size w W→ListOk (Enc.cas E) W lo W.heap.size U x.cases→Calls Tryz.prog 125 #[.agg #[.int .i64 x.kind,.string x.text,.int .i64 x.off,U],.bool mark] W fun e w'=>e=.returned (errV (casesM chk x.kind mark x.cases []))∧Below W.heap.size W w')):
 Calls Tryz.prog 78 #[v,.bool mark] w fun e w'=>e=.returned (errV (checkM chk mark none m))∧Below w.heap.size w w':=by
 obtain⟨A,c,rfl,hcap⟩:=hv.form;have HV:Hid (∀ W,Below w.heap.size w W→ListOk (Enc.nodeF E) W lo w.heap.size (.slice A m.length c) m):=hid fun W hW=>hv.below (Enc.nodeF_laws hE) hW;clear hv
 go_enter Tryz.func78,Tryz.ntmps78
 go_wp2_with fail
 go_loopw [5,6,7,10] (fun _ _ _ i wr=>∃ j:Nat,j≤m.length∧i=.int .i64 (j:Int)∧Hid (checkM chk mark none m=checkM chk mark (lastK (m.take j)) (m.drop j))∧Below w.heap.size w wr) (fun _ _ _ i _=>m.length - (intOf i).toNat)
 case atStart=>exact⟨0,Nat.zero_le _,rfl,hid rfl,Below.refl _ _⟩
 case round=>
  obtain⟨j,hj,rfl,HNo,hb⟩:=hrel;have HB:=hid hb;have hbs:=hb.size
  by_cases hlt:j < m.length
  ·have i1:(0:Int)≤(j:Int):=Int.natCast_nonneg j;have i2:(j:Int) < (m.length:Int):=by omega
   have i3:(j:Int)≤(c:Int):=by omega
   have hmem:m[j]∈m:=List.getElem_mem hlt;have HLs:=hid (lastK_succ hlt);have HAt:Hid (checkM chk mark none m=if fineM m[j].kind m[j].text (lastK (m.take j)) mark=false then 3 else if m[j].kind=4∧(m[j].off < 0∨9 < m[j].off)then 1 else if hasCases m[j].kind=true∧casesM chk m[j].kind mark m[j].cases []≠0 then casesM chk m[j].kind mark m[j].cases []else checkM chk mark (some m[j].kind) (m.drop (j+1))):=hid (by rw[HNo.out,checkM_at chk hlt])
   have htk:(m.take j).length=j:=by rw[List.length_take];omega
   obtain⟨b0,o0,V,rfl,_,_,x0,x1,x2,x3,hV⟩:=(HV.out _ hb).nodeAt j hlt;obtain⟨VA,Vc,rfl,_⟩:=hV.form;have HFi:Hid (∀ W,Below w.heap.size w W→Calls Tryz.prog 124 #[.agg #[.int .i64 m[j].kind,.string m[j].text,.int .i64 m[j].off,.slice VA m[j].cases.length Vc],.slice (some ⟨b0,o0,none⟩) j c,.bool mark] W fun e w'=>e=.returned (.bool (fineM m[j].kind m[j].text (lastK (m.take j)) mark))∧Below W.heap.size W w'):=hid fun W hW=>by
    have ht:=((HV.out W hW).take j (by omega)).mono (Enc.nodeF_laws hE) (Nat.le_refl _) hW.size
    exact fineM_any (E:=E) m[j].kind m[j].off m[j].text VA m[j].cases.length Vc (m.take j) (.slice (some ⟨b0,o0,none⟩) j c) mark lo W ht hE (by omega)
   have HCa:Hid (∀ W,Below w.heap.size w W→Calls Tryz.prog 125 #[.agg #[.int .i64 m[j].kind,.string m[j].text,.int .i64 m[j].off,.slice VA m[j].cases.length Vc],.bool mark] W fun e w'=>e=.returned (errV (casesM chk m[j].kind mark m[j].cases []))∧Below W.heap.size W w'):=hid fun W hW=>
    IH.out _ hmem W _ hW ((hV.keep (Enc.cas_laws hE) fun p h1 h2=>(hW.cell h2).trans (HB.out.cell h2).symm).mono (Enc.cas_laws hE) (Nat.le_refl _) hW.size)
   clear hV hmem HNo hb htk;generalize m[j]=x at *;obtain⟨y0,y1,y2,y3⟩:=x;dsimp only at x0 x1 x2 x3 HAt HFi HCa HLs;obtain⟨W2,eW2⟩:∃ W2,W2=wr.alloc (.cells #[.int .i64 y0,.string y1,.int .i64 y2,.slice VA y3.length Vc] 126):=⟨_,rfl⟩;have hb2:Below wr.heap.size wr W2:=by rw[eW2];exact(Below.refl _ _).alloc (Nat.le_refl _) _
   have M2:Hid (Blk W2 wr.heap.size 126 #[.int .i64 y0,.string y1,.int .i64 y2,.slice VA y3.length Vc]):=hid (by rw[eW2];exact Blk.new _ _ _)
   have a0:W2.drew.cell? ⟨wr.heap.size,0,none⟩=some (.int .i64 y0):=(M2.out.cell 0).trans rfl;have a1:W2.drew.cell? ⟨wr.heap.size,1,none⟩=some (.string y1):=(M2.out.cell 1).trans rfl;have a2:W2.drew.cell? ⟨wr.heap.size,2,none⟩=some (.int .i64 y2):=(M2.out.cell 2).trans rfl;have a3:W2.drew.cell? ⟨wr.heap.size,3,none⟩=some (.slice VA y3.length Vc):=(M2.out.cell 3).trans rfl;have HB2:=hid (HB.out.trans (hb2.mono hbs));have HFd:=hid (HFi.out W2.drew (below_drewN HB2.out 1));have HW2:=hid eW2;generalize fineM y0 y1 (lastK (m.take j)) mark=F0 at *;generalize casesM chk y0 mark y3 []=e0 at *;clear eW2 hb2 HFi
   go_upto_region 4 with fail
   rw[←HW2.out];clear HW2
   go_cut [21]from 22 (fun b wx=>b=.bool (!F0)∧Below w.heap.size w wx∧Blk wx wr.heap.size 126 #[.int .i64 y0,.string y1,.int .i64 y2,.slice VA y3.length Vc])
   case first=>
    go_region_with ((go_at_call 124;with_reducible refine(HFd.out).mono ?_);rintro e wx ⟨rfl,hbx⟩)
    all_goals
     go_wp2_with fail
     go_meet
     case rel=>exact⟨rfl,(below_drewN HB2.out 1).trans (hbx.mono HB2.out.size),M2.out.drew.below hbx M2.out.drew.lt⟩
   case rest=>
    obtain⟨rfl,hbc,hmc⟩:=hcut;have HBc:=hid hbc;have c0:=(hmc.cell 0).trans (show _=some (.int .i64 y0)from rfl);have c1:=(hmc.cell 1).trans (show _=some (.string y1)from rfl);have c2:=(hmc.cell 2).trans (show _=some (.int .i64 y2)from rfl);have c3:=(hmc.cell 3).trans (show _=some (.slice VA y3.length Vc)from rfl);have HC:=hid (HCa.out wc hbc);clear hbc hmc HCa HFd M2 HB2 a0 a1 a2 a3 x0 x1 x2 x3;cases F0 with
    | false=>
      have HE:Hid (checkM chk mark none m=3):=hid (by rw[HAt.out,if_pos rfl])
      clear HAt HC HLs
      go_wp2_with fail
      go_ret
      exact⟨by rw[HE.out];rfl,HBc.out⟩
    | true=>
      have HA2:Hid (checkM chk mark none m=if y0=4∧(y2 < 0∨9 < y2)then 1 else if hasCases y0=true∧e0≠0 then e0 else checkM chk mark (some y0) (m.drop (j+1))):=hid (by rw[HAt.out,if_neg (by decide)])
      clear HAt
      by_cases h4:y0=4
      ·subst h4
       by_cases h0:y2 < 0
       ·have HE:Hid (checkM chk mark none m=1):=hid (by rw[HA2.out,if_pos ⟨rfl,.inl h0⟩])
        clear HA2 HC HLs
        go_wp2_with fail
        go_ret
        exact⟨by rw[HE.out];rfl,HBc.out⟩
       ·by_cases h9:9 < y2
        ·have HE:Hid (checkM chk mark none m=1):=hid (by rw[HA2.out,if_pos ⟨rfl,.inr h9⟩])
         clear HA2 HC HLs
         go_wp2_with fail
         go_ret
         exact⟨by rw[HE.out];rfl,HBc.out⟩
        ·have HA3:Hid (checkM chk mark none m=if e0≠0 then e0 else checkM chk mark (some 4) (m.drop (j+1))):=hid (by
          rw[HA2.out,if_neg (fun h=>by rcases h.2 with h|h;exact h0 h;exact h9 h)]
          simp[hasCases])
         clear HA2
         go_wp2_with fail
         refine HC.out.mono ?_;clear HC;rintro e w5 ⟨rfl,hb5⟩;have HB5:=hid (HBc.out.trans (hb5.mono HBc.out.size));clear hb5
         by_cases he:e0=0
         ·subst he;have HN:Hid (checkM chk mark none m=checkM chk mark (lastK (m.take (j+1))) (m.drop (j+1))):=hid (by rw[HA3.out,if_neg (by simp),HLs.out])
          rw[errV_zero];clear HA3 HLs
          go_wp2_with fail
          go_roundw
          case rel=>exact⟨j+1,by omega,by go_num,HN,HB5.out⟩
          case measure=>simp[intOf];omega
         ·have HE:Hid (checkM chk mark none m=e0):=hid (by rw[HA3.out,if_pos he])
          rw[errV_ne he];clear HA3 HLs
          go_wp2_with fail
          go_ret
          exact⟨by rw[HE.out,errV_ne he];rfl,HB5.out⟩
      ·have q4:(y0 == 4)=false:=by rw[beq_eq_false_iff_ne];exact h4
       have HA2':Hid (checkM chk mark none m=if hasCases y0=true∧e0≠0 then e0 else checkM chk mark (some y0) (m.drop (j+1))):=hid (by rw[HA2.out,if_neg (fun h=>h4 h.1)])
       clear HA2
       by_cases h5:y0=5
       ·subst h5;have HA3:Hid (checkM chk mark none m=if e0≠0 then e0 else checkM chk mark (some 5) (m.drop (j+1))):=hid (by rw[HA2'.out];simp[hasCases])
        clear HA2'
        go_wp2_with fail
        refine HC.out.mono ?_;clear HC;rintro e w5 ⟨rfl,hb5⟩;have HB5:=hid (HBc.out.trans (hb5.mono HBc.out.size));clear hb5
        by_cases he:e0=0
        ·subst he;have HN:Hid (checkM chk mark none m=checkM chk mark (lastK (m.take (j+1))) (m.drop (j+1))):=hid (by rw[HA3.out,if_neg (by simp),HLs.out])
         rw[errV_zero];clear HA3 HLs
         go_wp2_with fail
         go_roundw
         case rel=>exact⟨j+1,by omega,by go_num,HN,HB5.out⟩
         case measure=>simp[intOf];omega
        ·have HE:Hid (checkM chk mark none m=e0):=hid (by rw[HA3.out,if_pos he])
         rw[errV_ne he];clear HA3 HLs
         go_wp2_with fail
         go_ret
         exact⟨by rw[HE.out,errV_ne he];rfl,HB5.out⟩
       ·have q5:(y0 == 5)=false:=by rw[beq_eq_false_iff_ne];exact h5
        have HN:Hid (checkM chk mark none m=checkM chk mark (lastK (m.take (j+1))) (m.drop (j+1))):=hid (by
         rw[HA2'.out,if_neg (fun h=>by unfold hasCases at h;rw[q4,q5]at h;exact absurd h.1 (by decide)),HLs.out])
        clear HA2' HC HLs h4 h5
        go_wp2_with fail
        go_roundw
        case rel=>exact⟨j+1,by omega,by go_num,HN,HBc.out⟩
        case measure=>simp[intOf];omega
  ·obtain rfl:j=m.length:=by omega
   have HE:Hid (checkM chk mark none m=0):=hid (by rw[HNo.out,List.drop_length];cases lastK (m.take m.length) <;> rfl)
   clear hb HNo
   go_wp2_with fail
   go_ret
   exact⟨by rw[HE.out];rfl,HB.out⟩
def checkN:(n:Nat)→List (Nd n)→Bool→Int
 | 0,_,_=>0
 | n+1,m,mark=>checkM (checkN n) mark none (m:List (NdF (Nd n)))
theorem mcheck_any:(n:Nat)→(m:List (Nd n))→(v:Value)→(mark:Bool)→(lo:Nat)→(w:World)→MsgIn n m→ListOk (Enc.node n) w lo w.heap.size v m→MV w→
 Calls Tryz.prog 78 #[v,.bool mark] w fun e w'=>e=.returned (errV (checkN n m mark))∧Below w.heap.size w w'
 | 0,m,v,mark,lo,w,hm,hv,_=>by
   obtain rfl:=empty_list m;obtain⟨A,c,rfl,_⟩:=hv.form;exact check_walk (E:=Enc.none_) Enc.none_laws (fun _ _=>0) ([]:List (NdF Empty)) (.slice A 0 c) mark lo w (ListOk.nil c A) (Nat.zero_le _) (hid fun x hx=>by cases hx)
 | n+1,m,v,mark,lo,w,hm,hv,hV=>by
   refine check_walk (E:=Enc.node n) (Enc.node_laws n) (checkN n) (m:List (NdF (Nd n))) v mark lo w hv hm.len (hid fun x hx W U hW hU=> ?_);have h1:smallF (SmallN n) x:=hm.each x hx;exact cases_walk (E:=Enc.node n) (Enc.node_laws n) (checkN n) x U mark lo W hU h1.2.1 (fun c hc=>(h1.2.2 c hc).1) (hV.below hW)
    (hid fun c hc mk W' U' hW' hU'=>mcheck_any n c.2 U' mk lo W' (hm.body hx hc) hU' ((hV.below hW).below hW'))
def checkAll (n:Nat) (m:List (Nd n)):Int:=if(sizeN n m 0).2=true then 4 else checkN n m false
theorem Check_any (n:Nat) (m:List (Nd n)) (v:Value) (lo:Nat) (w:World) (hm:MsgIn n m) (hv:ListOk (Enc.node n) w lo w.heap.size v m) (hV:MV w):
 Calls Tryz.prog 39 #[v] w fun e w'=>e=.returned (errV (checkAll n m))∧Below w.heap.size w w':=by
 have HS:=hid (size_any n m 0 v lo w (by decide) hm hv)
 have HC:Hid (∀ W,Below w.heap.size w W→Calls Tryz.prog 78 #[v,.bool false] W fun e w'=>e=.returned (errV (checkN n m false))∧Below W.heap.size W w'):=hid fun W hW=>
  mcheck_any n m v false lo W hm ((hv.below (Enc.node_laws n) hW).mono (Enc.node_laws n) (Nat.le_refl _) hW.size) (hV.below hW)
 have HE:Hid (checkAll n m=if(sizeN n m 0).2=true then 4 else checkN n m false):=hid rfl
 generalize sizeN n m 0=z at *;obtain⟨z1,z2⟩:=z;dsimp only at HS HE;generalize checkN n m false=k at *;clear hv hV hm
 go_enter Tryz.func39,Tryz.ntmps39
 go_wp2_with fail
 refine HS.out.mono ?_;clear HS;rintro e w1 ⟨rfl,hb1⟩;have HB1:=hid hb1;have HC1:=hid (HC.out w1 hb1);clear hb1 HC;cases z2 with
 | true=>
   have HE2:Hid (checkAll n m=4):=hid (by rw[HE.out,if_pos rfl])
   clear HE HC1
   go_wp2_with fail
   go_ret
   exact⟨by rw[HE2.out];rfl,HB1.out⟩
 | false=>
   have HE2:Hid (checkAll n m=k):=hid (by rw[HE.out,if_neg (by decide)])
   clear HE
   go_wp2_with fail
   refine HC1.out.mono ?_;clear HC1;rintro e w2 ⟨rfl,hb2⟩;have HB2:=hid (HB1.out.trans (hb2.mono HB1.out.size));clear hb2
   go_wp2_with fail
   go_ret
   exact⟨by rw[HE2.out];rfl,HB2.out⟩
structure Ned where
 name:ByteArray
 num:Bool
 text:Bool
def nedV (x:Ned):List Value:=[.string x.name,.bool x.num,.bool x.text]
def flatN (l:List Ned):List Value:=l.flatMap nedV
theorem flatN_snoc (l:List Ned) (x:Ned):flatN (l++[x])=flatN l++nedV x:=by simp[flatN]
theorem flatN_at:∀(l:List Ned) (i:Nat) (h:i < l.length),((flatN l).drop (i*3)).take 3=nedV l[i]
 | [],i,h=>by cases h
 | p::l,0,_=>by show((nedV p++flatN l).drop (0*3)).take 3=_;simp[nedV]
 | p::l,i+1,h=>by
   have ih:=flatN_at l i (by simpa using h)
   show((nedV p++flatN l).drop ((i+1)*3)).take 3=_;rw[show(i+1)*3=(nedV p).length+i*3 from by simp[nedV];omega,List.drop_append,List.drop_eq_nil_of_le (Nat.le_add_right _ _),Nat.add_sub_cancel_left]
   exact ih
theorem flatN_set:∀(l:List Ned) (i:Nat) (h:i < l.length) (a b:Bool),((flatN l).set (i*3+1) (.bool a)).set (i*3+2) (.bool b)=flatN (l.set i ⟨l[i].name,a,b⟩)
 | [],i,h,_,_=>by cases h
 | p::l,0,_,a,b=>by rfl
 | p::l,i+1,h,a,b=>by
   have ih:=flatN_set l i (by simpa using h) a b
   have e1:(i+1)*3+1=(i*3+1)+1+1+1:=by omega
   have e2:(i+1)*3+2=(i*3+2)+1+1+1:=by omega
   rw[e1,e2];show(((nedV p++flatN l).set ((i*3+1)+1+1+1) (.bool a)).set ((i*3+2)+1+1+1) (.bool b))=nedV p++flatN (l.set i ⟨(l[i]'(by simpa using h)).name,a,b⟩)
   rw[←ih]
   rfl
def Enc.ned:Enc Ned:=⟨3,24,fun _ _ _ cs x=>cs=nedV x,fun _ _=>True,fun _=>1⟩
theorem Enc.ned_laws:Enc.ned.Laws:=⟨fun h=>by cases h;rfl,fun h _=>h,fun h _ _=>h⟩
theorem neds_of_own {w:World} {base lo hi:Nat} {v:Value} {l:List Ned} (h:w.ownsRow base 180 3 v l.length (flatN l)) (hb:lo≤base) (hs:w.heap.size≤hi):ListOk Enc.ned w lo hi v l:=
 ListOk.of_own (E:=Enc.ned) h hb hs fun i hl=>flatN_at l i hl
theorem ListOk.nedAt {w:World} {lo hi:Nat} {A:Option Addr} {n c:Nat} {l:List Ned} (h:ListOk Enc.ned w lo hi (.slice A n c) l) (i:Nat) (hl:i < l.length):
 ∃ b o,A=some ⟨b,o,none⟩∧lo≤b∧b < hi∧w.cell? ⟨b,o+i*3,none⟩=some (.string l[i].name)∧w.cell? ⟨b,o+i*3+1,none⟩=some (.bool l[i].num)∧w.cell? ⟨b,o+i*3+2,none⟩=some (.bool l[i].text):=by
 obtain⟨A',c',hv,_,hi'⟩:=h;injection hv with hv1 _ _;subst hv1;obtain⟨b,o,cs,hA,h1,h2,h3,h4⟩:=hi' i hl;have h4':cs=nedV l[i]:=h4;subst h4';exact⟨b,o,hA,h1,h2,h3 0 _ rfl,h3 1 _ rfl,h3 2 _ rfl⟩
def idxOfN {α:Type} (l:List α) (T:α→Bool):Int:=match l.findIdx? T with|some i=>i|none=> -1
theorem idxN_hit {α:Type} {l:List α} {T:α→Bool} {j:Nat} (h:j < l.length) (hp:T l[j]=true) (hno:∀ q (h:q < l.length),q < j→T l[q]=false):idxOfN l T=j:=by
 unfold idxOfN;rw[findIdx_at l T j h hp hno]
theorem idxN_no {α:Type} {l:List α} {T:α→Bool} (hno:∀ q (h:q < l.length),T l[q]=false):idxOfN l T= -1:=by
 unfold idxOfN;rw[findIdx_none l T hno]
theorem idxN_any {α:Type} (l:List α) (T:α→Bool):decide (0≤idxOfN l T)=l.any T:=by
 unfold idxOfN;cases h:l.findIdx? T with
 | none=>
   rw[List.findIdx?_eq_none_iff]at h;have:l.any T=false:=by rw[List.any_eq_false];intro x hx;simp[h x hx]
   rw[this];decide
 | some i=>
   rw[List.findIdx?_eq_some_iff_getElem]at h;obtain⟨hi,hp,_⟩:=h;rw[any_of_at l T i hi hp];simp
theorem idx_cases {α:Type} (l:List α) (T:α→Bool):idxOfN l T= -1∨∃ i,i < l.length∧idxOfN l T=(i:Nat):=by
 unfold idxOfN;cases h:l.findIdx? T with
 | none=>exact .inl rfl
 | some i=>
   rw[List.findIdx?_eq_some_iff_getElem]at h;exact .inr ⟨i,h.1,rfl⟩
theorem indexA_any (l:List Ned) (v:Value) (q0:Nat) (T:Ned→Bool) (lo:Nat) (w:World) (hv:ListOk Enc.ned w lo w.heap.size v l) (hn:l.length≤1000000000)
 (HT:Hid (∀ x∈l,∀ W,Below w.heap.size w W→Calls Tryz.prog 208 #[.agg #[.string x.name,.bool x.num,.bool x.text],.pointer (some ⟨q0,0,none⟩)] W fun e w'=>e=.returned (.bool (T x))∧Below W.heap.size W w')):
 Calls Tryz.prog 175 #[v,.func (.func 208) #[] #[.pointer (some ⟨q0,0,none⟩)]] w fun e w'=>e=.returned (.int .i64 (idxOfN l T))∧Below w.heap.size w w':=by
 obtain⟨A,c,rfl,hc⟩:=hv.form;have HV:Hid (∀ W,Below w.heap.size w W→ListOk Enc.ned W lo w.heap.size (.slice A l.length c) l):=hid fun W hW=>hv.below Enc.ned_laws hW;clear hv
 go_enter Tryz.func175,Tryz.ntmps175
 go_wp2_with fail
 go_loopw [5,8] (fun _ i wr=>∃ j:Nat,j≤l.length∧i=.int .i64 (j:Int)∧Hid (∀ q (h:q < l.length),q < j→T l[q]=false)∧Below w.heap.size w wr) (fun _ i _=>l.length - (intOf i).toNat)
 case atStart=>exact⟨0,Nat.zero_le _,rfl,hid fun q _ h=>absurd h (Nat.not_lt_zero _),Below.refl _ _⟩
 case round=>
  obtain⟨j,hj,rfl,HNo,hb⟩:=hrel;have HB:=hid hb;have hbs:=hb.size
  by_cases hlt:j < l.length
  ·have hx:l[j]∈l:=List.getElem_mem hlt;have HTj:=hid (HT.out l[j] hx);obtain⟨X,hX⟩:∃ X,X=T l[j]:=⟨_,rfl⟩;have HX:Hid (X=T l[j]):=hid hX;rw[←hX]at HTj;have HI1:Hid (X=true→idxOfN l T=(j:Int)):=hid fun h=>idxN_hit hlt (HX.out.symm.trans h) HNo.out;have HI2:Hid (X=false→∀ q (h:q < l.length),q < j+1→T l[q]=false):=hid fun h=>step_no l T j HNo.out fun _=>HX.out.symm.trans h;clear HX HNo;obtain⟨b0,o0,rfl,hb1,hb2,x0,x1,x2⟩:=(HV.out _ hb).nedAt j hlt;generalize l[j]=e at *;obtain⟨e0,e1,e2⟩:=e;dsimp only at x0 x1 x2 HTj;have HTw:=hid (HTj.out wr hb);clear hb hx hX;have i1:(0:Int)≤(j:Int):=Int.natCast_nonneg j;have i2:(j:Int) < (l.length:Int):=by omega
   clear HTj HT
   go_wp2_with fail
   refine HTw.out.mono ?_;clear HTw;rintro e w1 ⟨rfl,hb1'⟩;have HB1:=hid (HB.out.trans (hb1'.mono hbs));clear hb1';cases X with
   | true=>
     have HI:Hid (idxOfN l T=(j:Int)):=hid (HI1.out rfl);clear HI1 HI2
     go_wp2_with fail
     go_ret
     exact⟨by rw[HI.out];rfl,HB1.out⟩
   | false=>
     have HN2:Hid (∀ q (h:q < l.length),q < j+1→T l[q]=false):=hid (HI2.out rfl);clear HI1 HI2
     go_wp2_with fail
     go_roundw
     case rel=>exact⟨j+1,by omega,by go_num,HN2,HB1.out⟩
     case measure=>simp[intOf];omega
  ·obtain rfl:j=l.length:=by omega
   have HI:Hid (idxOfN l T= -1):=hid (idxN_no fun q h=>HNo.out q h h);clear hb HNo
   go_wp2_with fail
   go_ret
   exact⟨by rw[HI.out];rfl,HB.out⟩
theorem indexO_any (l:List Ned) (v:Value) (T:Ned→Bool) (lo:Nat) (w:World) (hv:ListOk Enc.ned w lo w.heap.size v l) (hn:l.length≤1000000000)
 (HT:Hid (∀ x∈l,∀ W,Below w.heap.size w W→Calls Tryz.prog 132 #[.agg #[.string x.name,.bool x.num,.bool x.text]] W fun e w'=>e=.returned (.bool (T x))∧Below W.heap.size W w')):
 Calls Tryz.prog 175 #[v,.func (.func 132) #[] #[]] w fun e w'=>e=.returned (.int .i64 (idxOfN l T))∧Below w.heap.size w w':=by
 obtain⟨A,c,rfl,hc⟩:=hv.form;have HV:Hid (∀ W,Below w.heap.size w W→ListOk Enc.ned W lo w.heap.size (.slice A l.length c) l):=hid fun W hW=>hv.below Enc.ned_laws hW;clear hv
 go_enter Tryz.func175,Tryz.ntmps175
 go_wp2_with fail
 go_loopw [5,8] (fun _ i wr=>∃ j:Nat,j≤l.length∧i=.int .i64 (j:Int)∧Hid (∀ q (h:q < l.length),q < j→T l[q]=false)∧Below w.heap.size w wr) (fun _ i _=>l.length - (intOf i).toNat)
 case atStart=>exact⟨0,Nat.zero_le _,rfl,hid fun q _ h=>absurd h (Nat.not_lt_zero _),Below.refl _ _⟩
 case round=>
  obtain⟨j,hj,rfl,HNo,hb⟩:=hrel;have HB:=hid hb;have hbs:=hb.size
  by_cases hlt:j < l.length
  ·have hx:l[j]∈l:=List.getElem_mem hlt;have HTj:=hid (HT.out l[j] hx);obtain⟨X,hX⟩:∃ X,X=T l[j]:=⟨_,rfl⟩;have HX:Hid (X=T l[j]):=hid hX;rw[←hX]at HTj;have HI1:Hid (X=true→idxOfN l T=(j:Int)):=hid fun h=>idxN_hit hlt (HX.out.symm.trans h) HNo.out;have HI2:Hid (X=false→∀ q (h:q < l.length),q < j+1→T l[q]=false):=hid fun h=>step_no l T j HNo.out fun _=>HX.out.symm.trans h;clear HX HNo;obtain⟨b0,o0,rfl,hb1,hb2,x0,x1,x2⟩:=(HV.out _ hb).nedAt j hlt;generalize l[j]=e at *;obtain⟨e0,e1,e2⟩:=e;dsimp only at x0 x1 x2 HTj;have HTw:=hid (HTj.out wr hb);clear hb hx hX;have i1:(0:Int)≤(j:Int):=Int.natCast_nonneg j;have i2:(j:Int) < (l.length:Int):=by omega
   clear HTj HT
   go_wp2_with fail
   refine HTw.out.mono ?_;clear HTw;rintro e w1 ⟨rfl,hb1'⟩;have HB1:=hid (HB.out.trans (hb1'.mono hbs));clear hb1';cases X with
   | true=>
     have HI:Hid (idxOfN l T=(j:Int)):=hid (HI1.out rfl);clear HI1 HI2
     go_wp2_with fail
     go_ret
     exact⟨by rw[HI.out];rfl,HB1.out⟩
   | false=>
     have HN2:Hid (∀ q (h:q < l.length),q < j+1→T l[q]=false):=hid (HI2.out rfl);clear HI1 HI2
     go_wp2_with fail
     go_roundw
     case rel=>exact⟨j+1,by omega,by go_num,HN2,HB1.out⟩
     case measure=>simp[intOf];omega
  ·obtain rfl:j=l.length:=by omega
   have HI:Hid (idxOfN l T= -1):=hid (idxN_no fun q h=>HNo.out q h h);clear hb HNo
   go_wp2_with fail
   go_ret
   exact⟨by rw[HI.out];rfl,HB.out⟩
theorem addC_any (x:Ned) (q0:Nat) (t:ByteArray) (w:World) (hq:w.cell? ⟨q0,1,none⟩=some (.string t)):
 Calls Tryz.prog 208 #[.agg #[.string x.name,.bool x.num,.bool x.text],.pointer (some ⟨q0,0,none⟩)] w fun e w'=>e=.returned (.bool (eqs x.name t))∧Below w.heap.size w w':=by
 obtain⟨n0,n1,n2⟩:=x;obtain⟨W1,eW1⟩:∃ W1,W1=w.alloc (.cells #[.string n0,.bool n1,.bool n2] 180):=⟨_,rfl⟩;have hb1:Below w.heap.size w W1:=by rw[eW1];exact(Below.refl _ _).alloc (Nat.le_refl _) _
 have m1:Blk W1 w.heap.size 180 #[.string n0,.bool n1,.bool n2]:=by rw[eW1];exact Blk.new _ _ _
 have k0:W1.cell? ⟨w.heap.size,0,none⟩=some (.string n0):=(m1.cell 0).trans rfl;have kq:W1.cell? ⟨q0,1,none⟩=some (.string t):=(hb1.cell (p:=⟨q0,1,none⟩) (cellLt hq)).trans hq;have HB1:=hid hb1;have HW1:=hid eW1;clear hq eW1 m1 hb1;dsimp only
 go_enter Tryz.func208,Tryz.ntmps208
 go_upto_region 1 with fail
 rw[←HW1.out];clear HW1
 go_wp2_with fail
 go_ret
 exact⟨rfl,HB1.out⟩
theorem ofC_any (x:Ned) (w:World):Calls Tryz.prog 132 #[.agg #[.string x.name,.bool x.num,.bool x.text]] w fun e w'=>e=.returned (.bool (x.num && x.text))∧Below w.heap.size w w':=by
 obtain⟨n0,n1,n2⟩:=x;dsimp only;cases n1 with
 | true=>
   go_enter Tryz.func132,Tryz.ntmps132
   go_wp2_with fail
   go_ret
   exact⟨by simp,(Below.refl _ _).alloc (Nat.le_refl _) _⟩
 | false=>
   go_enter Tryz.func132,Tryz.ntmps132
   go_wp2_with fail
   go_ret
   exact⟨by simp,(Below.refl _ _).alloc (Nat.le_refl _) _⟩
theorem containsO_any (l:List Ned) (v:Value) (lo:Nat) (w:World) (hv:ListOk Enc.ned w lo w.heap.size v l) (hn:l.length≤1000000000):
 Calls Tryz.prog 131 #[v,.func (.func 132) #[] #[]] w fun e w'=>e=.returned (.bool (l.any fun x=>x.num && x.text))∧Below w.heap.size w w':=by
 have HI:=hid (indexO_any l v (fun x=>x.num && x.text) lo w hv hn (hid fun x _ W _=>ofC_any x W));have HE:=hid (idxN_any l fun x=>x.num && x.text);clear hv;generalize idxOfN l (fun x=>x.num && x.text)=I at *;generalize l.any (fun x=>x.num && x.text)=X at*
 go_enter Tryz.func131,Tryz.ntmps131
 go_wp2_with fail
 refine HI.out.mono ?_;clear HI;rintro e w1 ⟨rfl,hb⟩;have HB:=hid hb;clear hb
 go_wp2_with fail
 go_ret
 exact⟨by rw[←HE.out];rfl,HB.out⟩
end Go.Proofs.YtpfmmbbggcghiaaGreatDoor
