/- msg.size at any depth; msg.cases and msg.check. -/
import Derived.Test.YtagfnpdoooachaaGreatDoorMsgC
import Derived.Test.YtagfnpdoooachaaGreatDoorJoined
import Derived.Stop.Asserts
set_option linter.unusedSimpArgs false
set_option linter.unusedVariables false
namespace Go.Proofs.YtagfnpdoooachaaGreatDoor
open Go.RowKit
open Lib (hid)
def smallF {β:Type} (S:β→Prop) (x:NdF β):Prop:=x.text.size≤1000000000∧x.cases.length≤10000000∧∀ c∈x.cases,c.1.size≤1000000000∧c.2.length≤10000000∧∀ y∈c.2,S y
def SmallN:(n:Nat)→Nd n→Prop
 | 0,_=>True
 | n+1,x=>smallF (SmallN n) x
structure MsgIn (n:Nat) (m:List (Nd n)):Prop where
 len:m.length≤10000000
 each:∀ x∈m,SmallN n x
theorem MsgIn.body {n:Nat} {m:List (Nd (n+1))} (h:MsgIn (n+1) m) {x:NdF (Nd n)} (hx:x∈(m:List (NdF (Nd n)))) {c:ByteArray×List (Nd n)} (hc:c∈x.cases):MsgIn n c.2:=by
 have h1:smallF (SmallN n) x:=h.each x hx;exact⟨(h1.2.2 c hc).2.1,(h1.2.2 c hc).2.2⟩
def sizeN:(n:Nat)→List (Nd n)→Nat→Int×Bool
 | 0,_,_=>(0,false)
 | n+1,m,d=>sizeG (sizeN n) (m:List (NdF (Nd n))) d
theorem empty_list:∀(m:List (Nd 0)),m=[]
 | []=>rfl
 | x::_=>(show Empty from x).elim
theorem sizeN_bound:(n:Nat)→(m:List (Nd n))→(d:Nat)→d≤6→MsgIn n m→0≤(sizeN n m d).1∧(sizeN n m d).1≤((7 - d:Nat):Int)*1000000000
 | 0,_,d,hd,_=>⟨by show(0:Int)≤0;omega,by show(0:Int)≤_;omega⟩
 | n+1,m,d,hd,hm=>by
   have h:=sizeG_bound (sizeN n) (d:=d) (G:=((7 - (d+1):Nat):Int)*1000000000) (by omega) (m:List (NdF (Nd n))) (fun h5 x hx c hc=>sizeN_bound n c.2 (d+1) (by omega) (hm.body hx hc)) (Nat.le_trans hm.len (by decide))
   have e:((7 - d:Nat):Int)=((7 - (d+1):Nat):Int)+1:=by omega
   refine⟨h.1,Int.le_trans h.2 ?_⟩;rw[e];omega
theorem size_any:(n:Nat)→(m:List (Nd n))→(d:Nat)→(v:Value)→(lo:Nat)→(w:World)→d≤6→MsgIn n m→ListOk (Enc.node n) w lo w.heap.size v m→
 Calls Tryz.prog 135 #[v,.int .i64 (d:Int)] w fun e w'=>e=.returned (.tuple #[.int .i64 (sizeN n m d).1,.bool (sizeN n m d).2])∧Below w.heap.size w w'
 | 0,m,d,v,lo,w,hd,hm,hv=>by
   obtain rfl:=empty_list m;obtain⟨A,c,rfl,_⟩:=hv.form;have h:=size_walk (E:=Enc.none_) Enc.none_laws (fun _ _=>(0,false)) ([]:List (NdF Empty)) d (.slice A 0 c) lo w hd (ListOk.nil c A) (Nat.zero_le _) (fun x hx=>by cases hx) (fun _ x hx=>by cases hx) (hid fun _ x hx=>by cases hx)
   have e:sizeG (fun(_:List Empty) (_:Nat)=>((0:Int),false)) ([]:List (NdF Empty)) d=(0,false):=by
    unfold sizeG;rw[if_neg (by simp)]
    rfl
   rw[e]at h;exact h
 | n+1,m,d,v,lo,w,hd,hm,hv=>by
   exact size_walk (E:=Enc.node n) (Enc.node_laws n) (sizeN n) (m:List (NdF (Nd n))) d v lo w hd hv (Nat.le_trans hm.len (by decide))
    (fun x hx=>by have h1:smallF (SmallN n) x:=hm.each x hx;have:=h1.2.1;omega)
    (fun h5 x hx c hc=>by
      have h:=sizeN_bound n c.2 (d+1) (by omega) (hm.body hx hc)
      exact⟨h.1,by have:((7 - (d+1):Nat):Int)≤7:=by omega
                   omega⟩)
    (hid fun h5 x hx c hc W V hW hV=>by
      have h:=size_any n c.2 (d+1) V lo W (by omega) (hm.body hx hc) hV
      exact h)
def errV (n:Int):Value:=if n=0 then .nilIface else .iface 27 (.int .i64 n)
theorem errV_zero:errV 0=.nilIface:=rfl
theorem errV_ne {n:Int} (h:n≠0):errV n=.iface 27 (.int .i64 n):=if_neg h
def otherB:ByteArray:=⟨#[111,116,104,101,114]⟩
section
variable {β:Type} (chk:List β→Bool→Int)
def casesM (kind:Int) (mark:Bool):List (ByteArray×List β)→List ByteArray→Int
 | [],seen=>if seen.any (eqs · otherB)then 0 else 2
 | c::r,seen=>if keyM kind c.1=false then 3 else if seen.any (eqs · c.1)=true then 5 else if chk c.2 (mark || kind == 4)≠0 then chk c.2 (mark || kind == 4)else casesM kind mark r (seen++[c.1])
def checkM (mark:Bool):Option Int→List (NdF β)→Int
 | _,[]=>0
 | last,x::r=>if fineM x.kind x.text last mark=false then 3 else if x.kind=4∧(x.off < 0∨9 < x.off)then 1 else if hasCases x.kind=true∧casesM chk x.kind mark x.cases []≠0 then casesM chk x.kind mark x.cases []else checkM mark (some x.kind) r
theorem casesM_at {kind:Int} {mark:Bool} {l:List (ByteArray×List β)} {j:Nat} {seen:List ByteArray} (h:j < l.length):casesM chk kind mark (l.drop j) seen=
 if keyM kind l[j].1=false then 3 else if seen.any (eqs · l[j].1)=true then 5 else if chk l[j].2 (mark || kind == 4)≠0 then chk l[j].2 (mark || kind == 4)else casesM chk kind mark (l.drop (j+1)) (seen++[l[j].1]):=by
 rw[List.drop_eq_getElem_cons h];rfl
end
theorem info_strM:(Tryz.prog.info? 9).map (fun i=>(i.zero,i.size,i.bytes))=some (some (.string ByteArray.empty),1,16):=by kernel_rfl
theorem one_newsM (w:World) (X:ByteArray) (t:TypeId):∀ q u,([Value.string X]:List Value)[q]? =some u→(w.alloc (.cells #[.string X] t)).cell? ⟨w.heap.size,0+q,none⟩=some u:=fun q u hq=>by
 rw[Nat.zero_add,(Blk.new w t #[.string X]).cell q];simpa using hq
theorem own_blkM {w:World} {base:Nat} {e t:TypeId} {size:Nat} {v:Value} {m:Nat} {xs:List Value} {g:Nat} {cs:Array Value} (h:w.ownsRow base e size v m xs) (k:Blk w g t cs) (hne:e≠t):v.ownBlock≠some g:=by
 intro hg;obtain⟨_,⟨h2,_⟩|⟨g',cap,cur,hv,hb,hh,_⟩⟩:=h
 ·rw[h2]at hg;cases hg
 ·rw[hv]at hg;injection hg with hg;subst hg;unfold Blk at k;rw[hh]at k;injection k with k;injection k with _ k;exact hne k
set_option maxHeartbeats 6400000 in
set_option maxRecDepth 100000 in
theorem cases_walk {β:Type} {E:Enc β} (hE:E.Laws) (chk:List β→Bool→Int) (x:NdF β) (V:Value) (mark:Bool) (lo:Nat) (w:World) (hV:ListOk (Enc.cas E) w lo w.heap.size V x.cases) (hl:x.cases.length≤10000000) (hk:∀ c∈x.cases,c.1.size≤1000000000) (hv:MV w)
 (IH:Hid (∀ c∈x.cases,∀ mk W U,Below w.heap.size w W→ListOk E W lo W.heap.size U c.2→Calls Tryz.prog 136 #[U,.bool mk] W fun e w'=>e=.returned (errV (chk c.2 mk))∧Below W.heap.size W w')):
 Calls Tryz.prog 190 #[.agg #[.int .i64 x.kind,.string x.text,.int .i64 x.off,V],.bool mark] w fun e w'=>e=.returned (errV (casesM chk x.kind mark x.cases []))∧Below w.heap.size w w':=by
 obtain⟨VA,Vc,rfl,_⟩:=hV.form;obtain⟨kind,text,off,cs⟩:=x;dsimp only at hV hl hk IH ⊢;obtain⟨W1,eW1⟩:∃ W1,W1=w.alloc (.cells #[.int .i64 kind,.string text,.int .i64 off,.slice VA cs.length Vc] 197):=⟨_,rfl⟩;have hb1:Below w.heap.size w W1:=by rw[eW1];exact(Below.refl _ _).alloc (Nat.le_refl _) _
 have M1:Hid (Blk W1 w.heap.size 197 #[.int .i64 kind,.string text,.int .i64 off,.slice VA cs.length Vc]):=hid (by rw[eW1];exact Blk.new _ _ _)
 have HB1:=hid hb1;have HW1:=hid eW1;have k3:W1.cell? ⟨w.heap.size,3,none⟩=some (.slice VA cs.length Vc):=(M1.out.cell 3).trans rfl;have HVc:Hid (∀ W,Below w.heap.size w W→ListOk (Enc.cas E) W lo w.heap.size (.slice VA cs.length Vc) cs):=hid fun W hW=>hV.below (Enc.cas_laws hE) hW;have HMV:Hid (∀ W,Below w.heap.size w W→MV W):=hid fun W hW=>hv.below hW;have HKs:=hid hk;have hs1:w.heap.size+1≤W1.heap.size:=by have:=M1.out.lt;omega
 clear hV hk hv eW1 hb1
 go_enter Tryz.func190,Tryz.ntmps190
 go_upto_region 1 with fail
 rw[←HW1.out];clear HW1
 go_wp2_with fail
 go_loopw [5,7,8,12] (fun o _ _ i wr=>∃ j:Nat,j≤cs.length∧i=.int .i64 (j:Int)∧wr.ownsRow W1.heap.size 9 1 o ((cs.take j).map (·.1)).length (((cs.take j).map (·.1)).map Value.string)∧Hid (casesM chk kind mark cs []=casesM chk kind mark (cs.drop j) ((cs.take j).map (·.1)))∧Below W1.heap.size W1 wr) (fun _ _ _ i _=>cs.length - (intOf i).toNat)
 case atStart=>exact⟨0,Nat.zero_le _,rfl,own_nil,hid rfl,Below.refl _ _⟩
 case round=>
  obtain⟨j,hj,rfl,hown,HNo,hb⟩:=hrel;have HO:=hid hown;have HB:=hid hb;have hbs:=hb.size;have htl:((cs.take j).map (·.1)).length=j:=by rw[List.length_map,List.length_take];omega
  obtain⟨OA,Oc,rfl,_⟩:=own_slice hown;have Mr:=hid (M1.out.below hb M1.out.lt);have HBw:=hid (HB1.out.trans (hb.mono HB1.out.size))
  by_cases hlt:j < cs.length
  ·have i1:(0:Int)≤(j:Int):=Int.natCast_nonneg j;have i2:(j:Int) < (cs.length:Int):=by omega
   have hmem:cs[j]∈cs:=List.getElem_mem hlt;have HTk:Hid ((cs.take (j+1)).map (·.1)=(cs.take j).map (·.1)++[cs[j].1]):=hid (by rw[List.take_succ_eq_append_getElem hlt,List.map_append];rfl)
   have HAt:Hid (casesM chk kind mark cs []=if keyM kind cs[j].1=false then 3 else if((cs.take j).map (·.1)).any (eqs · cs[j].1)=true then 5 else if chk cs[j].2 (mark || kind == 4)≠0 then chk cs[j].2 (mark || kind == 4)else casesM chk kind mark (cs.drop (j+1)) ((cs.take j).map (·.1)++[cs[j].1])):=hid (by rw[HNo.out,casesM_at chk hlt])
   obtain⟨b0,o0,U,rfl,_,_,x0,x1,hU⟩:=(HVc.out _ HBw.out).casAt j hlt;have hks:=HKs.out _ hmem;obtain⟨UA,Uc,rfl,_⟩:=hU.form;have HCk:Hid (∀ mk W,Below w.heap.size w W→Calls Tryz.prog 136 #[.slice UA cs[j].2.length Uc,.bool mk] W fun e w'=>e=.returned (errV (chk cs[j].2 mk))∧Below W.heap.size W w'):=hid fun mk W hW=>
    IH.out _ hmem mk W _ hW ((hU.keep hE fun p h1 h2=>(hW.cell h2).trans (HBw.out.cell h2).symm).mono hE (Nat.le_refl _) hW.size)
   clear hU hmem HNo hb hown;rw[htl];rw[htl]at HO;generalize cs[j]=cc at *;obtain⟨ck,cb⟩:=cc;dsimp only at x0 x1 hks HCk HTk HAt;obtain⟨S,hS⟩:∃ S,S=(cs.take j).map (·.1):=⟨_,rfl⟩;rw[←hS]at HO HTk HAt htl;have HSq:Hid (S.length=j):=hid htl;clear hS htl;obtain⟨W2,eW2⟩:∃ W2,W2=wr.alloc (.cells #[.string ck,.slice UA cb.length Uc] 253):=⟨_,rfl⟩;have hb2:Below wr.heap.size wr W2:=by rw[eW2];exact(Below.refl _ _).alloc (Nat.le_refl _) _
   have M2:Hid (Blk W2 wr.heap.size 253 #[.string ck,.slice UA cb.length Uc]):=hid (by rw[eW2];exact Blk.new _ _ _)
   have Mx:=hid (Mr.out.below hb2 Mr.out.lt);have y0:W2.cell? ⟨wr.heap.size,0,none⟩=some (.string ck):=(M2.out.cell 0).trans rfl;have a0:=(Mx.out.cell 0).trans (show _=some (.int .i64 kind)from rfl);have a1:=(Mx.out.cell 1).trans (show _=some (.string text)from rfl);have a2:=(Mx.out.cell 2).trans (show _=some (.int .i64 off)from rfl);have a3:=(Mx.out.cell 3).trans (show _=some (.slice (some ⟨b0,o0,none⟩) cs.length Vc)from rfl);have HKy:=hid (key_any kind off text ck (some ⟨b0,o0,none⟩) cs.length Vc W2 hks (HMV.out _ (HBw.out.trans (hb2.mono HBw.out.size))));have HB2:=hid hb2;have HW2:=hid eW2;clear eW2 hb2
   go_upto_region 5 with fail
   rw[←HW2.out];clear HW2
   go_wp2_with fail
   refine HKy.out.mono ?_;clear HKy;rintro e w3 ⟨rfl,hb3⟩;have HB3:=hid (HB2.out.trans (hb3.mono HB2.out.size));have M3:=hid (M2.out.below hb3 M2.out.lt);have Mx3:=hid (Mx.out.below hb3 Mx.out.lt);have z0:w3.cell? ⟨wr.heap.size,0,none⟩=some (.string ck):=(M3.out.cell 0).trans rfl;have HB3w:=hid (HBw.out.trans (HB3.out.mono HBw.out.size));have HB31:=hid (HB.out.trans (HB3.out.mono hbs));clear hb3 a0 a1 a2 a3 y0 M2 Mx HB2;generalize keyM kind ck=KY at *;cases KY with
   | false=>
     have HE:Hid (casesM chk kind mark cs []=3):=hid (by rw[HAt.out,if_pos rfl])
     clear HAt HCk
     go_wp2_with fail
     go_ret
     exact⟨by rw[HE.out];rfl,HB3w.out⟩
   | true=>
     have HO3:=hid (own_below HO.out HB3.out (Nat.le_refl _));have HCt:=hid (containsS_any S (.slice OA j Oc) ck 0 w3.heap.size w3 (by
      have h:=HO3.out;have e:j=S.length:=HSq.out.symm;rw[e]at h ⊢;exact ListOk.strs_of_own h (Nat.zero_le _) (Nat.le_refl _)) (by have:=HSq.out;omega))
     have HA2:Hid (casesM chk kind mark cs []=if S.any (eqs · ck)=true then 5 else if chk cb (mark || kind == 4)≠0 then chk cb (mark || kind == 4)else casesM chk kind mark (cs.drop (j+1)) (S++[ck])):=hid (by rw[HAt.out,if_neg (by decide)])
     generalize S.any (eqs · ck)=SN at *;clear HAt
     go_wp2_with fail
     refine HCt.out.mono ?_;clear HCt;rintro e w4 ⟨rfl,rfl⟩;cases SN with
     | true=>
       have HE:Hid (casesM chk kind mark cs []=5):=hid (by rw[HA2.out,if_pos rfl])
       clear HA2 HCk
       go_wp2_with fail
       go_ret
       exact⟨by rw[HE.out];rfl,HB3w.out⟩
     | false=>
       have HA3:Hid (casesM chk kind mark cs []=if chk cb (mark || kind == 4)≠0 then chk cb (mark || kind == 4)else casesM chk kind mark (cs.drop (j+1)) (S++[ck])):=hid (by rw[HA2.out,if_neg (by decide)])
       clear HA2;have hsz3:=HB31.out.size
       go_wp2_with (at_builtin;refine wpList_append_any rfl _ _ 23 rfl W1.heap.size 9 Tryz.underlying23 info_strM rfl (by decide) (S.map Value.string) rfl (HO3.out.alloc _) [.string ck] rfl rfl (.inr ⟨_,_,rfl,one_newsM _ _ _⟩) (by simp[Value.oneCell']) (by unfold maxLen;omega) (by omega) (by simp;omega) ?_)
       intro v5 w5 hown5 hgrow5 _;obtain⟨A5,c5,rfl,_⟩:=own_slice hown5;have hO3l:∀ r,(Value.slice OA j Oc).ownBlock=some r→W1.heap.size≤r:=fun r hr=>(own_lt HO3.out hr).1;have HB5:Hid (Below W1.heap.size W1 w5):=hid ((HB31.out.alloc hsz3 _).grown hgrow5 (by simp;omega) hO3l)
       have M5:Hid (Blk w5 wr.heap.size 253 #[.string ck,.slice UA cb.length Uc]):=hid ((hgrow5.block _ (by have:=M3.out.lt;simp;omega) (fun e=>own_blkM HO3.out M3.out (by decide) e.symm)).trans (M3.out.alloc _))
       have Mx5:Hid (Blk w5 w.heap.size 197 #[.int .i64 kind,.string text,.int .i64 off,.slice (some ⟨b0,o0,none⟩) cs.length Vc]):=hid ((hgrow5.block _ (by have:=Mx3.out.lt;simp;omega) (fun e=>by have:=hO3l _ e.symm;omega)).trans (Mx3.out.alloc _))
       have HO5:Hid (w5.ownsRow W1.heap.size 9 1 (.slice A5 (j+1) c5) (S++[ck]).length ((S++[ck]).map Value.string)):=hid (by
        rw[List.length_append,HSq.out,List.map_append];exact hown5)
       have HB5w:=hid (HB1.out.trans (HB5.out.mono HB1.out.size));have u1:w5.cell? ⟨wr.heap.size,1,none⟩=some (.slice UA cb.length Uc):=(M5.out.cell 1).trans rfl;have c0:=(Mx5.out.cell 0).trans (show _=some (.int .i64 kind)from rfl);have HC5:=hid (HCk.out (mark || kind == 4) w5 HB5w.out);have hsz5:=HB5.out.size;generalize chk cb (mark || kind == 4)=e0 at *;clear hown5 hgrow5 HO3 HCk z0;obtain⟨K4,hK4⟩:∃ K4,K4=(kind == 4):=⟨_,rfl⟩;have hK4':(kind == 4)=K4:=hK4.symm;rw[hK4']at HC5;clear hK4;cases mark with
       | true=>
         rw[Bool.true_or]at HC5
         go_wp2_with fail
         refine HC5.out.mono ?_;clear HC5;rintro e w6 ⟨rfl,hb6⟩;have HB6:=hid (HB5.out.trans (hb6.mono hsz5));have HB6w:=hid (HB1.out.trans (HB6.out.mono HB1.out.size));have HO6:=hid (own_below HO5.out hb6 (Nat.le_refl _));clear hb6
         by_cases he:e0=0
         ·subst he;have HN:Hid (casesM chk kind true cs []=casesM chk kind true (cs.drop (j+1)) (S++[ck])):=hid (by rw[HA3.out,if_neg (by simp)])
          rw[errV_zero];clear HA3
          go_wp2_with fail
          go_roundw
          case rel=>exact⟨j+1,by omega,by go_num,by rw[HTk.out];exact HO6.out,by rw[HTk.out];exact HN,HB6.out⟩
          case measure=>simp[intOf];omega
         ·have HN:Hid (casesM chk kind true cs []=e0):=hid (by rw[HA3.out,if_pos he])
          rw[errV_ne he];clear HA3
          go_wp2_with fail
          go_ret
          exact⟨by rw[HN.out,errV_ne he];rfl,HB6w.out⟩
       | false=>
         rw[Bool.false_or]at HC5;cases K4 with
         | true=>
           go_wp2_with fail
           refine HC5.out.mono ?_;clear HC5;rintro e w6 ⟨rfl,hb6⟩;have HB6:=hid (HB5.out.trans (hb6.mono hsz5));have HB6w:=hid (HB1.out.trans (HB6.out.mono HB1.out.size));have HO6:=hid (own_below HO5.out hb6 (Nat.le_refl _));clear hb6
           by_cases he:e0=0
           ·subst he;have HN:Hid (casesM chk kind false cs []=casesM chk kind false (cs.drop (j+1)) (S++[ck])):=hid (by rw[HA3.out,if_neg (by simp)])
            rw[errV_zero];clear HA3
            go_wp2_with fail
            go_roundw
            case rel=>exact⟨j+1,by omega,by go_num,by rw[HTk.out];exact HO6.out,by rw[HTk.out];exact HN,HB6.out⟩
            case measure=>simp[intOf];omega
           ·have HN:Hid (casesM chk kind false cs []=e0):=hid (by rw[HA3.out,if_pos he])
            rw[errV_ne he];clear HA3
            go_wp2_with fail
            go_ret
            exact⟨by rw[HN.out,errV_ne he];rfl,HB6w.out⟩
         | false=>
           go_wp2_with fail
           refine HC5.out.mono ?_;clear HC5;rintro e w6 ⟨rfl,hb6⟩;have HB6:=hid (HB5.out.trans (hb6.mono hsz5));have HB6w:=hid (HB1.out.trans (HB6.out.mono HB1.out.size));have HO6:=hid (own_below HO5.out hb6 (Nat.le_refl _));clear hb6
           by_cases he:e0=0
           ·subst he;have HN:Hid (casesM chk kind false cs []=casesM chk kind false (cs.drop (j+1)) (S++[ck])):=hid (by rw[HA3.out,if_neg (by simp)])
            rw[errV_zero];clear HA3
            go_wp2_with fail
            go_roundw
            case rel=>exact⟨j+1,by omega,by go_num,by rw[HTk.out];exact HO6.out,by rw[HTk.out];exact HN,HB6.out⟩
            case measure=>simp[intOf];omega
           ·have HN:Hid (casesM chk kind false cs []=e0):=hid (by rw[HA3.out,if_pos he])
            rw[errV_ne he];clear HA3
            go_wp2_with fail
            go_ret
            exact⟨by rw[HN.out,errV_ne he];rfl,HB6w.out⟩
  ·obtain rfl:j=cs.length:=by omega
   have HCt:=hid (containsS_any ((cs.take cs.length).map (·.1)) (.slice OA ((cs.take cs.length).map (·.1)).length Oc) otherB 0 wr.heap.size wr (ListOk.strs_of_own HO.out (Nat.zero_le _) (Nat.le_refl _)) (by rw[htl];omega))
   have HN:Hid (casesM chk kind mark cs []=if((cs.take cs.length).map (·.1)).any (eqs · otherB)=true then 0 else 2):=hid (by rw[HNo.out,List.drop_length];rfl)
   rw[htl]at HCt ⊢;unfold otherB at *;generalize ((cs.take cs.length).map (·.1)).any (eqs · (⟨#[111,116,104,101,114]⟩:ByteArray))=X at *;clear hb HNo hown HO
   go_wp2_with fail
   refine HCt.out.mono ?_;clear HCt;rintro e w4 ⟨rfl,rfl⟩;cases X with
   | true=>
     have HE:Hid (casesM chk kind mark cs []=0):=hid (by rw[HN.out,if_pos rfl])
     clear HN
     go_wp2_with fail
     go_ret
     exact⟨by rw[HE.out];rfl,HBw.out⟩
   | false=>
     have HE:Hid (casesM chk kind mark cs []=2):=hid (by rw[HN.out,if_neg (by decide)])
     clear HN
     go_wp2_with fail
     go_ret
     exact⟨by rw[HE.out];rfl,HBw.out⟩
end Go.Proofs.YtagfnpdoooachaaGreatDoor
