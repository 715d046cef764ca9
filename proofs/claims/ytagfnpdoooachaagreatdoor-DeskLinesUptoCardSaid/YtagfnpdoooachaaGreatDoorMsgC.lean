/- msg.size. -/
import Derived.Test.YtagfnpdoooachaaGreatDoorMsgB
set_option linter.unusedSimpArgs false
set_option linter.unusedVariables false
namespace Go.Proofs.YtagfnpdoooachaaGreatDoor
open Go.RowKit
open Lib (hid)
section
variable {β:Type} (g:List β→Nat→Int×Bool)
def casL (d:Nat):List (ByteArray×List β)→Int→Int×Bool
 | [],n=>(n,false)
 | c::r,n=>if(g c.2 (d+1)).2=true∨60 < n+(g c.2 (d+1)).1 then(n+(g c.2 (d+1)).1,true)else casL d r (n+(g c.2 (d+1)).1)
def nodL (d:Nat):List (NdF β)→Int→Int×Bool
 | [],n=>(n,false)
 | x::r,n=>if(casL g d (casesR x) n).2=true then casL g d (casesR x) n else nodL d r (casL g d (casesR x) n).1
def sizeG (m:List (NdF β)) (d:Nat):Int×Bool:=
 if 6≤d∧m≠[]then(0,true)else if(nodL g d m m.length).2=true then nodL g d m m.length else((nodL g d m m.length).1,decide (60 < (nodL g d m m.length).1))
theorem casL_bound {d:Nat} {G B:Int} (hG0:0≤G) (hB:60≤B):∀(l:List (ByteArray×List β)) (n:Int),(∀ c∈l,0≤(g c.2 (d+1)).1∧(g c.2 (d+1)).1≤G)→0≤n→n≤B→0≤(casL g d l n).1∧(casL g d l n).1≤B+G∧((casL g d l n).2=false→(casL g d l n).1≤B)
 | [],n,_,h0,h1=>⟨h0,by show n≤_;omega,fun _=>h1⟩
 | c::r,n,hG,h0,h1=>by
   have h2:=hG c (List.mem_cons_self ..);unfold casL;split
   ·exact⟨by show 0≤n+_;omega,by show n+_≤_;omega,fun h=>by cases h⟩
   ·rename_i h3
    exact casL_bound hG0 hB r _ (fun c hc=>hG c (List.mem_cons_of_mem _ hc)) (by omega) (by omega)
theorem casesR_sub {x:NdF β} {c:ByteArray×List β} (h:c∈casesR x):c∈x.cases:=by
 unfold casesR at h;split at h
 ·exact h
 ·cases h
theorem nodL_bound {d:Nat} {G B:Int} (hG0:0≤G) (hB:60≤B):∀(l:List (NdF β)) (n:Int),(∀ x∈l,∀ c∈x.cases,0≤(g c.2 (d+1)).1∧(g c.2 (d+1)).1≤G)→0≤n→n≤B→0≤(nodL g d l n).1∧(nodL g d l n).1≤B+G∧((nodL g d l n).2=false→(nodL g d l n).1≤B)
 | [],n,_,h0,h1=>⟨h0,by show n≤_;omega,fun _=>h1⟩
 | x::r,n,hG,h0,h1=>by
   have h2:=casL_bound g hG0 hB (casesR x) n (fun c hc=>hG x (List.mem_cons_self ..) c (casesR_sub hc)) h0 h1;unfold nodL;split
   ·rename_i h3
    exact⟨h2.1,h2.2.1,fun h=>by rw[h3]at h;cases h⟩
   ·rename_i h3
    exact nodL_bound hG0 hB r _ (fun y hy=>hG y (List.mem_cons_of_mem _ hy)) h2.1 (h2.2.2 (by simpa using h3))
theorem sizeG_bound {d:Nat} {G:Int} (hG0:0≤G) (m:List (NdF β)) (hG:d≤5→∀ x∈m,∀ c∈x.cases,0≤(g c.2 (d+1)).1∧(g c.2 (d+1)).1≤G) (hm:m.length≤1000000000):0≤(sizeG g m d).1∧(sizeG g m d).1≤1000000000+G:=by
 by_cases h6:6≤d∧m≠[]
 ·unfold sizeG;rw[if_pos h6];exact⟨by decide,by show(0:Int)≤_;omega⟩
 ·have h:=nodL_bound g hG0 (B:=1000000000) (by decide) m m.length (fun x hx=>by
   by_cases h5:d≤5
   ·exact hG h5 x hx
   ·exact absurd ⟨by omega,List.ne_nil_of_mem hx⟩ h6) (by omega) (by omega)
  unfold sizeG;rw[if_neg h6];split
  ·exact⟨h.1,h.2.1⟩
  ·exact⟨h.1,h.2.1⟩
theorem nodL_stop {d:Nat} {m:List (NdF β)} {j:Nat} {n:Int} (h:j < m.length) (hs:(casL g d (casesR m[j]) n).2=true):nodL g d (m.drop j) n=casL g d (casesR m[j]) n:=by
 rw[List.drop_eq_getElem_cons h];unfold nodL;rw[if_pos hs]
theorem nodL_next {d:Nat} {m:List (NdF β)} {j:Nat} {n:Int} (h:j < m.length) (hs:(casL g d (casesR m[j]) n).2=false):nodL g d (m.drop j) n=nodL g d (m.drop (j+1)) (casL g d (casesR m[j]) n).1:=by
 rw[List.drop_eq_getElem_cons h];show(if _ then _ else _)=_
 rw[if_neg (by rw[hs];decide)]
theorem casL_stop {d:Nat} {l:List (ByteArray×List β)} {q:Nat} {n:Int} (h:q < l.length) (hs:(g l[q].2 (d+1)).2=true∨60 < n+(g l[q].2 (d+1)).1):casL g d (l.drop q) n=(n+(g l[q].2 (d+1)).1,true):=by
 rw[List.drop_eq_getElem_cons h];unfold casL;rw[if_pos hs]
theorem casL_next {d:Nat} {l:List (ByteArray×List β)} {q:Nat} {n:Int} (h:q < l.length) (hs:¬((g l[q].2 (d+1)).2=true∨60 < n+(g l[q].2 (d+1)).1)):casL g d (l.drop q) n=casL g d (l.drop (q+1)) (n+(g l[q].2 (d+1)).1):=by
 rw[List.drop_eq_getElem_cons h];show(if _ then _ else _)=_
 rw[if_neg hs]
end
set_option maxHeartbeats 6400000 in
set_option maxRecDepth 100000 in
theorem size_walk {β:Type} {E:Enc β} (hE:E.Laws) (g:List β→Nat→Int×Bool) (m:List (NdF β)) (d:Nat) (v:Value) (lo:Nat) (w:World) (hd:d≤6) (hv:ListOk (Enc.nodeF E) w lo w.heap.size v m) (hm:m.length≤1000000000) (hc:∀ x∈m,x.cases.length≤1000000000)
 (hG:d≤5→∀ x∈m,∀ c∈x.cases,0≤(g c.2 (d+1)).1∧(g c.2 (d+1)).1≤20000000000)
 (IH:Hid (d≤5→∀ x∈m,∀ c∈x.cases,∀ W V,Below w.heap.size w W→ListOk E W lo W.heap.size V c.2→Calls Tryz.prog 135 #[V,.int .i64 ((d:Int)+1)] W fun e w'=>e=.returned (.tuple #[.int .i64 (g c.2 (d+1)).1,.bool (g c.2 (d+1)).2])∧Below W.heap.size W w')):
 Calls Tryz.prog 135 #[v,.int .i64 (d:Int)] w fun e w'=>e=.returned (.tuple #[.int .i64 (sizeG g m d).1,.bool (sizeG g m d).2])∧Below w.heap.size w w':=by
 obtain⟨A,c,rfl,_⟩:=hv.form;have HV:Hid (∀ W,Below w.heap.size w W→ListOk (Enc.nodeF E) W lo w.heap.size (.slice A m.length c) m):=hid fun W hW=>hv.below (Enc.nodeF_laws hE) hW;have HR:Hid (sizeG g m d=if 6≤d∧m≠[]then(0,true)else if(nodL g d m m.length).2=true then nodL g d m m.length else((nodL g d m m.length).1,decide (60 < (nodL g d m m.length).1))):=hid rfl
 have HC:=hid hc;have HG:=hid hG;clear hv hc hG
 by_cases h6:6≤d
 ·by_cases h0:m.length=0
  ·obtain rfl:=List.length_eq_zero_iff.1 h0;have HE:Hid (sizeG g ([]:List (NdF β)) d=(0,false)):=hid (by rw[HR.out,if_neg (by simp)];rfl)
   have h6':(6:Int)≤(d:Int):=by omega
   rw[HE.out];clear HV HR HC HG IH
   go_enter Tryz.func135,Tryz.ntmps135
   go_wp2_with fail
   go_loopw [6,8,10,11,12,24] (fun n _ _ _ _ i wr=>n=.int .i64 0∧i=.int .i64 0∧Below w.heap.size w wr) (fun _ _ _ _ _ _ _=>0)
   case atStart=>exact⟨rfl,rfl,Below.refl _ _⟩
   case round=>
    obtain⟨rfl,rfl,hb⟩:=hrel;have HB:=hid hb;clear hb
    go_wp2_with fail
    go_ret2
    exact⟨rfl,HB.out⟩
  ·have HE:Hid (sizeG g m d=(0,true)):=hid (by rw[HR.out,if_pos ⟨h6,fun e=>h0 (by rw[e];rfl)⟩])
   have h6':(6:Int)≤(d:Int):=by omega
   have h0':(0:Int) < (m.length:Int):=by omega
   rw[HE.out];clear HV HR HC HG IH
   go_enter Tryz.func135,Tryz.ntmps135
   go_wp2_with fail
   go_ret2
   exact⟨rfl,Below.refl _ _⟩
 ·have h6':¬((6:Int)≤(d:Int)):=by omega
  have hd5:d≤5:=by omega
  have HI:=hid (IH.out hd5);have HR2:Hid (sizeG g m d=if(nodL g d m m.length).2=true then nodL g d m m.length else((nodL g d m m.length).1,decide (60 < (nodL g d m m.length).1))):=hid (by rw[HR.out,if_neg (fun h=>h6 h.1)])
  clear IH HR
  go_enter Tryz.func135,Tryz.ntmps135
  go_wp2_with fail
  go_loopw [6,8,10,11,12,24] (fun n _ _ _ _ i wr=>∃(j:Nat) (N:Int),j≤m.length∧n=.int .i64 N∧i=.int .i64 (j:Int)∧0≤N∧N≤1000000000∧Hid (nodL g d m m.length=nodL g d (m.drop j) N)∧Below w.heap.size w wr) (fun _ _ _ _ _ i _=>m.length - (intOf i).toNat)
  case atStart=>exact⟨0,m.length,Nat.zero_le _,rfl,rfl,by omega,by omega,hid rfl,Below.refl _ _⟩
  case round=>
   obtain⟨j,N,hj,rfl,rfl,hN0,hN1,HNo,hb⟩:=hrel;have HB:=hid hb;have hbs:=hb.size
   by_cases hlt:j < m.length
   ·have i1:(0:Int)≤(j:Int):=Int.natCast_nonneg j;have i2:(j:Int) < (m.length:Int):=by omega
    have hmem:m[j]∈m:=List.getElem_mem hlt;obtain⟨b0,o0,V,rfl,_,_,x0,x1,x2,x3,hV⟩:=(HV.out _ hb).nodeAt j hlt;have HStop:Hid ((casL g d (casesR m[j]) N).2=true→nodL g d m m.length=casL g d (casesR m[j]) N):=hid fun h=>by rw[HNo.out,nodL_stop g hlt h]
    have HNext:Hid ((casL g d (casesR m[j]) N).2=false→nodL g d m m.length=nodL g d (m.drop (j+1)) (casL g d (casesR m[j]) N).1):=hid fun h=>by rw[HNo.out,nodL_next g hlt h]
    have HIj:Hid (∀ c∈casesR m[j],∀ W V,Below w.heap.size w W→ListOk E W lo W.heap.size V c.2→Calls Tryz.prog 135 #[V,.int .i64 ((d:Int)+1)] W fun e w'=>e=.returned (.tuple #[.int .i64 (g c.2 (d+1)).1,.bool (g c.2 (d+1)).2])∧Below W.heap.size W w'):=hid fun c hc=>HI.out _ hmem c (casesR_sub hc);have HGj:Hid (∀ c∈casesR m[j],0≤(g c.2 (d+1)).1∧(g c.2 (d+1)).1≤20000000000):=hid fun c hc=>HG.out hd5 _ hmem c (casesR_sub hc);have hcl:(casesR m[j]).length≤1000000000:=by
     unfold casesR;split
     ·exact HC.out _ hmem
     ·exact Nat.zero_le _
    obtain⟨VA,Vc,rfl,_⟩:=hV.form;have HVb:Hid (∀ W,Below wr.heap.size wr W→ListOk (Enc.cas E) W lo w.heap.size (.slice VA m[j].cases.length Vc) m[j].cases):=hid fun W hW=>(hV.below (Enc.cas_laws hE) (Fr.below (S:=fun _=>False) (Below.refl _ _) (Fr.of_below hW _) (Nat.le_refl _) (fun _ h=>h.elim) |>.mono hbs));have HCs:=hid (Cases_any (E:=E) m[j] (.slice VA m[j].cases.length Vc) lo w.heap.size (wr.alloc (.cells #[.int .i64 m[j].kind,.string m[j].text,.int .i64 m[j].off,.slice VA m[j].cases.length Vc] 197)) (HVb.out _ ((Below.refl _ _).alloc (Nat.le_refl _) _)));clear hV hmem HVb HNo;generalize m[j]=x at *;obtain⟨y0,y1,y2,y3⟩:=x;dsimp only at x0 x1 x2 x3 HCs;obtain⟨wo,rfl⟩:∃ wo:World,wo=wr:=⟨_,rfl⟩;clear hb
    go_wp2_with fail
    refine HCs.out.mono ?_;clear HCs;rintro e w1 ⟨⟨V',rfl,_,hV'⟩,hb1⟩;have HB1:=hid ((HB.out.alloc hbs _).trans (hb1.mono (by simp;omega)))
    have hV1:ListOk (Enc.cas E) w1 lo w.heap.size V' (casesR (⟨y0,y1,y2,y3⟩:NdF β)):=hV'.keep (Enc.cas_laws hE) ((Alk.of_below hb1).mono (Nat.le_refl _) (by simp;omega))
    generalize casesR (⟨y0,y1,y2,y3⟩:NdF β)=cs at *;obtain⟨CA,Cc,rfl,_⟩:=hV1.form;have HV1:Hid (∀ W,Below w1.heap.size w1 W→ListOk (Enc.cas E) W lo w.heap.size (.slice CA cs.length Cc) cs):=hid fun W hW=>hV1.keep (Enc.cas_laws hE) ((Alk.of_below hW).mono (Nat.le_refl _) HB1.out.size);have hbs1:=HB1.out.size;clear hb1 hV' hV1 x0 x1 x2 x3
    go_wp2_with fail
    go_loopw [6,10,11,12,31] (fun n _ _ _ k wq=>∃(q:Nat) (N':Int),q≤cs.length∧n=.int .i64 N'∧k=.int .i64 (q:Int)∧0≤N'∧N'≤1000000000∧Hid (casL g d cs N=casL g d (cs.drop q) N')∧Below w1.heap.size w1 wq) (fun _ _ _ _ k _=>cs.length - (intOf k).toNat)
    case atStart=>exact⟨0,N,Nat.zero_le _,rfl,rfl,hN0,hN1,hid rfl,Below.refl _ _⟩
    case round=>
     obtain⟨q,N',hq,rfl,rfl,hM0,hM1,HCn,hbq⟩:=hrel;have HBq:=hid hbq;have hbsq:=hbq.size
     by_cases hlq:q < cs.length
     ·have i3:(0:Int)≤(q:Int):=Int.natCast_nonneg q;have i4:(q:Int) < (cs.length:Int):=by omega
      have hmq:cs[q]∈cs:=List.getElem_mem hlq;obtain⟨b1,o1,U,rfl,_,_,z0,z1,hU⟩:=(HV1.out _ hbq).casAt q hlq;have HS2:Hid ((g cs[q].2 (d+1)).2=true∨60 < N'+(g cs[q].2 (d+1)).1→casL g d cs N=(N'+(g cs[q].2 (d+1)).1,true)):=hid fun h=>by rw[HCn.out,casL_stop g hlq h]
      have HN2:Hid (¬((g cs[q].2 (d+1)).2=true∨60 < N'+(g cs[q].2 (d+1)).1)→casL g d cs N=casL g d (cs.drop (q+1)) (N'+(g cs[q].2 (d+1)).1)):=hid fun h=>by rw[HCn.out,casL_next g hlq h]
      have hg:=HGj.out _ hmq;obtain⟨UA,Uc,rfl,_⟩:=hU.form;have HSz:=hid (HIj.out _ hmq (wr.alloc (.cells #[.string cs[q].1,.slice UA cs[q].2.length Uc] 253)) (.slice UA cs[q].2.length Uc) ((HB1.out.trans (hbq.mono hbs1)).alloc (by omega) _) ((hU.keep hE ((Alk.of_below ((Below.refl _ wr).alloc (Nat.le_refl _) _)).mono (Nat.le_refl _) (by omega))).mono hE (Nat.le_refl _) (by simp;omega)))
      clear hU hmq HCn hbq;generalize cs[q]=cc at *;obtain⟨ck,cb⟩:=cc;dsimp only at z0 z1 hg HSz HS2 HN2;generalize g cb (d+1)=r at *;obtain⟨rk,ri⟩:=r;dsimp only at hg HSz HS2 HN2;have hdw:wrap64 ((d:Int)+1)=(d:Int)+1:=by unfold wrap64;omega
      have hnw:wrap64 (N'+rk)=N'+rk:=by unfold wrap64;omega
      go_wp2_with fail
      refine HSz.out.mono ?_;clear HSz;rintro e w3 ⟨rfl,hb3⟩;have HB3:=hid (HBq.out.trans (((Below.refl _ wr).alloc (Nat.le_refl _) _ |>.trans (hb3.mono (by simp))).mono hbsq))
      clear hb3;cases ri with
      | true=>
        have HE:Hid (sizeG g m d=(N'+rk,true)):=hid (by
         have h1:=HS2.out (.inl rfl);have h2:=HStop.out (by rw[h1])
         rw[HR2.out,h2,h1];rfl)
        clear HS2 HN2 HStop HNext HR2
        go_wp2_with fail
        go_ret2
        exact⟨by rw[HE.out];rfl,HB1.out.trans (HB3.out.mono hbs1)⟩
      | false=>
        by_cases h60:60 < N'+rk
        ·have HE:Hid (sizeG g m d=(N'+rk,true)):=hid (by
          have h1:=HS2.out (.inr h60);have h2:=HStop.out (by rw[h1])
          rw[HR2.out,h2,h1];rfl)
         clear HS2 HN2 HStop HNext HR2
         go_wp2_with fail
         go_ret2
         exact⟨by rw[HE.out];rfl,HB1.out.trans (HB3.out.mono hbs1)⟩
        ·have HNn:=hid (HN2.out (fun h=>by rcases h with h|h;cases h;exact h60 h))
         clear HS2 HN2
         go_wp2_with fail
         go_roundw
         case rel=>exact⟨q+1,N'+rk,by omega,by go_num,by go_num,by omega,by omega,HNn,HB3.out⟩
         case measure=>simp[intOf];omega
     ·obtain rfl:q=cs.length:=by omega
      have h1:casL g d cs N=(N',false):=by rw[HCn.out,List.drop_length];rfl
      have HNn:Hid (nodL g d m m.length=nodL g d (m.drop (j+1)) N'):=hid (by rw[HNext.out (by rw[h1]),h1])
      clear hbq HCn h1 HNext HStop
      go_wp2_with fail
      go_roundw
      case rel=>exact⟨j+1,N',by omega,rfl,by go_num,hM0,hM1,HNn,HB1.out.trans (HBq.out.mono hbs1)⟩
      case measure=>simp[intOf];omega
   ·obtain rfl:j=m.length:=by omega
    have HE:Hid (nodL g d m m.length=(N,false)):=hid (by rw[HNo.out,List.drop_length];rfl)
    have HE2:Hid (sizeG g m d=(N,decide (60 < N))):=hid (by rw[HR2.out,HE.out];rfl)
    clear hb HNo HE HR2
    go_wp2_with fail
    go_ret2
    exact⟨by rw[HE2.out];rfl,HB.out⟩
end Go.Proofs.YtagfnpdoooachaaGreatDoor
