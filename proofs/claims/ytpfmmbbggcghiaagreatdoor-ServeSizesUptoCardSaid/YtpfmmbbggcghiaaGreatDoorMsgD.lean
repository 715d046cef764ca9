/- msg.size. -/
import Derived.Test.YtpfmmbbggcghiaaGreatDoorLexP
import Derived.Test.YtpfmmbbggcghiaaGreatDoorTrim
import Derived.Maps.AppendAt
import Derived.Deep.Upon
namespace Go.Proofs.YtpfmmbbggcghiaaGreatDoor
open Go.RowKit
section
variable {β:Type} (g:List β→Nat→Int×Bool)
def casL (d:Nat):List (ByteArray×List β)→Int→Int×Bool
 | [],n=>(n,false)
 | c::r,n=>if(g c.2 (d+1)).2=true∨60 < n+(g c.2 (d+1)).1 then(n+(g c.2 (d+1)).1,true)else casL d r (n+(g c.2 (d+1)).1)
def nodL (d:Nat):List (NdF β)→Int→Int×Bool
 | [],n=>(n,false)
 | x::r,n=>if(casL g d (casesR x) n).2=true then casL g d (casesR x) n else nodL d r (casL g d (casesR x) n).1
def sizeG (m:List (NdF β)) (d:Nat):Int×Bool:=
 if 6≤d∧m≠[]then(0,true)else if(nodL g d m m.length).2=true then nodL g d m m.length else((nodL g d m m.length).1,decide (60 < (nodL g d m m.length).1))
theorem casL_bound {d:Nat} {G B:Int} (hG0:0≤G) (hB:60≤B):∀(l:List (ByteArray×List β)) (n:Int),(∀ c∈l,0≤(g c.2 (d+1)).1∧(g c.2 (d+1)).1≤G)→0≤n→n≤B→0≤(casL g d l n).1∧(casL g d l n).1≤B+G∧((casL g d l n).2=false→(casL g d l n).1≤B)
 | [],n,_,h0,h1=>⟨h0,by show n≤_;omega,fun _=>h1⟩
 | c::r,n,hG,h0,h1=>by
   have h2:=hG c (List.mem_cons_self ..);unfold casL;split
   ·exact⟨by show 0≤n+_;omega,by show n+_≤_;omega,fun h=>by cases h⟩
   ·rename_i h3
    exact casL_bound hG0 hB r _ (fun c hc=>hG c (List.mem_cons_of_mem _ hc)) (by omega) (by omega)
theorem casesR_sub {x:NdF β} {c:ByteArray×List β} (h:c∈casesR x):c∈x.cases:=by
 unfold casesR at h;split at h
 ·exact h
 ·cases h
theorem nodL_bound {d:Nat} {G B:Int} (hG0:0≤G) (hB:60≤B):∀(l:List (NdF β)) (n:Int),(∀ x∈l,∀ c∈x.cases,0≤(g c.2 (d+1)).1∧(g c.2 (d+1)).1≤G)→0≤n→n≤B→0≤(nodL g d l n).1∧(nodL g d l n).1≤B+G∧((nodL g d l n).2=false→(nodL g d l n).1≤B)
 | [],n,_,h0,h1=>⟨h0,by show n≤_;omega,fun _=>h1⟩
 | x::r,n,hG,h0,h1=>by
   have h2:=casL_bound g hG0 hB (casesR x) n (fun c hc=>hG x (List.mem_cons_self ..) c (casesR_sub hc)) h0 h1;unfold nodL;split
   ·rename_i h3
    exact⟨h2.1,h2.2.1,fun h=>by rw[h3]at h;cases h⟩
   ·rename_i h3
    exact nodL_bound hG0 hB r _ (fun y hy=>hG y (List.mem_cons_of_mem _ hy)) h2.1 (h2.2.2 (by simpa using h3))
theorem sizeG_bound {d:Nat} {G:Int} (hG0:0≤G) (m:List (NdF β)) (hG:d≤5→∀ x∈m,∀ c∈x.cases,0≤(g c.2 (d+1)).1∧(g c.2 (d+1)).1≤G) (hm:m.length≤1000000000):0≤(sizeG g m d).1∧(sizeG g m d).1≤1000000000+G:=by
 by_cases h6:6≤d∧m≠[]
 ·unfold sizeG;rw[if_pos h6];exact⟨by decide,by show(0:Int)≤_;omega⟩
 ·have h:=nodL_bound g hG0 (B:=1000000000) (by decide) m m.length (fun x hx=>by
   by_cases h5:d≤5
   ·exact hG h5 x hx
   ·exact absurd ⟨by omega,List.ne_nil_of_mem hx⟩ h6) (by omega) (by omega)
  unfold sizeG;rw[if_neg h6];split
  ·exact⟨h.1,h.2.1⟩
  ·exact⟨h.1,h.2.1⟩
theorem nodL_stop {d:Nat} {m:List (NdF β)} {j:Nat} {n:Int} (h:j < m.length) (hs:(casL g d (casesR m[j]) n).2=true):nodL g d (m.drop j) n=casL g d (casesR m[j]) n:=by
 rw[List.drop_eq_getElem_cons h];unfold nodL;rw[if_pos hs]
theorem nodL_next {d:Nat} {m:List (NdF β)} {j:Nat} {n:Int} (h:j < m.length) (hs:(casL g d (casesR m[j]) n).2=false):nodL g d (m.drop j) n=nodL g d (m.drop (j+1)) (casL g d (casesR m[j]) n).1:=by
 rw[List.drop_eq_getElem_cons h];show(if _ then _ else _)=_
 rw[if_neg (by rw[hs];decide)]
theorem casL_stop {d:Nat} {l:List (ByteArray×List β)} {q:Nat} {n:Int} (h:q < l.length) (hs:(g l[q].2 (d+1)).2=true∨60 < n+(g l[q].2 (d+1)).1):casL g d (l.drop q) n=(n+(g l[q].2 (d+1)).1,true):=by
 rw[List.drop_eq_getElem_cons h];unfold casL;rw[if_pos hs]
theorem casL_next {d:Nat} {l:List (ByteArray×List β)} {q:Nat} {n:Int} (h:q < l.length) (hs:¬((g l[q].2 (d+1)).2=true∨60 < n+(g l[q].2 (d+1)).1)):casL g d (l.drop q) n=casL g d (l.drop (q+1)) (n+(g l[q].2 (d+1)).1):=by
 rw[List.drop_eq_getElem_cons h];show(if _ then _ else _)=_
 rw[if_neg hs]
end
set_option maxHeartbeats 6400000 in
set_option maxRecDepth 100000 in
theorem size_walk {β:Type} {E:Enc β} (hE:E.Laws) (g:List β→Nat→Int×Bool) (m:List (NdF β)) (d:Nat) (v:Value) (lo:Nat) (w:World) (hd:d≤6) (hv:ListOk (Enc.nodeF E) w lo w.heap.size v m) (hm:m.length≤1000000000) (hc:∀ x∈m,x.cases.length≤1000000000)
 (hG:d≤5→∀ x∈m,∀ c∈x.cases,0≤(g c.2 (d+1)).1∧(g c.2 (d+1)).1≤20000000000)
 (IH:Hid (d≤5→∀ x∈m,∀ c∈x.cases,∀ W V,Below w.heap.size w W→ListOk E W lo W.heap.size V c.2→Calls Tryz.prog 77 #[V,.int .i64 ((d:Int)+1)] W fun e w'=>e=.returned (.tuple #[.int .i64 (g c.2 (d+1)).1,.bool (g c.2 (d+1)).2])∧Below W.heap.size W w')):
 Calls Tryz.prog 77 #[v,.int .i64 (d:Int)] w fun e w'=>e=.returned (.tuple #[.int .i64 (sizeG g m d).1,.bool (sizeG g m d).2])∧Below w.heap.size w w':=by
 obtain⟨A,c,rfl,_⟩:=hv.form;have HV:Hid (∀ W,Below w.heap.size w W→ListOk (Enc.nodeF E) W lo w.heap.size (.slice A m.length c) m):=Lib.hid fun W hW=>hv.below (Enc.nodeF_laws hE) hW;have HR:Hid (sizeG g m d=if 6≤d∧m≠[]then(0,true)else if(nodL g d m m.length).2=true then nodL g d m m.length else((nodL g d m m.length).1,decide (60 < (nodL g d m m.length).1))):=Lib.hid rfl
 have HC:=Lib.hid hc;have HG:=Lib.hid hG;clear hv hc hG
 by_cases h6:6≤d
 ·by_cases h0:m.length=0
  ·obtain rfl:=List.length_eq_zero_iff.1 h0;have HE:Hid (sizeG g ([]:List (NdF β)) d=(0,false)):=Lib.hid (by rw[HR.out,if_neg (by simp)];rfl)
   have h6':(6:Int)≤(d:Int):=by omega
   rw[HE.out];clear HV HR HC HG IH
   go_enter Tryz.func77,Tryz.ntmps77
   go_wp2_with fail
   go_loopw [6,8,10,11,12,24] (fun n _ _ _ _ i wr=>n=.int .i64 0∧i=.int .i64 0∧Below w.heap.size w wr) (fun _ _ _ _ _ _ _=>0)
   case atStart=>exact⟨rfl,rfl,Below.refl _ _⟩
   case round=>
    obtain⟨rfl,rfl,hb⟩:=hrel;have HB:=Lib.hid hb;clear hb
    go_wp2_with fail
    go_ret2
    exact⟨rfl,HB.out⟩
  ·have HE:Hid (sizeG g m d=(0,true)):=Lib.hid (by rw[HR.out,if_pos ⟨h6,fun e=>h0 (by rw[e];rfl)⟩])
   have h6':(6:Int)≤(d:Int):=by omega
   have h0':(0:Int) < (m.length:Int):=by omega
   rw[HE.out];clear HV HR HC HG IH
   go_enter Tryz.func77,Tryz.ntmps77
   go_wp2_with fail
   go_ret2
   exact⟨rfl,Below.refl _ _⟩
 ·have h6':¬((6:Int)≤(d:Int)):=by omega
  have hd5:d≤5:=by omega
  have HI:=Lib.hid (IH.out hd5);have HR2:Hid (sizeG g m d=if(nodL g d m m.length).2=true then nodL g d m m.length else((nodL g d m m.length).1,decide (60 < (nodL g d m m.length).1))):=Lib.hid (by rw[HR.out,if_neg (fun h=>h6 h.1)])
  clear IH HR
  go_enter Tryz.func77,Tryz.ntmps77
  go_wp2_with fail
  go_loopw [6,8,10,11,12,24] (fun n _ _ _ _ i wr=>∃(j:Nat) (N:Int),j≤m.length∧n=.int .i64 N∧i=.int .i64 (j:Int)∧0≤N∧N≤1000000000∧Hid (nodL g d m m.length=nodL g d (m.drop j) N)∧Below w.heap.size w wr) (fun _ _ _ _ _ i _=>m.length - (intOf i).toNat)
  case atStart=>exact⟨0,m.length,Nat.zero_le _,rfl,rfl,by omega,by omega,Lib.hid rfl,Below.refl _ _⟩
  case round=>
   obtain⟨j,N,hj,rfl,rfl,hN0,hN1,HNo,hb⟩:=hrel;have HB:=Lib.hid hb;have hbs:=hb.size
   by_cases hlt:j < m.length
   ·have i1:(0:Int)≤(j:Int):=Int.natCast_nonneg j;have i2:(j:Int) < (m.length:Int):=by omega
    have hmem:m[j]∈m:=List.getElem_mem hlt;obtain⟨b0,o0,V,rfl,_,_,x0,x1,x2,x3,hV⟩:=(HV.out _ hb).nodeAt j hlt;have HStop:Hid ((casL g d (casesR m[j]) N).2=true→nodL g d m m.length=casL g d (casesR m[j]) N):=Lib.hid fun h=>by rw[HNo.out,nodL_stop g hlt h]
    have HNext:Hid ((casL g d (casesR m[j]) N).2=false→nodL g d m m.length=nodL g d (m.drop (j+1)) (casL g d (casesR m[j]) N).1):=Lib.hid fun h=>by rw[HNo.out,nodL_next g hlt h]
    have HIj:Hid (∀ c∈casesR m[j],∀ W V,Below w.heap.size w W→ListOk E W lo W.heap.size V c.2→Calls Tryz.prog 77 #[V,.int .i64 ((d:Int)+1)] W fun e w'=>e=.returned (.tuple #[.int .i64 (g c.2 (d+1)).1,.bool (g c.2 (d+1)).2])∧Below W.heap.size W w'):=Lib.hid fun c hc=>HI.out _ hmem c (casesR_sub hc);have HGj:Hid (∀ c∈casesR m[j],0≤(g c.2 (d+1)).1∧(g c.2 (d+1)).1≤20000000000):=Lib.hid fun c hc=>HG.out hd5 _ hmem c (casesR_sub hc);have hcl:(casesR m[j]).length≤1000000000:=by
     unfold casesR;split
     ·exact HC.out _ hmem
     ·exact Nat.zero_le _
    obtain⟨VA,Vc,rfl,_⟩:=hV.form;have HVb:Hid (∀ W,Below wr.heap.size wr W→ListOk (Enc.cas E) W lo w.heap.size (.slice VA m[j].cases.length Vc) m[j].cases):=Lib.hid fun W hW=>(hV.below (Enc.cas_laws hE) (Fr.below (S:=fun _=>False) (Below.refl _ _) (Fr.of_below hW _) (Nat.le_refl _) (fun _ h=>h.elim) |>.mono hbs));have HCs:=Lib.hid (Cases_any (E:=E) m[j] (.slice VA m[j].cases.length Vc) lo w.heap.size (wr.alloc (.cells #[.int .i64 m[j].kind,.string m[j].text,.int .i64 m[j].off,.slice VA m[j].cases.length Vc] 126)) (HVb.out _ ((Below.refl _ _).alloc (Nat.le_refl _) _)));clear hV hmem HVb HNo;generalize m[j]=x at *;obtain⟨y0,y1,y2,y3⟩:=x;dsimp only at x0 x1 x2 x3 HCs;obtain⟨wo,rfl⟩:∃ wo:World,wo=wr:=⟨_,rfl⟩;clear hb
    go_wp2_with fail
    refine HCs.out.mono ?_;clear HCs;rintro e w1 ⟨⟨V',rfl,_,hV'⟩,hb1⟩;have HB1:=Lib.hid ((HB.out.alloc hbs _).trans (hb1.mono (by simp;omega)))
    have hV1:ListOk (Enc.cas E) w1 lo w.heap.size V' (casesR (⟨y0,y1,y2,y3⟩:NdF β)):=hV'.keep (Enc.cas_laws hE) ((Alk.of_below hb1).mono (Nat.le_refl _) (by simp;omega))
    generalize casesR (⟨y0,y1,y2,y3⟩:NdF β)=cs at *;obtain⟨CA,Cc,rfl,_⟩:=hV1.form;have HV1:Hid (∀ W,Below w1.heap.size w1 W→ListOk (Enc.cas E) W lo w.heap.size (.slice CA cs.length Cc) cs):=Lib.hid fun W hW=>hV1.keep (Enc.cas_laws hE) ((Alk.of_below hW).mono (Nat.le_refl _) HB1.out.size);have hbs1:=HB1.out.size;clear hb1 hV' hV1 x0 x1 x2 x3
    go_wp2_with fail
    go_loopw [6,10,11,12,31] (fun n _ _ _ k wq=>∃(q:Nat) (N':Int),q≤cs.length∧n=.int .i64 N'∧k=.int .i64 (q:Int)∧0≤N'∧N'≤1000000000∧Hid (casL g d cs N=casL g d (cs.drop q) N')∧Below w1.heap.size w1 wq) (fun _ _ _ _ k _=>cs.length - (intOf k).toNat)
    case atStart=>exact⟨0,N,Nat.zero_le _,rfl,rfl,hN0,hN1,Lib.hid rfl,Below.refl _ _⟩
    case round=>
     obtain⟨q,N',hq,rfl,rfl,hM0,hM1,HCn,hbq⟩:=hrel;have HBq:=Lib.hid hbq;have hbsq:=hbq.size
     by_cases hlq:q < cs.length
     ·have i3:(0:Int)≤(q:Int):=Int.natCast_nonneg q;have i4:(q:Int) < (cs.length:Int):=by omega
      have hmq:cs[q]∈cs:=List.getElem_mem hlq;obtain⟨b1,o1,U,rfl,_,_,z0,z1,hU⟩:=(HV1.out _ hbq).casAt q hlq;have HS2:Hid ((g cs[q].2 (d+1)).2=true∨60 < N'+(g cs[q].2 (d+1)).1→casL g d cs N=(N'+(g cs[q].2 (d+1)).1,true)):=Lib.hid fun h=>by rw[HCn.out,casL_stop g hlq h]
      have HN2:Hid (¬((g cs[q].2 (d+1)).2=true∨60 < N'+(g cs[q].2 (d+1)).1)→casL g d cs N=casL g d (cs.drop (q+1)) (N'+(g cs[q].2 (d+1)).1)):=Lib.hid fun h=>by rw[HCn.out,casL_next g hlq h]
      have hg:=HGj.out _ hmq;obtain⟨UA,Uc,rfl,_⟩:=hU.form;have HSz:=Lib.hid (HIj.out _ hmq (wr.alloc (.cells #[.string cs[q].1,.slice UA cs[q].2.length Uc] 189)) (.slice UA cs[q].2.length Uc) ((HB1.out.trans (hbq.mono hbs1)).alloc (by omega) _) ((hU.keep hE ((Alk.of_below ((Below.refl _ wr).alloc (Nat.le_refl _) _)).mono (Nat.le_refl _) (by omega))).mono hE (Nat.le_refl _) (by simp;omega)))
      clear hU hmq HCn hbq;generalize cs[q]=cc at *;obtain⟨ck,cb⟩:=cc;dsimp only at z0 z1 hg HSz HS2 HN2;generalize g cb (d+1)=r at *;obtain⟨rk,ri⟩:=r;dsimp only at hg HSz HS2 HN2;have hdw:wrap64 ((d:Int)+1)=(d:Int)+1:=by unfold wrap64;omega
      have hnw:wrap64 (N'+rk)=N'+rk:=by unfold wrap64;omega
      go_wp2_with fail
      refine HSz.out.mono ?_;clear HSz;rintro e w3 ⟨rfl,hb3⟩;have HB3:=Lib.hid (HBq.out.trans (((Below.refl _ wr).alloc (Nat.le_refl _) _ |>.trans (hb3.mono (by simp))).mono hbsq))
      clear hb3;cases ri with
      | true=>
        have HE:Hid (sizeG g m d=(N'+rk,true)):=Lib.hid (by
         have h1:=HS2.out (.inl rfl);have h2:=HStop.out (by rw[h1])
         rw[HR2.out,h2,h1];rfl)
        clear HS2 HN2 HStop HNext HR2
        go_wp2_with fail
        go_ret2
        exact⟨by rw[HE.out];rfl,HB1.out.trans (HB3.out.mono hbs1)⟩
      | false=>
        by_cases h60:60 < N'+rk
        ·have HE:Hid (sizeG g m d=(N'+rk,true)):=Lib.hid (by
          have h1:=HS2.out (.inr h60);have h2:=HStop.out (by rw[h1])
          rw[HR2.out,h2,h1];rfl)
         clear HS2 HN2 HStop HNext HR2
         go_wp2_with fail
         go_ret2
         exact⟨by rw[HE.out];rfl,HB1.out.trans (HB3.out.mono hbs1)⟩
        ·have HNn:=Lib.hid (HN2.out (fun h=>by rcases h with h|h;cases h;exact h60 h))
         clear HS2 HN2
         go_wp2_with fail
         go_roundw
         case rel=>exact⟨q+1,N'+rk,by omega,by go_num,by go_num,by omega,by omega,HNn,HB3.out⟩
         case measure=>simp[intOf];omega
     ·obtain rfl:q=cs.length:=by omega
      have h1:casL g d cs N=(N',false):=by rw[HCn.out,List.drop_length];rfl
      have HNn:Hid (nodL g d m m.length=nodL g d (m.drop (j+1)) N'):=Lib.hid (by rw[HNext.out (by rw[h1]),h1])
      clear hbq HCn h1 HNext HStop
      go_wp2_with fail
      go_roundw
      case rel=>exact⟨j+1,N',by omega,rfl,by go_num,hM0,hM1,HNn,HB1.out.trans (HBq.out.mono hbs1)⟩
      case measure=>simp[intOf];omega
   ·obtain rfl:j=m.length:=by omega
    have HE:Hid (nodL g d m m.length=(N,false)):=Lib.hid (by rw[HNo.out,List.drop_length];rfl)
    have HE2:Hid (sizeG g m d=(N,decide (60 < N))):=Lib.hid (by rw[HR2.out,HE.out];rfl)
    clear hb HNo HE HR2
    go_wp2_with fail
    go_ret2
    exact⟨by rw[HE2.out];rfl,HB.out⟩
end Go.Proofs.YtpfmmbbggcghiaaGreatDoor
/- Rows of tags that a call owns: each tag's variants in a block of their own. -/

namespace Go.Proofs.YtpfmmbbggcghiaaGreatDoor
open Go.RowKit
section
variable {w w':World} {base base':Nat} {e:TypeId} {size:Nat} {v:Value} {n:Nat} {xs:List Value}
theorem own_keep (h:w.ownsRow base e size v n xs) (k:∀ g,v.ownBlock=some g→g < w.heap.size→w'.heap[g]? =w.heap[g]?):w'.ownsRow base e size v n xs:=by
 obtain⟨h1,h2|⟨g,cap,cur,hv,hb,hg,r⟩⟩:=h
 ·exact⟨h1,.inl h2⟩
 ·exact⟨h1,.inr ⟨g,cap,cur,hv,hb,(k g (by rw[hv];rfl) (Blk.lt (t:=e) (cs:=cur) hg)).trans hg,r⟩⟩
theorem own_lt (h:w.ownsRow base e size v n xs) {g:Nat} (hg:v.ownBlock=some g):base≤g∧g < w.heap.size:=by
 obtain⟨h1,⟨h2,_⟩|⟨g',cap,cur,hv,hb,hh,r⟩⟩:=h
 ·rw[h2]at hg;cases hg
 ·rw[hv]at hg;injection hg with hg;subst hg;exact⟨hb,Blk.lt (t:=e) (cs:=cur) hh⟩
theorem own_slice (h:w.ownsRow base e size v n xs):∃ A cap,v=.slice A n cap∧n≤cap:=by
 obtain⟨h1,⟨h2,h3⟩|⟨g',cap,cur,hv,hb,hh,hc,r⟩⟩:=h
 ·exact⟨none,0,by rw[h2,h3],by omega⟩
 ·exact⟨_,cap,hv,hc⟩
theorem own_below {B:Nat} (h:w.ownsRow base e size v n xs) (k:Below B w w') (hB:w.heap.size≤B):w'.ownsRow base e size v n xs:=
 own_keep h fun g _ hg=>k.block g (by omega)
theorem own_types {e':TypeId} {size' n':Nat} {v':Value} {xs':List Value} (h:w.ownsRow base e size v n xs) (h':w.ownsRow base' e' size' v' n' xs') (hne:e≠e') {g:Nat} (hg:v.ownBlock=some g):v'.ownBlock≠some g:=by
 intro hg';obtain⟨_,⟨h2,_⟩|⟨g1,cap,cur,hv,hb,hh,r⟩⟩:=h
 ·rw[h2]at hg;cases hg
 ·obtain⟨_,⟨h2',_⟩|⟨g2,cap',cur',hv',hb',hh',r'⟩⟩:=h'
  ·rw[h2']at hg';cases hg'
  ·rw[hv]at hg;injection hg with hg;subst hg;rw[hv']at hg';injection hg' with hg';subst hg';rw[hh]at hh';injection hh' with hh';injection hh' with _ hh';exact hne hh'
end
def tagCells (p:Tg×Value):List Value:=[.string p.1.lang,.string p.1.script,.string p.1.region,p.2]
def flatT (l:List (Tg×Value)):List Value:=l.flatMap tagCells
theorem flatT_at (l:List (Tg×Value)) (i:Nat) (h:i < l.length):((flatT l).drop (i*4)).take 4=tagCells l[i]:=by
 induction l generalizing i with
 | nil=>cases h
 | cons p l ih=>
   show((tagCells p++flatT l).drop (i*4)).take 4=_;cases i with
   | zero=>simp[tagCells]
   | succ i=>
     rw[show(i+1)*4=(tagCells p).length+i*4 from by simp[tagCells];omega,List.drop_append,List.drop_eq_nil_of_le (Nat.le_add_right _ _),Nat.add_sub_cancel_left]
     exact ih i (by simpa using h)
def VarRow (base:Nat) (w:World) (p:Tg×Value):Prop:=w.ownsRow base 9 1 p.2 p.1.vars.length (p.1.vars.map .string)
def Apart (a b:Tg×Value):Prop:=0 < b.1.vars.length→∀ g,a.2.ownBlock=some g→b.2.ownBlock≠some g
structure Rowed (base:Nat) (w:World) (u:Value) (ps:List (Tg×Value)):Prop where
 own:w.ownsRow base 44 4 u ps.length (flatT ps)
 vars:∀ p∈ps,VarRow base w p
 apart:ps.Pairwise Apart
def TagRow (base:Nat) (w:World) (u:Value) (l:List Tg):Prop:=∃ ps,ps.map Prod.fst=l∧Rowed base w u ps
theorem Rowed.keep {base:Nat} {w w':World} {u:Value} {ps:List (Tg×Value)} (h:Rowed base w u ps) (k:∀ g,base≤g→g < w.heap.size→w'.heap[g]? =w.heap[g]?):Rowed base w' u ps:=
 ⟨own_keep h.own fun g hg hlt=>k g (own_lt h.own hg).1 hlt,fun p hp=>own_keep (h.vars p hp) fun g hg hlt=>k g (own_lt (h.vars p hp) hg).1 hlt,h.apart⟩
theorem Rowed.below {base B:Nat} {w w':World} {u:Value} {ps:List (Tg×Value)} (h:Rowed base w u ps) (k:Below B w w') (hB:w.heap.size≤B):Rowed base w' u ps:=
 h.keep fun g _ hlt=>k.block g (by omega)
theorem VarRow.list {base lo hi:Nat} {w:World} {p:Tg×Value} (h:VarRow base w p) (hb:lo≤base) (hs:w.heap.size≤hi):ListOk Enc.str w lo hi p.2 p.1.vars:=ListOk.strs_of_own h hb hs
theorem Rowed.list {base lo hi:Nat} {w:World} {u:Value} {ps:List (Tg×Value)} (h:Rowed base w u ps) (hb:lo≤base) (hs:w.heap.size≤hi):ListOk Enc.tag w lo hi u (ps.map Prod.fst):=by
 have h1:=h.own;have e1:ps.length=(ps.map Prod.fst).length:=by simp
 rw[e1]at h1;refine ListOk.of_own (E:=Enc.tag) h1 hb hs fun i hl=> ?_;have hl':i < ps.length:=by simpa using hl
 refine⟨ps[i].2,?_,?_⟩
 ·rw[show Enc.tag.sz=4 from rfl,flatT_at ps i hl'];simp[tagCells]
 rw[List.getElem_map];exact(h.vars _ (List.getElem_mem hl')).list hb hs
theorem TagRow.list {base lo hi:Nat} {w:World} {u:Value} {l:List Tg} (h:TagRow base w u l) (hb:lo≤base) (hs:w.heap.size≤hi):ListOk Enc.tag w lo hi u l:=by
 obtain⟨ps,rfl,h⟩:=h;exact h.list hb hs
theorem ListOk.drop {α:Type} {E:Enc α} {w:World} {lo hi:Nat} {b o n c:Nat} {l:List α} (h:ListOk E w lo hi (.slice (some ⟨b,o,none⟩) n c) l) (k:Nat) (hk:k≤l.length) (c':Nat) (hc':l.length - k≤c'):
 ListOk E w lo hi (.slice (some ⟨b,o+k*E.sz,none⟩) (l.length - k) c') (l.drop k):=by
 obtain⟨A',c1,hv,hc,hi⟩:=h;injection hv with hv1 hv2 hv3;subst hv1;have hl:(l.drop k).length=l.length - k:=by simp
 refine⟨_,c',by rw[hl],by omega,fun i h=> ?_⟩
 obtain⟨b',o',cs,hA,g1,g2,g3,g4⟩:=hi (k+i) (by omega)
 injection hA with hA;injection hA with e1 e2;subst e1;subst e2;refine⟨b,o+k*E.sz,cs,rfl,g1,g2,?_,by simpa using g4⟩
 rw[Nat.add_mul,←Nat.add_assoc]at g3;exact g3
end Go.Proofs.YtpfmmbbggcghiaaGreatDoor
/- append of a list that may be empty, to a row of the call's own. -/

namespace Go.Proofs.YtpfmmbbggcghiaaGreatDoor
open Go.RowKit
theorem wpList_append_any {P:Program} {w:World} {ops:Array Oper} {rest:List Oper} {o:Oper} {a:Act} {Q:Exit→Act→World→Prop} (hgd:o.guard=none) (s x:Operand) (t:TypeId)
 (ho:o.op=.call { callee:=.builtin .append,args:=#[s,x],argTypes:=#[t,t] })
 (base:Nat) (e:TypeId) {z:Value} {size bytes:Nat} (ht:P.underlying t=some (.slice e)) (hi:(P.info? e).map (fun i=>(i.zero,i.size,i.bytes))=some (some z,size,bytes))
 (hzs:z.cells.size=size) (hsz:0 < size)
 {v:Value} {n:Nat} (xs:List Value) (hs:a.eval s=v) (hown:w.ownsRow base e size v n xs)
 {A:Option Addr} {m c:Nat} (news:List Value) (hx:a.eval x=.slice A m c) (hl:news.length=m*size)
 (hnews:m=0∨∃ b o,A=some ⟨b,o,none⟩∧∀ j u,news[j]? =some u→w.cell? ⟨b,o+j,none⟩=some u) (h1:∀ u∈news,u.oneCell'=true)
 (h63:n+m≤maxLen) (hbytes:(n+m)*bytes≤140737488355328) (hbase:base≤w.heap.size)
 (h:∀ v' w',w'.ownsRow base e size v' (n+m) (xs++news)→w.grownBy w' v.ownBlock→(v'.ownBlock=v.ownBlock∨v'.ownBlock=some w.heap.size)→wpList P ops Q rest (a.put o.dst v') w'):
 wpList P ops Q (o::rest) a w:=by
 obtain⟨i,hi,hz0,hz1,hz2⟩:=info_parts hi
 by_cases hm:m=0
 ·subst hm;have hnil:news=[]:=List.length_eq_zero_iff.1 (by omega)
  subst hnil;refine wpList_plain hgd fun K hK=> ?_;have hh:=h v w (by simpa using hown) (World.grownBy.refl _ _) (.inl rfl)
  obtain⟨B,cap,rfl,hcap⟩:=own_slice hown;have hS:Src P i.size t (.slice A 0 c) 0 [] w:=by
   cases A with
   | none=>exact Src.ofNil w ht c
   | some ad=>exact Src.ofSlice w ht ad 0 c [] (by simp) (fun j u hj=>by simp at hj) (fun u hu=>by cases hu)
  have hrun:=run_append_nothing (P:=P) w t t o.type e i ht hi B n cap hcap _ hS;unfold Oper.wp execOp;simp only[ho,resolve,invoke,builtin,Sem.run_bind,Sem.run_pure,Result.andThen_ok,List.map_toArray,List.map_cons,List.map_nil,hs,hx,hrun];exact hK _ _ hh
 ·rcases hnews with h0|⟨b,o',rfl,hc⟩
  ·exact absurd h0 hm
  refine wpList_append_own_at (P:=P) w hgd s x t ho base e i z size bytes ht hi hz0 hz1 hz2 hzs hsz v n xs hs hown ⟨b,o',none⟩ m c news hx hl (fun j u hj=> ?_) h1 h63 hbytes hbase fun v' w' p1 p2 _ p4=>h v' w' p1 p2 p4;have e1:((⟨b,o',none⟩:Addr).add j)=⟨b,o'+j,none⟩:=by
   unfold Addr.add
   by_cases h0:j=0
   ·rw[if_pos h0,h0];rfl
   ·rw[if_neg h0]
  rw[e1];exact hc j u hj
theorem own_nil {w:World} {base:Nat} {e:TypeId} {size:Nat}:w.ownsRow base e size (.slice none 0 0) 0 []:=⟨by simp,.inl ⟨rfl,rfl⟩⟩
theorem news_strs {w:World} {lo hi:Nat} {A:Option Addr} {c:Nat} {l:List ByteArray} (h:ListOk Enc.str w lo hi (.slice A l.length c) l):
 l.length=0∨∃ b o,A=some ⟨b,o,none⟩∧∀ j u,(l.map Value.string)[j]? =some u→w.cell? ⟨b,o+j,none⟩=some u:=by
 by_cases h0:l.length=0
 ·exact .inl h0
 ·obtain⟨b,o,rfl,_,_,_⟩:=h.strAt 0 (by omega)
  refine .inr ⟨b,o,rfl,fun j u hj=> ?_⟩;rw[List.getElem?_map]at hj;cases hq:l[j]? with
  | none=>rw[hq]at hj;cases hj
  | some y=>
    rw[hq]at hj;simp only[Option.map_some,Option.some.injEq]at hj;subst hj;obtain⟨hjl,rfl⟩:=List.getElem?_eq_some_iff.1 hq;obtain⟨b',o',he,_,_,hc⟩:=h.strAt j hjl;injection he with he;injection he with e1 e2;subst e1;subst e2;exact hc
theorem strs_oneCell (l:List ByteArray):∀ u∈l.map Value.string,u.oneCell'=true:=by
 intro u hu;obtain⟨y,_,rfl⟩:=List.mem_map.1 hu
 rfl
end Go.Proofs.YtpfmmbbggcghiaaGreatDoor
/- msg.size at any depth; msg.cases and msg.check. -/

namespace Go.Proofs.YtpfmmbbggcghiaaGreatDoor
open Go.RowKit
def smallF {β:Type} (S:β→Prop) (x:NdF β):Prop:=x.text.size≤1000000000∧x.cases.length≤10000000∧∀ c∈x.cases,c.1.size≤1000000000∧c.2.length≤10000000∧∀ y∈c.2,S y
def SmallN:(n:Nat)→Nd n→Prop
 | 0,_=>True
 | n+1,x=>smallF (SmallN n) x
structure MsgIn (n:Nat) (m:List (Nd n)):Prop where
 len:m.length≤10000000
 each:∀ x∈m,SmallN n x
theorem MsgIn.body {n:Nat} {m:List (Nd (n+1))} (h:MsgIn (n+1) m) {x:NdF (Nd n)} (hx:x∈(m:List (NdF (Nd n)))) {c:ByteArray×List (Nd n)} (hc:c∈x.cases):MsgIn n c.2:=by
 have h1:smallF (SmallN n) x:=h.each x hx;exact⟨(h1.2.2 c hc).2.1,(h1.2.2 c hc).2.2⟩
def sizeN:(n:Nat)→List (Nd n)→Nat→Int×Bool
 | 0,_,_=>(0,false)
 | n+1,m,d=>sizeG (sizeN n) (m:List (NdF (Nd n))) d
theorem empty_list:∀(m:List (Nd 0)),m=[]
 | []=>rfl
 | x::_=>nomatch (show Empty from x)
theorem sizeN_bound:(n:Nat)→(m:List (Nd n))→(d:Nat)→d≤6→MsgIn n m→0≤(sizeN n m d).1∧(sizeN n m d).1≤((7 - d:Nat):Int)*1000000000
 | 0,_,d,hd,_=>⟨by show(0:Int)≤0;omega,by show(0:Int)≤_;omega⟩
 | n+1,m,d,hd,hm=>by
   have h:=sizeG_bound (sizeN n) (d:=d) (G:=((7 - (d+1):Nat):Int)*1000000000) (by omega) (m:List (NdF (Nd n))) (fun h5 x hx c hc=>sizeN_bound n c.2 (d+1) (by omega) (hm.body hx hc)) (Nat.le_trans hm.len (by decide))
   have e:((7 - d:Nat):Int)=((7 - (d+1):Nat):Int)+1:=by omega
   refine⟨h.1,Int.le_trans h.2 ?_⟩;rw[e];omega
theorem size_any:(n:Nat)→(m:List (Nd n))→(d:Nat)→(v:Value)→(lo:Nat)→(w:World)→d≤6→MsgIn n m→ListOk (Enc.node n) w lo w.heap.size v m→
 Calls Tryz.prog 77 #[v,.int .i64 (d:Int)] w fun e w'=>e=.returned (.tuple #[.int .i64 (sizeN n m d).1,.bool (sizeN n m d).2])∧Below w.heap.size w w'
 | 0,m,d,v,lo,w,hd,hm,hv=>by
   obtain rfl:=empty_list m;obtain⟨A,c,rfl,_⟩:=hv.form;have h:=size_walk (E:=Enc.none_) Enc.none_laws (fun _ _=>(0,false)) ([]:List (NdF Empty)) d (.slice A 0 c) lo w hd (ListOk.nil c A) (Nat.zero_le _) (fun x hx=>by cases hx) (fun _ x hx=>by cases hx) (Lib.hid fun _ x hx=>by cases hx)
   have e:sizeG (fun(_:List Empty) (_:Nat)=>((0:Int),false)) ([]:List (NdF Empty)) d=(0,false):=by
    unfold sizeG;rw[if_neg (by simp)]
    rfl
   rw[e]at h;exact h
 | n+1,m,d,v,lo,w,hd,hm,hv=>by
   exact size_walk (E:=Enc.node n) (Enc.node_laws n) (sizeN n) (m:List (NdF (Nd n))) d v lo w hd hv (Nat.le_trans hm.len (by decide))
    (fun x hx=>by have h1:smallF (SmallN n) x:=hm.each x hx;have:=h1.2.1;omega)
    (fun h5 x hx c hc=>by
      have h:=sizeN_bound n c.2 (d+1) (by omega) (hm.body hx hc)
      exact⟨h.1,by have:((7 - (d+1):Nat):Int)≤7:=by omega
                   omega⟩)
    (Lib.hid fun h5 x hx c hc W V hW hV=>by
      have h:=size_any n c.2 (d+1) V lo W (by omega) (hm.body hx hc) hV
      exact h)
end Go.Proofs.YtpfmmbbggcghiaaGreatDoor
