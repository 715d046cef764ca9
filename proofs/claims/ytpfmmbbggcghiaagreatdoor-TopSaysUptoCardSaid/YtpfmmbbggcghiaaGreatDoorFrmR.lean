/- code.Compile, at messages that are in order. -/
import Derived.Test.YtpfmmbbggcghiaaGreatDoorAddW
set_option linter.unusedSimpArgs false
set_option linter.unusedVariables false
set_option maxHeartbeats 6400000
set_option maxRecDepth 100000
namespace Go.Proofs.YtpfmmbbggcghiaaGreatDoor
open Go.RowKit
open Lib (hid)
theorem results_code {fn:Func} {t u:Tmp} (h:fn.results=#[.cell t 53,.tmp u]) (tmps:Array Value) (w:World) (g:Nat) (a b:Value) (hg:tmps[t]?.getD undef=.pointer (some ⟨g,0,none⟩)) (h0:w.cell? ⟨g,0,none⟩=some a) (h1:w.cell? ⟨g,1,none⟩=some b):
 (results fn tmps).run Tryz.prog w=.ok (.tuple #[.agg #[a,b],tmps.getD u undef]) w:=by
 simp[results,h,hg,go_sem,h0,h1]
theorem compile_ok (n:Nat) (m:List (Nd n)) (v:Value) (lo:Nat) (w:World) (hm:MsgIn n m) (hv:ListOk (Enc.node n) w lo w.heap.size v m) (hV:MV w) (hok:checkAll n m=0) (hN:(stpN n 0 m).length≤1000000000):
 Calls Tryz.prog 17 #[v] w fun e w'=>Below w.heap.size w w'∧∃ out U zs,e=.returned (.tuple #[.agg #[out,U],.nilIface])∧zs.map SU.x=stpN n 0 m∧SRow w.heap.size w' out zs∧ListOk (Enc.node n) w' w.heap.size w'.heap.size U (cpyN n m):=by
 obtain⟨A,c,rfl,_⟩:=hv.form;obtain⟨W1,eW1⟩:∃ W,W=w.alloc (.cells #[.slice none 0 0,.slice none 0 0] 53):=⟨_,rfl⟩;have hb1:Below w.heap.size w W1:=by rw[eW1];exact(Below.refl _ _).alloc (Nat.le_refl _) _
 have hs1:W1.heap.size=w.heap.size+1:=by rw[eW1,World.size_alloc]
 have hk1:Blk W1 w.heap.size 53 #[.slice none 0 0,.slice none 0 0]:=by rw[eW1];exact Blk.new w _ _
 have HL:Hid (∀ W,Below w.heap.size w W→ListOk (Enc.node n) W lo w.heap.size (.slice A m.length c) m):=hid fun W hW=>hv.below (Enc.node_laws n) hW;have HC:=Check_any n m (.slice A m.length c) lo W1 hm ((HL.out _ hb1).mono (Enc.node_laws n) (Nat.le_refl _) (by omega)) (hV.below hb1)
 rw[hok,show errV 0=.nilIface from rfl]at HC;have HC:=hid HC;have HB1:=hid hb1;have HK1:=hid hk1;have HW1:=hid eW1;have HM:=hid hm;have HNn:=hid hN;clear hv hV hok hb1 hk1 eW1 hm hN
 go_enter Tryz.func17,Tryz.ntmps17
 go_upto_region 1 with fail
 rw[←HW1.out]
 go_wp2_with fail
 refine HC.out.mono ?_;clear HC;rintro e w2 ⟨rfl,hb2⟩;obtain⟨W3,eW3⟩:∃ W,W=w2.alloc (.cells #[.slice none 0 0,.slice none 0 0] 53):=⟨_,rfl⟩;have hb3:Below w2.heap.size w2 W3:=by rw[eW3];exact(Below.refl _ _).alloc (Nat.le_refl _) _
 have hk3:Blk W3 w2.heap.size 53 #[.slice none 0 0,.slice none 0 0]:=by rw[eW3];exact Blk.new w2 _ _
 have hz2:=hb2.size;have hz3:=hb3.size;have hw3:Below w.heap.size w W3:=(HB1.out.trans (hb2.mono (by omega))).trans (hb3.mono (by omega))
 have HA:=hid (cadd_any w.heap.size w2.heap.size 1000000000 (Nat.le_refl _) n m (.slice A m.length c) lo w.heap.size [] W3 (Nat.le_refl _) HM.out (HL.out _ hw3) ⟨by omega,_,hk3,SRow.nil⟩ (by omega) (by simpa using HNn.out))
 have HB3:=hid hw3;have HK2:Hid (Blk W3 w.heap.size 53 #[.slice none 0 0,.slice none 0 0]):=hid ((HK1.out.below hb2 HK1.out.lt).below hb3 (by omega))
 have hk1l:w.heap.size < w2.heap.size:=by omega
 have HW3:=hid eW3;clear hb2 hb3 hk3 hw3 eW3
 go_upto_region 5 with fail
 rw[←HW3.out]
 go_wp2_with fail
 refine HA.out.mono ?_;clear HA;rintro e w4 ⟨rfl,had,zs,hzs,⟨hk0,out,hk4,hs4⟩,hf4⟩;have hz4:=had.below.size;have hw4:Below w.heap.size w w4:=HB3.out.trans had.below;have HCp:=hid (cpy_any n m (.slice A m.length c) lo w4 HM.out ((HL.out _ hw4).mono (Enc.node_laws n) (Nat.le_refl _) hw4.size));have hr4:Blk w4 w.heap.size 53 #[.slice none 0 0,.slice none 0 0]:=had.blk HK2.out (by omega) (by decide)
 obtain⟨OA,Oc,rfl,_⟩:=own_slice hs4.row;have HS4:=hid hs4;have HK4:=hid hk4;have HR4:=hid hr4;have HB4:=hid hw4;have HZs:=hid hzs;clear had hs4 hk4 hr4 hw4 hzs hf4
 go_wp2_with fail
 refine HCp.out.mono ?_;clear HCp;rintro e w5 ⟨hb5,U,rfl,hU⟩;obtain⟨UA,Uc,rfl,_⟩:=hU.form;have hk5:=HK4.out.below hb5 HK4.out.lt;have hr5:=HR4.out.below hb5 HR4.out.lt;have hz5:=hb5.size;have c1:=(hk5.cell 1).trans (show _=some (.slice none 0 0)from rfl);have c0:=(hk5.cell 0).trans (show _=some (.slice OA zs.length Oc)from rfl);have f1:=hk5.frozen 1;have r0:=(hr5.cell 0).trans (show _=some (.slice none 0 0)from rfl);have r1:=(hr5.cell 1).trans (show _=some (.slice none 0 0)from rfl);have g0:=hr5.frozen 0;have g1:=hr5.frozen 1;have HU:=hid hU;have HS5:=hid (HS4.out.below hb5);have HB5:Hid (Below w.heap.size w w5):=hid (HB4.out.trans (hb5.mono (by omega)))
 have HK5:=hid hk5;have HR5:=hid hr5;clear hb5 hU hk5 hr5;have hk2w:w2.heap.size≠w.heap.size:=by omega
 have hww:w.heap.size < w4.heap.size:=by omega
 have hw24:w2.heap.size < w4.heap.size:=HK4.out.lt;have HFinal:Hid (∀ x y z,Below w.heap.size w (((w5.setCell ⟨w2.heap.size,1,none⟩ x).setCell ⟨w.heap.size,0,none⟩ y).setCell ⟨w.heap.size,1,none⟩ z)∧SRow w.heap.size (((w5.setCell ⟨w2.heap.size,1,none⟩ x).setCell ⟨w.heap.size,0,none⟩ y).setCell ⟨w.heap.size,1,none⟩ z) (.slice OA zs.length Oc) zs∧
  ListOk (Enc.node n) (((w5.setCell ⟨w2.heap.size,1,none⟩ x).setCell ⟨w.heap.size,0,none⟩ y).setCell ⟨w.heap.size,1,none⟩ z) w.heap.size w5.heap.size (.slice UA (cpyN n m).length Uc) (cpyN n m)):=hid fun x y z=>by
  have k1:Blk (w5.setCell ⟨w2.heap.size,1,none⟩ x) w.heap.size 53 #[.slice none 0 0,.slice none 0 0]:=HR5.out.far (by show w.heap.size≠w2.heap.size;omega) x
  have k2:=k1.set_ 0 y;refine⟨((HB5.out.setCell (p:=⟨w2.heap.size,1,none⟩) (Nat.le_of_lt hk1l) x).setCell (p:=⟨w.heap.size,0,none⟩) (Nat.le_refl _) y).setCell (p:=⟨w.heap.size,1,none⟩) (Nat.le_refl _) z,
   ((HS5.out.far HK5.out (by decide) (by decide) (by decide) 1 x).far k1 (by decide) (by decide) (by decide) 0 y).far k2 (by decide) (by decide) (by decide) 1 z,?_⟩
  refine(HU.out.keep (Enc.node_laws n) fun p h1 h2=> ?_).mono (Enc.node_laws n) (by omega) (Nat.le_refl _)
  rw[World.cell?_setCell_far _ _ _ _ (by show w.heap.size≠p.block;omega),World.cell?_setCell_far _ _ _ _ (by show w.heap.size≠p.block;omega),World.cell?_setCell_far _ _ _ _ (by show w2.heap.size≠p.block;omega)]
 go_wp2_with fail
 have hbF:Blk (((w5.setCell ⟨w2.heap.size,1,none⟩ (.slice UA (cpyN n m).length Uc)).setCell ⟨w.heap.size,0,none⟩ (.slice OA zs.length Oc)).setCell ⟨w.heap.size,1,none⟩ (.slice UA (cpyN n m).length Uc)) w.heap.size 53 #[.slice OA zs.length Oc,.slice UA (cpyN n m).length Uc]:=
  ((HR5.out.far (p:=⟨w2.heap.size,1,none⟩) (by show w.heap.size≠w2.heap.size;omega) _).set_ 0 _).set_ 1 _
 refine bodyPost_ret (results_code rfl _ _ w.heap.size (.slice OA zs.length Oc) (.slice UA (cpyN n m).length Uc) rfl ((hbF.cell 0).trans rfl) ((hbF.cell 1).trans rfl)) rfl ?_;obtain⟨h1,h2,h3⟩:=HFinal.out (.slice UA (cpyN n m).length Uc) (.slice OA zs.length Oc) (.slice UA (cpyN n m).length Uc);exact⟨h1,_,_,zs,rfl,HZs.out,h2,by simpa[World.setCell]using h3⟩
theorem bodF_len {β:Type} (f:Nat→List β→List StpV) (g:List β→Nat) (h:∀ b l,(f b l).length≤g l):∀(cs:List (ByteArray×List β)) (b:Nat),(bodF f b cs).length≤(cs.map fun c=>g c.2).sum
 | [],_=>Nat.zero_le _
 | c::r,b=>by
   have h1:=h b c.2;have h2:=bodF_len f g h r (b+(f b c.2).length);show(f b c.2++bodF f (b+(f b c.2).length) r).length≤_;rw[List.length_append,List.map_cons,List.sum_cons];omega
theorem rowF_len {β:Type} (f:Nat→List β→List StpV) (k:NdF β→Nat) (h:∀ b x,(oneF f b x).length≤k x):∀(m:List (NdF β)) (b:Nat),(rowF f b m).length≤(m.map k).sum
 | [],_=>Nat.zero_le _
 | x::r,b=>by
   have h1:=h b x;have h2:=rowF_len f k h r (b+(oneF f b x).length);show(oneF f b x++rowF f (b+(oneF f b x).length) r).length≤_;rw[List.length_append,List.map_cons,List.sum_cons];omega
theorem stpN_len:(n:Nat)→(b:Nat)→(m:List (Nd n))→(stpN n b m).length≤(m.map (Enc.node n).bulk).sum
 | 0,_,_=>Nat.zero_le _
 | n+1,b,m=>rowF_len (stpN n) (Enc.node (n+1)).bulk (fun b x=>by
    rw[oneF_len,node_bulk n x];have h1:=bodF_len (stpN n) (fun l=>(l.map (Enc.node n).bulk).sum) (fun b l=>stpN_len n b l) (casesR x) (b+1);have h2:((casesR x).map fun c=>(c.2.map (Enc.node n).bulk).sum).sum≤(x.cases.map (Enc.cas (Enc.node n)).bulk).sum:=by
     have h3:(x.cases.map fun c=>(c.2.map (Enc.node n).bulk).sum).sum≤(x.cases.map (Enc.cas (Enc.node n)).bulk).sum:=sum_map_le (fun c:ByteArray×List (Nd n)=>(c.2.map (Enc.node n).bulk).sum) _ x.cases fun c _=>by rw[cas_bulk];omega
     unfold casesR;split
     ·exact h3
     ·exact Nat.zero_le _
    omega) (m:List (NdF (Nd n))) b
theorem casesR_cpy {β:Type} (g:List β→List β) (x:NdF β):casesR (cpyX g x)=(casesR x).map fun c=>(c.1,g c.2):=by
 show(if hasCases x.kind then(casesR x).map (fun c=>(c.1,g c.2))else [])=_
 unfold casesR;split <;> simp_all
theorem casA_cpy {β:Type} {f:List β→List Ned→List Ned} {g:List β→List β} (h:∀ b l,f (g b) l=f b l):∀(cs:List (ByteArray×List β)) (l:List Ned),casA f (cs.map fun c=>(c.1,g c.2)) l=casA f cs l
 | [],_=>rfl
 | c::r,l=>by show casA f (r.map _) (f (g c.2) l)=casA f r (f c.2 l);rw[h,casA_cpy h r]
theorem nodA_cpy {β:Type} {f:List β→List Ned→List Ned} {g:List β→List β} (h:∀ b l,f (g b) l=f b l):∀(m:List (NdF β)) (l:List Ned),nodA f (m.map (cpyX g)) l=nodA f m l
 | [],_=>rfl
 | x::r,l=>by
   show nodA f (r.map (cpyX g)) (casA f (casesR (cpyX g x)) (addN l x.kind x.text))=nodA f r (casA f (casesR x) (addN l x.kind x.text));rw[nodA_cpy h r,casesR_cpy,casA_cpy h]
theorem allN_cpy:(n:Nat)→(m:List (Nd n))→(l:List Ned)→allN n (cpyN n m) l=allN n m l
 | 0,_,_=>rfl
 | n+1,m,l=>nodA_cpy (allN_cpy n) (m:List (NdF (Nd n))) l
theorem casL_cpy {β:Type} {f:List β→Nat→Int×Bool} {g:List β→List β} (h:∀ b d,f (g b) d=f b d) (d:Nat):∀(cs:List (ByteArray×List β)) (n:Int),casL f d (cs.map fun c=>(c.1,g c.2)) n=casL f d cs n
 | [],_=>rfl
 | c::r,n=>by
   show(if(f (g c.2) (d+1)).2=true∨60 < n+(f (g c.2) (d+1)).1 then(n+(f (g c.2) (d+1)).1,true)else casL f d (r.map fun c=>(c.1,g c.2)) (n+(f (g c.2) (d+1)).1))=_
   rw[h,casL_cpy h d r]
   rfl
theorem nodL_cpy {β:Type} {f:List β→Nat→Int×Bool} {g:List β→List β} (h:∀ b d,f (g b) d=f b d) (d:Nat):∀(m:List (NdF β)) (n:Int),nodL f d (m.map (cpyX g)) n=nodL f d m n
 | [],_=>rfl
 | x::r,n=>by
   show(if(casL f d (casesR (cpyX g x)) n).2=true then casL f d (casesR (cpyX g x)) n else nodL f d (r.map (cpyX g)) (casL f d (casesR (cpyX g x)) n).1)=_
   rw[casesR_cpy,casL_cpy h,nodL_cpy h d r]
   rfl
theorem sizeG_cpy {β:Type} {f:List β→Nat→Int×Bool} {g:List β→List β} (h:∀ b d,f (g b) d=f b d) (m:List (NdF β)) (d:Nat):sizeG f (m.map (cpyX g)) d=sizeG f m d:=by
 have e:(6≤d∧m.map (cpyX g)≠[])↔(6≤d∧m≠[]):=by cases m <;> simp
 unfold sizeG;rw[nodL_cpy h,List.length_map]
 by_cases h6:6≤d∧m≠[]
 ·rw[if_pos h6,if_pos (e.2 h6)]
 ·rw[if_neg h6,if_neg fun hh=>h6 (e.1 hh)]
theorem sizeN_cpy:(n:Nat)→(m:List (Nd n))→(d:Nat)→sizeN n (cpyN n m) d=sizeN n m d
 | 0,_,_=>rfl
 | n+1,m,d=>sizeG_cpy (sizeN_cpy n) (m:List (NdF (Nd n))) d
theorem casesM_cpy {β:Type} {chk:List β→Bool→Int} {g:List β→List β} (h:∀ b mk,chk (g b) mk=chk b mk) (kind:Int) (mark:Bool):∀(cs:List (ByteArray×List β)) (seen:List ByteArray),casesM chk kind mark (cs.map fun c=>(c.1,g c.2)) seen=casesM chk kind mark cs seen
 | [],_=>rfl
 | c::r,seen=>by
   show(if keyM kind c.1=false then 3 else if seen.any (eqs · c.1)=true then 5 else if chk (g c.2) (mark || kind == 4)≠0 then chk (g c.2) (mark || kind == 4)else casesM chk kind mark (r.map fun c=>(c.1,g c.2)) (seen++[c.1]))=_
   rw[h,casesM_cpy h kind mark r]
   rfl
theorem checkM_cons {β:Type} {chk:List β→Bool→Int} {mark:Bool} (last:Option Int) (y:NdF β) (r:List (NdF β)):checkM chk mark last (y::r)=if fineM y.kind y.text last mark=false then 3 else if y.kind=4∧(y.off < 0∨9 < y.off)then 1 else if hasCases y.kind=true∧casesM chk y.kind mark y.cases []≠0 then casesM chk y.kind mark y.cases []else checkM chk mark (some y.kind) r:=by
 cases last <;> rfl
theorem checkM_cpy {β:Type} {chk:List β→Bool→Int} {g:List β→List β} (h:∀ b mk,chk (g b) mk=chk b mk) (mark:Bool):∀(m:List (NdF β)) (last:Option Int),checkM chk mark last (m.map (cpyX g))=checkM chk mark last m
 | [],last=>by cases last <;> rfl
 | x::r,last=>by
   rw[List.map_cons,checkM_cons,checkM_cons,checkM_cpy h mark r];show(if fineM x.kind x.text last mark=false then 3 else if x.kind=4∧(x.off < 0∨9 < x.off)then 1 else if hasCases x.kind=true∧casesM chk x.kind mark (cpyX g x).cases []≠0 then casesM chk x.kind mark (cpyX g x).cases []else checkM chk mark (some x.kind) r)=_
   by_cases hc:hasCases x.kind=true
   ·have e:(cpyX g x).cases=x.cases.map fun c=>(c.1,g c.2):=by
     show(casesR x).map _=_;unfold casesR;rw[if_pos hc]
    rw[e,casesM_cpy h]
   ·have e1:¬(hasCases x.kind=true∧casesM chk x.kind mark (cpyX g x).cases []≠0):=fun hh=>hc hh.1;have e2:¬(hasCases x.kind=true∧casesM chk x.kind mark x.cases []≠0):=fun hh=>hc hh.1;rw[if_neg e1,if_neg e2]
theorem checkN_cpy:(n:Nat)→(m:List (Nd n))→(mark:Bool)→checkN n (cpyN n m) mark=checkN n m mark
 | 0,_,_=>rfl
 | n+1,m,mark=>checkM_cpy (checkN_cpy n) mark (m:List (NdF (Nd n))) none
theorem checkAll_cpy (n:Nat) (m:List (Nd n)):checkAll n (cpyN n m)=checkAll n m:=by
 unfold checkAll;rw[sizeN_cpy,checkN_cpy]
theorem ofR_cpy (n:Nat) (m:List (Nd n)):ofR n (cpyN n m)=ofR n m:=by
 unfold ofR;rw[checkAll_cpy,allN_cpy]
theorem fitsR_cpy (n:Nat) (m:List (Nd n)) (args:List ArgV):fitsR n (cpyN n m) args=fitsR n m args:=by
 unfold fitsR;rw[ofR_cpy]
structure Kt where
 d:Nat
 l:List (Nd d)
 mark:DecV
structure Frm where
 til:Nat
 next:Nat
 mark:DecV
def sayK (s:SetV) (f:ByteArray→Option ArgV):List Kt→List UInt8×Int
 | []=>([],0)
 | k::r=>if(sayN s f k.d k.l k.mark).2≠0 then sayN s f k.d k.l k.mark else((sayN s f k.d k.l k.mark).1++(sayK s f r).1,(sayK s f r).2)
def LaidK (zs:List StpV):Nat→List Kt→List Frm→Prop
 | _,[],[]=>True
 | p,k::K,q::F=>p≤zs.length∧(∃ r,zs.drop p=stpN k.d p k.l++r)∧p+(stpN k.d p k.l).length=q.til∧q.mark=k.mark∧(F≠[]→q.til≤q.next)∧LaidK zs q.next K F
 | _,_,_=>False
theorem LaidK.form {zs:List StpV} {p:Nat} {K:List Kt} {q:Frm} {F:List Frm} (h:LaidK zs p K (q::F)):∃ k K',K=k::K'∧p≤zs.length∧(∃ r,zs.drop p=stpN k.d p k.l++r)∧p+(stpN k.d p k.l).length=q.til∧q.mark=k.mark∧(F≠[]→q.til≤q.next)∧LaidK zs q.next K' F:=by
 cases K with
 | nil=>exact h.elim
 | cons k K'=>exact⟨k,K',rfl,h⟩
theorem LaidK.le {zs:List StpV} {p:Nat} {K:List Kt} {q:Frm} {F:List Frm} (h:LaidK zs p K (q::F)):p≤zs.length∧p≤q.til∧q.til≤zs.length:=by
 obtain⟨k,K',rfl,h1,⟨r,h2⟩,h3,_⟩:=h.form;have h4:=congrArg List.length h2;rw[List.length_drop,List.length_append]at h4;omega
theorem LaidK.none {zs:List StpV} {p:Nat} {K:List Kt} (h:LaidK zs p K []):K=[]:=by
 cases K with
 | nil=>rfl
 | cons k K'=>exact h.elim
theorem mch_end {zs:List StpV} {p:Nat} {K:List Kt} {q:Frm} {F:List Frm} (h:LaidK zs p K (q::F)) (he:p=q.til):∃ k K',K=k::K'∧(∀ s f,sayK s f K=sayK s f K')∧(F≠[]→p≤q.next)∧LaidK zs q.next K' F:=by
 obtain⟨⟨d,l,mk⟩,K',rfl,h1,h2,h3,h4,h45,h5⟩:=h.form;refine⟨_,K',rfl,fun s f=> ?_,fun hF=>by rw[he];exact h45 hF,h5⟩
 dsimp only at h3;have h6:(stpN d p l).length=0:=by omega
 have h7:sayN s f d l mk=([],0):=by
  cases d with
  | zero=>rfl
  | succ d=>
    have h8:(l:List (NdF (Nd d)))=[]:=by
     cases l with
     | nil=>rfl
     | cons x r=>
       have h9:(stpN (d+1) p (x::r)).length=(oneF (stpN d) p x++rowF (stpN d) (p+(oneF (stpN d) p x).length) r).length:=rfl;rw[h9,List.length_append]at h6;have h10:(oneF (stpN d) p x).length=(bodF (stpN d) (p+1) (casesR x)).length+1:=rfl;omega
    have h9:l=([]:List (NdF (Nd d))):=h8;rw[h9]
    rfl
 show(if(sayN s f d l mk).2≠0 then sayN s f d l mk else((sayN s f d l mk).1++(sayK s f K').1,(sayK s f K').2))=_
 rw[h7,if_neg (by simp)]
 simp
theorem bodF_at {β:Type} (f:Nat→List β→List StpV):∀(cs:List (ByteArray×List β)) (b i:Nat) (h:i < cs.length),∃ b',(begF f b cs)[i]? =some b'∧b≤b'∧(begF f b cs++[b+(bodF f b cs).length])[i+1]? =some (b'+(f b' cs[i].2).length)∧∃ r,(bodF f b cs).drop (b' - b)=f b' cs[i].2++r
 | c::r,b,0,_=>by
   refine⟨b,rfl,Nat.le_refl _,?_,bodF f (b+(f b c.2).length) r,?_⟩
   ·show(b::begF f (b+(f b c.2).length) r++[b+(f b c.2++bodF f (b+(f b c.2).length) r).length])[1]? =some (b+(f b c.2).length);cases r with
    | nil=>simp[begF,bodF]
    | cons e r=>simp[begF]
   ·rw[Nat.sub_self];rfl
 | c::r,b,i+1,h=>by
   rw[List.length_cons]at h;obtain⟨b',h1,h2,h3,r',h4⟩:=bodF_at f r (b+(f b c.2).length) i (by omega)
   refine⟨b',h1,by omega,?_,r',?_⟩
   ·have e:begF f b (c::r)++[b+(bodF f b (c::r)).length]=b::(begF f (b+(f b c.2).length) r++[b+(f b c.2).length+(bodF f (b+(f b c.2).length) r).length]):=by
     show b::begF f (b+(f b c.2).length) r++[b+(f b c.2++bodF f (b+(f b c.2).length) r).length]=_;rw[List.length_append,List.cons_append,Nat.add_assoc]
    rw[e];exact h3
   ·show(f b c.2++bodF f (b+(f b c.2).length) r).drop (b' - b)=_;have e:b' - b=(f b c.2).length+(b' - (b+(f b c.2).length)):=by omega
    rw[e,←List.drop_drop,List.drop_left,h4]
    rfl
theorem begF_le {β:Type} (f:Nat→List β→List StpV):∀(cs:List (ByteArray×List β)) (b i b':Nat),(begF f b cs)[i]? =some b'→b'≤b+(bodF f b cs).length
 | [],_,_,_,h=>by cases h
 | c::r,b,0,b',h=>by
   have e:b=b':=Option.some.inj h;omega
 | c::r,b,i+1,b',h=>by
   have h1:=begF_le f r (b+(f b c.2).length) i b' h;have h2:(bodF f b (c::r)).length=(f b c.2++bodF f (b+(f b c.2).length) r).length:=rfl;rw[List.length_append]at h2;omega
theorem mch_on {zs:List StpV} {p:Nat} {K:List Kt} {q:Frm} {F:List Frm} (h:LaidK zs p K (q::F)) (he:p≠q.til):∃ d,∃ x:NdF (Nd d),∃ r:List (NdF (Nd d)),∃ K',K=⟨d+1,(x::r:List (NdF (Nd d))),q.mark⟩::K'∧∃ hp:p < zs.length,zs[p]=⟨x.kind,x.text,x.off,(casesR x).map Prod.fst,begF (stpN d) (p+1) (casesR x)++[p+1+(bodF (stpN d) (p+1) (casesR x)).length],p+1+(bodF (stpN d) (p+1) (casesR x)).length⟩∧
 (casesR x=[]→LaidK zs (p+1) (⟨d+1,r,q.mark⟩::K') (q::F))∧
 (∀ i (hi:i < (casesR x).length) mk,∃ b e,(begF (stpN d) (p+1) (casesR x)++[p+1+(bodF (stpN d) (p+1) (casesR x)).length])[i]? =some b∧(begF (stpN d) (p+1) (casesR x)++[p+1+(bodF (stpN d) (p+1) (casesR x)).length])[i+1]? =some e∧p < b∧b≤zs.length∧
   LaidK zs b (⟨d,(casesR x)[i].2,mk⟩::⟨d+1,r,q.mark⟩::K') (⟨e,p+1+(bodF (stpN d) (p+1) (casesR x)).length,mk⟩::q::F)):=by
 obtain⟨⟨d,l,mk0⟩,K',rfl,h1,⟨rest,h2⟩,h3,h4,h45,h5⟩:=h.form;dsimp only at h2 h3 h4;cases d with
 | zero=>exact absurd h3 he
 | succ d=>
   cases l with
   | nil=>exact absurd h3 he
   | cons x r=>
     have hx:stpN (d+1) p (x::r)=oneF (stpN d) p x++rowF (stpN d) (p+(oneF (stpN d) p x).length) r:=rfl;rw[hx]at h2 h3;obtain⟨st,hst⟩:∃ st,st=(⟨NdF.kind x,NdF.text x,NdF.off x,(casesR x).map Prod.fst,begF (stpN d) (p+1) (casesR x)++[p+1+(bodF (stpN d) (p+1) (casesR x)).length],p+1+(bodF (stpN d) (p+1) (casesR x)).length⟩:StpV):=⟨_,rfl⟩;have ho:oneF (stpN d) p x=st::bodF (stpN d) (p+1) (casesR x):=by rw[hst];rfl
     have hol:(oneF (stpN d) p x).length=(bodF (stpN d) (p+1) (casesR x)).length+1:=by rw[ho];rfl
     have hlen:=congrArg List.length h2;rw[List.length_drop,List.length_append,List.length_append,hol]at hlen;have hp:p < zs.length:=by omega
     have hz:zs[p]=st:=by
      have h6:(zs.drop p)[0]? =some st:=by rw[h2,ho];rfl
      rw[List.getElem?_drop,Nat.add_zero,List.getElem?_eq_getElem hp]at h6;exact Option.some.inj h6
     have hd1:zs.drop (p+1)=bodF (stpN d) (p+1) (casesR x)++(rowF (stpN d) (p+(oneF (stpN d) p x).length) r++rest):=by
      rw[←List.drop_drop,h2,ho];simp
     have hr:∀ e,e=p+(oneF (stpN d) p x).length→LaidK zs e (⟨d+1,r,q.mark⟩::K') (q::F):=fun e ee=>by
      subst ee;rw[List.length_append]at h3;refine⟨by omega,⟨rest,?_⟩,by show _+(rowF (stpN d) (p+(oneF (stpN d) p x).length) r).length=q.til;omega,rfl,h45,h5⟩
      show zs.drop (p+(oneF (stpN d) p x).length)=rowF (stpN d) (p+(oneF (stpN d) p x).length) r++rest;rw[←List.drop_drop,h2,List.append_assoc,List.drop_left]
     refine⟨d,x,r,K',by rw[h4];rfl,hp,by rw[hz,hst],fun hc=>hr (p+1) (by rw[hol,hc];rfl),fun i hi mk=> ?_⟩
     obtain⟨b,e1,e2,e3,r',e4⟩:=bodF_at (stpN d) (casesR x) (p+1) i hi;refine⟨b,b+(stpN d b (casesR x)[i].2).length,?_,e3,by omega,?_⟩
     ·rw[List.getElem?_append_left (by rcases List.getElem?_eq_some_iff.1 e1 with⟨hh,_⟩;exact hh)]
      exact e1
     have hdb:zs.drop b=stpN d b (casesR x)[i].2++(r'++(rowF (stpN d) (p+(oneF (stpN d) p x).length) r++rest)):=by
      have e5:b=p+1+(b - (p+1)):=by omega
      have e6:b - (p+1)≤(bodF (stpN d) (p+1) (casesR x)).length:=by
       rcases Nat.lt_or_ge (bodF (stpN d) (p+1) (casesR x)).length (b - (p+1))with hh|hh
       ·exfalso
        have e7:=begF_le (stpN d) (casesR x) (p+1) i b e1;omega
       ·exact hh
      rw[e5,←List.drop_drop,hd1,List.drop_append_of_le_length e6,e4,←e5,List.append_assoc]
     have hbl:b≤zs.length:=by
      have e7:=begF_le (stpN d) (casesR x) (p+1) i b e1;omega
     have hfin:b+(stpN d b (casesR x)[i].2).length≤p+1+(bodF (stpN d) (p+1) (casesR x)).length:=by
      have e7:=begF_le (stpN d) (casesR x) (p+1) i b e1;have e8:=congrArg List.length e4;rw[List.length_drop,List.length_append]at e8;omega
     refine⟨hbl,hbl,⟨_,hdb⟩,rfl,rfl,fun _=>hfin,?_⟩;exact hr (p+1+(bodF (stpN d) (p+1) (casesR x)).length) (by rw[hol];omega)
theorem sayK_on {s:SetV} {f:ByteArray→Option ArgV} {d:Nat} {x:NdF (Nd d)} {r:List (NdF (Nd d))} {mk:DecV} {K:List Kt} (h:(oneO (sayN s f d) s f x mk).2=0):
 sayK s f (⟨d+1,(x::r:List (NdF (Nd d))),mk⟩::K)=((oneO (sayN s f d) s f x mk).1++(sayK s f (⟨d+1,r,mk⟩::K)).1,(sayK s f (⟨d+1,r,mk⟩::K)).2):=by
 have e:sayN s f (d+1) (x::r:List (NdF (Nd d))) mk=if(oneO (sayN s f d) s f x mk).2≠0 then oneO (sayN s f d) s f x mk else((oneO (sayN s f d) s f x mk).1++(sayN s f (d+1) r mk).1,(sayN s f (d+1) r mk).2):=rfl
 rw[if_neg (by rw[h];decide)]at e
 have e1:∀ k,sayK s f (k::K)=if(sayN s f k.d k.l k.mark).2≠0 then sayN s f k.d k.l k.mark else((sayN s f k.d k.l k.mark).1++(sayK s f K).1,(sayK s f K).2):=fun _=>rfl
 rw[e1,e1];dsimp only;rw[e];dsimp only;split
 ·rfl
 ·dsimp only;rw[List.append_assoc]
theorem sayK_bad {s:SetV} {f:ByteArray→Option ArgV} {d:Nat} {x:NdF (Nd d)} {r:List (NdF (Nd d))} {mk:DecV} {K:List Kt} (h:(oneO (sayN s f d) s f x mk).2≠0):
 (sayK s f (⟨d+1,(x::r:List (NdF (Nd d))),mk⟩::K)).2=(oneO (sayN s f d) s f x mk).2:=by
 have e:sayN s f (d+1) (x::r:List (NdF (Nd d))) mk=if(oneO (sayN s f d) s f x mk).2≠0 then oneO (sayN s f d) s f x mk else((oneO (sayN s f d) s f x mk).1++(sayN s f (d+1) r mk).1,(sayN s f (d+1) r mk).2):=rfl
 rw[if_pos h]at e;have e1:∀ k,sayK s f (k::K)=if(sayN s f k.d k.l k.mark).2≠0 then sayN s f k.d k.l k.mark else((sayN s f k.d k.l k.mark).1++(sayK s f K).1,(sayK s f K).2):=fun _=>rfl
 rw[e1];dsimp only;rw[e,if_pos h]
theorem sayK_push {s:SetV} {f:ByteArray→Option ArgV} {d:Nat} {x:NdF (Nd d)} {r:List (NdF (Nd d))} {mk mk':DecV} {b:List (Nd d)} {K:List Kt} (h:oneO (sayN s f d) s f x mk=sayN s f d b mk'):
 sayK s f (⟨d,b,mk'⟩::⟨d+1,r,mk⟩::K)=sayK s f (⟨d+1,(x::r:List (NdF (Nd d))),mk⟩::K):=by
 by_cases h0:(oneO (sayN s f d) s f x mk).2=0
 ·rw[sayK_on h0,h];rw[h]at h0;show(if(sayN s f d b mk').2≠0 then sayN s f d b mk' else _)=_
  rw[if_neg (by rw[h0];decide)]
 ·have e:sayN s f (d+1) (x::r:List (NdF (Nd d))) mk=if(oneO (sayN s f d) s f x mk).2≠0 then oneO (sayN s f d) s f x mk else((oneO (sayN s f d) s f x mk).1++(sayN s f (d+1) r mk).1,(sayN s f (d+1) r mk).2):=rfl
  rw[if_pos h0]at e;show(if(sayN s f d b mk').2≠0 then sayN s f d b mk' else _)=(if(sayN s f (d+1) (x::r:List (NdF (Nd d))) mk).2≠0 then sayN s f (d+1) (x::r:List (NdF (Nd d))) mk else _)
  rw[e,if_pos h0,h]at *;rw[if_pos h0]
def costK (C:Nat):List Kt→Nat
 | []=>0
 | k::r=>costN C k.d k.l+costK C r
structure KOk (C:Nat) (k:Kt):Prop where
 good:GoodN k.d k.l
 text:TextN C k.d k.l
 small:MsgIn k.d k.l
theorem KOk.rest {C d:Nat} {x:NdF (Nd d)} {r:List (NdF (Nd d))} {mk:DecV} (h:KOk C ⟨d+1,(x::r:List (NdF (Nd d))),mk⟩) (mk':DecV):KOk C ⟨d+1,r,mk'⟩:=
 ⟨fun y hy=>h.good y (List.mem_cons_of_mem _ hy),fun y hy=>h.text y (List.mem_cons_of_mem _ hy),⟨Nat.le_trans (Nat.le_succ _) h.small.len,fun y hy=>h.small.each y (List.mem_cons_of_mem _ hy)⟩⟩
theorem KOk.head {C d:Nat} {x:NdF (Nd d)} {r:List (NdF (Nd d))} {mk:DecV} (h:KOk C ⟨d+1,(x::r:List (NdF (Nd d))),mk⟩):goodF (GoodN d) x∧x.text.size≤C∧(∀ c∈x.cases,TextN C d c.2)∧smallF (SmallN d) x:=
 ⟨h.good x (List.mem_cons_self ..),(h.text x (List.mem_cons_self ..)).1,(h.text x (List.mem_cons_self ..)).2,h.small.each x (List.mem_cons_self ..)⟩
theorem KOk.body {C d:Nat} {x:NdF (Nd d)} {r:List (NdF (Nd d))} {mk:DecV} (h:KOk C ⟨d+1,(x::r:List (NdF (Nd d))),mk⟩) (hk:x.kind=4∨x.kind=5) {c:ByteArray×List (Nd d)} (hc:c∈x.cases) (mk':DecV):KOk C ⟨d,c.2,mk'⟩:=
 ⟨(h.head.1.2 hk).2 c hc,h.head.2.2.1 c hc,MsgIn.body h.small (List.mem_cons_self ..) hc⟩
theorem costK_on {C d:Nat} {x:NdF (Nd d)} {r:List (NdF (Nd d))} {mk:DecV} {K:List Kt}:costK C (⟨d+1,(x::r:List (NdF (Nd d))),mk⟩::K)=C+(x.cases.map fun c=>costN C d c.2).sum+costK C (⟨d+1,r,mk⟩::K):=by
 show(costF (costN C d) C x+((r.map (costF (costN C d) C)).sum))+costK C K=_;unfold costF;show _=_+(((r.map (costF (costN C d) C)).sum)+costK C K);unfold costF;omega
theorem sum_mem_le {α:Type} (f:α→Nat):∀(l:List α) (a:α),a∈l→f a≤(l.map f).sum
 | b::r,a,h=>by
   rw[List.map_cons,List.sum_cons];rcases List.mem_cons.1 h with rfl|h
   ·omega
   ·have:=sum_mem_le f r a h;omega
theorem costK_push {C d:Nat} {x:NdF (Nd d)} {r:List (NdF (Nd d))} {mk mk':DecV} {K:List Kt} {c:ByteArray×List (Nd d)} (hc:c∈x.cases):costK C (⟨d,c.2,mk'⟩::⟨d+1,r,mk⟩::K)+C≤costK C (⟨d+1,(x::r:List (NdF (Nd d))),mk⟩::K):=by
 rw[costK_on];have:=sum_mem_le (fun c=>costN C d c.2) x.cases c hc;show costN C d c.2+costK C (⟨d+1,r,mk⟩::K)+C≤_;omega
theorem lookedQ_any (B k:Nat) (xs:List Value) (w:World) (h:Lib.IsBuilder 112 5 B k xs w):
 Calls Tryz.prog 99 #[.pointer (some ⟨k,0,none⟩)] w fun e w'=>e=.returned (.tuple #[])∧Lib.BuilderAt 112 5 B k (.pointer (some ⟨k,0,none⟩)) xs w'∧BwK B k w w'∧w'.heap.size=w.heap.size:=by
 obtain⟨j,hj,hjs⟩:=Option.map_eq_some_iff.1 sz_bld;rcases h with h|h
 ·have HA:=hid (h.used (.pointer (some ⟨k,0,none⟩)));have HB:=hid ((BwK.refl B k w).setCell h.1 0 (.pointer (some ⟨k,0,none⟩)));have c0:=h.cell0;have f0:=h.frozen0;have hsh:=h.shape;have hc1:=Lib.run_to_unsafe w (P:=Tryz.prog) (src:=109) (dst:=208) ⟨k,0,none⟩ Tryz.underlying109 Tryz.underlying208 hj (by rw[hjs];decide) hsh (Nat.zero_lt_succ 1)
  have hc2:=Lib.run_from_unsafe w (P:=Tryz.prog) (src:=208) (dst:=109) ⟨k,0,none⟩ Tryz.underlying208 Tryz.underlying109 hj hsh lies_bld;have hn:(callFunc 150 #[.pointer (some ⟨k,0,none⟩)]).run Tryz.prog w=.ok (.value (.pointer (some ⟨k,0,none⟩))) w:=by
   rw[run_callFunc_extern Tryz.func150 (by kernel_rfl) (by kernel_rfl) (by kernel_rfl) (e:=Extern.AbiNoEscape.same) (by kernel_rfl),Lib.run_noEscape];rfl
  clear h hsh hj hjs
  go_enter Tryz.func99,Tryz.ntmps99
  go_wp2
  go_end0
  exact⟨rfl,HA.out,HB.out,by simp⟩
 ·have c0:=h.cell0;have HH:=hid h;clear h;have hr:=Lib.run_neq_ptr_same w (P:=Tryz.prog) (tp:=109) ⟨k,0,none⟩ Tryz.underlying109 hj
  go_enter Tryz.func99,Tryz.ntmps99
  go_wp2
  go_end0
  exact⟨rfl,HH.out,BwK.refl _ _ _,rfl⟩
theorem wstrQ_any (B k:Nat) (l:List UInt8) (s:ByteArray) (w:World) (h:Bld B k l w) (hl:l.length+s.size≤140737488355328) (hB:B≤w.heap.size):
 Calls Tryz.prog 58 #[.pointer (some ⟨k,0,none⟩),.string s] w fun e w'=>e=.returned (.tuple #[.int .i64 s.size,.nilIface])∧Bld B k (l++bts s) w'∧BwK B k w w':=by
 have HL:=hid (lookedQ_any B k _ w h);obtain⟨i0,hi,hz0,hz1,hz2⟩:=info_parts info_byte';clear h
 go_enter Tryz.func58,Tryz.ntmps58
 go_wp2_with fail
 refine HL.out.mono ?_;clear HL;rintro e w1 ⟨rfl,⟨hBk,v,hbk,hown,hne⟩,hb1,hs1⟩;have c0:w1.cell? ⟨k,0,none⟩=some (.pointer (some ⟨k,0,none⟩)):=by rw[Lib.cell_of_heap hbk];rfl
 have c1:w1.cell? ⟨k,1,none⟩=some v:=by rw[Lib.cell_of_heap hbk];rfl
 have hkl:k < w1.heap.size:=Blk.lt hbk;have HbK:=hid hbk;have HNe:=hid hne;have HB1:=hid hb1;have hbl:(Lib.byteCells l).length=l.length:=Lib.byteCells_length l;rw[hbl]at hown;obtain⟨A,cp,rfl,_⟩:=own_slice hown;have HO:=hid hown;have hB1:B≤w1.heap.size:=by omega
 clear hbk hown hne hb1 hs1
 go_wp2_with (at_builtin;refine Lib.wpList_append_own_string _ rfl _ _ 110 9 rfl B 5 i0 Tryz.underlying110 Tryz.underlying9 hi hz0 hz1 hz2 _ _ _ rfl HO.out s rfl (by unfold maxLen;omega) (by omega) (by omega) ?_)
 intro v2 w2 hown2 hgrow2 _;have hb2:w2.heap[k]? =some (.cells #[.pointer (some ⟨k,0,none⟩),.slice A l.length cp] 112 (0,0)):=by
  rw[hgrow2.block k hkl (fun e=>HNe.out e.symm)];exact HbK.out
 have d0:w2.cell? ⟨k,0,none⟩=some (.pointer (some ⟨k,0,none⟩)):=by rw[Lib.cell_of_heap hb2];rfl
 have d1:w2.cell? ⟨k,1,none⟩=some (.slice A l.length cp):=by rw[Lib.cell_of_heap hb2];rfl
 have f1:w2.frozen? ⟨k,1,none⟩=false:=Lib.frozen_of_heap hb2 1;obtain⟨A2,c2,rfl,_⟩:=own_slice hown2;have HP:=hid (Lib.BuilderAt.put (T:=112) (e:=5) hBk hb2 (bs':=Lib.byteCells (l++bts s)) (by rw[←bytes_app,←str_cells,List.length_append,hbl,Lib.strCells_length];exact hown2) (by decide))
 have HBe:=hid ((HB1.out.grown HO.out hgrow2 hB1).setCell hBk 1 (.slice A2 (l.length+s.size) c2));clear hown2 hgrow2 hb2
 go_wp2_with fail
 go_ret2
 exact⟨rfl,.inr HP.out,HBe.out⟩
theorem Bld.keepQ {B k:Nat} {l:List UInt8} {w w':World} (h:Bld B k l w) (hk:∀ g cs t f,w.heap[g]? =some (.cells cs t f)→(g=k∨t=5)→w'.heap[g]? =w.heap[g]?):Bld B k l w':=by
 have key:∀ p,Lib.BuilderAt 112 5 B k p (Lib.byteCells l) w→Lib.BuilderAt 112 5 B k p (Lib.byteCells l) w':=fun p ⟨hB,v,hh,ho,hn⟩=>
  ⟨hB,v,(hk k _ _ _ hh (.inl rfl)).trans hh,own_keep ho fun g hg _=>by
    obtain⟨_,⟨h2,_⟩|⟨g',cap,cur,hv,_,hh',_⟩⟩:=ho
    ·rw[h2]at hg;cases hg
    ·rw[hv]at hg;injection hg with hg;have hg:g'=g:=hg;subst hg;exact hk g' _ _ _ hh' (.inr rfl),hn⟩
 exact h.imp (key _) (key _)
theorem Bld.lt {B k:Nat} {l:List UInt8} {w:World} (h:Bld B k l w):B≤k∧k < w.heap.size:=by
 rcases h with⟨hB,v,hh,_⟩|⟨hB,v,hh,_⟩
 ·exact⟨hB,Blk.lt (t:=112) hh⟩
 ·exact⟨hB,Blk.lt (t:=112) hh⟩
theorem Bld.on {B k:Nat} {l:List UInt8} {w w':World} (h:Bld B k l w) (hb:Below w.heap.size w w'):Bld B k l w':=
 h.keepQ fun g _ _ _ hg _=>hb.block g (Array.getElem?_eq_some_iff.1 hg).1
theorem addr0 (g j:Nat):(⟨g,0,none⟩:Addr).add j=⟨g,j,none⟩:=by simp[Addr.add];exact fun h=>h.symm
def kindF {β:Type} (G:List β→Prop) (x:NdF β):Prop:=(1≤x.kind∧x.kind≤6)∧(x.kind=4∨x.kind=5→∀ c∈x.cases,G c.2)
def KindN:(n:Nat)→List (Nd n)→Prop
 | 0,_=>True
 | n+1,m=>∀ x∈(m:List (NdF (Nd n))),kindF (KindN n) x
theorem fineM_kind {k:Int} {t:ByteArray} {last:Option Int} {mark:Bool} (h:fineM k t last mark=true):1≤k∧k≤6:=by
 unfold fineM at h;split at h
 ·omega
 ·split at h
  ·omega
  ·have h1:(k == 6)=true:=(Bool.and_eq_true_iff.1 h).1;have h2:k=6:=by simpa using h1
   omega
theorem checkM_kind {β:Type} {chk:List β→Bool→Int} {mark:Bool} {G:List β→Prop} (hG:∀ b mk,chk b mk=0→G b):∀(m:List (NdF β)) (last:Option Int),checkM chk mark last m=0→∀ x∈m,kindF G x
 | [],_,_,x,hx=>by cases hx
 | y::r,last,h,x,hx=>by
   rw[checkM_cons]at h;split at h
   ·exact absurd h (by decide)
   rename_i h3
   split at h
   ·exact absurd h (by decide)
   split at h
   ·rename_i h1;exact absurd h h1.2
   rename_i h5
   rcases List.mem_cons.1 hx with rfl|hx
   ·refine⟨fineM_kind (by simpa using h3),fun hk=> ?_⟩
    have hc:hasCases x.kind=true:=by
     unfold hasCases;rcases hk with hk|hk <;> rw[hk] <;> decide
    have h7:casesM chk x.kind mark x.cases []=0:=Classical.not_not.1 fun hh=>h5 ⟨hc,hh⟩;exact fun c hcm=>hG _ _ (casesM_good _ _ h7 c hcm)
   ·exact checkM_kind hG r _ h x hx
theorem kind_of_check:(n:Nat)→(m:List (Nd n))→(mark:Bool)→checkN n m mark=0→KindN n m
 | 0,_,_,_=>trivial
 | n+1,m,_,h=>checkM_kind (fun b mk hb=>kind_of_check n b mk hb) (m:List (NdF (Nd n))) none h
theorem check_of_fits {n:Nat} {m:List (Nd n)} {args:List ArgV} (h:fitsR n m args=0):checkN n m false=0:=by
 unfold fitsR at h;split at h
 ·rename_i h1;exact absurd h h1
 rename_i h1
 have h2:(ofR n m).1=0:=Classical.not_not.1 h1;unfold ofR at h2;split at h2
 ·rename_i h3;exact absurd h2 h3
 rename_i h3
 have h4:checkAll n m=0:=Classical.not_not.1 h3;unfold checkAll at h4;split at h4
 ·exact absurd h4 (by decide)
 ·exact h4
structure KGo (C:Nat) (k:Kt):Prop where
 ok:KOk C k
 kind:KindN k.d k.l
theorem KGo.rest {C d:Nat} {x:NdF (Nd d)} {r:List (NdF (Nd d))} {mk:DecV} (h:KGo C ⟨d+1,(x::r:List (NdF (Nd d))),mk⟩) (mk':DecV):KGo C ⟨d+1,r,mk'⟩:=
 ⟨h.ok.rest mk',fun y hy=>h.kind y (List.mem_cons_of_mem _ hy)⟩
theorem KGo.head {C d:Nat} {x:NdF (Nd d)} {r:List (NdF (Nd d))} {mk:DecV} (h:KGo C ⟨d+1,(x::r:List (NdF (Nd d))),mk⟩):1≤x.kind∧x.kind≤6:=(h.kind x (List.mem_cons_self ..)).1
theorem KGo.body {C d:Nat} {x:NdF (Nd d)} {r:List (NdF (Nd d))} {mk:DecV} (h:KGo C ⟨d+1,(x::r:List (NdF (Nd d))),mk⟩) (hk:x.kind=4∨x.kind=5) {c:ByteArray×List (Nd d)} (hc:c∈x.cases) (mk':DecV):KGo C ⟨d,c.2,mk'⟩:=
 ⟨h.ok.body hk hc mk',(h.kind x (List.mem_cons_self ..)).2 hk c hc⟩
section
variable (s:SetV) (kind:Int) (text:ByteArray) (off:Int) (keys:List ByteArray) (a:ArgV) (mark:DecV)
def swT:List UInt8:=if kind=6 then numT mark else if kind=3 then numT a.num else if kind=2 then showT a else if kind=4 then []else if kind=5 then []else bts text
def swE:Int:=if kind=6 then numE mark else if kind=3 then numE a.num else if kind=4 then caseE s off a.num else 0
def swI:Int:=if kind=4 then(caseB s off a.num keys:Nat)else if kind=5 then(choF a.text keys 0 0:Nat)else -1
def swM:DecV:=if kind=4 then caseL s off a.num else mark
end
theorem sw_bad {β:Type} {rec:List β→DecV→List UInt8×Int} {s:SetV} {f:ByteArray→Option ArgV} {x:NdF β} {mark:DecV} (h:swE s x.kind x.off (argOf f x.text) mark≠0):(oneO rec s f x mark).2=swE s x.kind x.off (argOf f x.text) mark:=by
 unfold swE at *;unfold oneO
 by_cases h6:x.kind=6
 ·have h1:x.kind≠1:=by omega
  rw[if_pos h6,if_neg h1,if_pos h6]
 ·rw[if_neg h6]at*
  by_cases h3:x.kind=3
  ·have h1:x.kind≠1:=by omega
   rw[if_pos h3,if_neg h1,if_neg h6,if_pos h3]
  ·rw[if_neg h3]at*
   by_cases h4:x.kind=4
   ·rw[if_pos h4]at *;have h1:x.kind≠1:=by omega
    rw[if_neg h1,if_neg h6,if_neg h3,if_pos h4,if_neg h]
   ·rw[if_neg h4]at h;exact absurd rfl h
theorem sw_flat {β:Type} {rec:List β→DecV→List UInt8×Int} {s:SetV} {f:ByteArray→Option ArgV} {x:NdF β} {mark:DecV} (hk:1≤x.kind∧x.kind≤6) (h:swE s x.kind x.off (argOf f x.text) mark=0) (h4:x.kind≠4) (h5:x.kind≠5):
 oneO rec s f x mark=(swT x.kind x.text (argOf f x.text) mark,0)∧swI s x.kind x.off (casesR x |>.map Prod.fst) (argOf f x.text)= -1∧casesR x=[]:=by
 refine⟨?_,?_,?_⟩
 ·unfold swE at h;unfold oneO swT
  by_cases h6:x.kind=6
  ·have h1:x.kind≠1:=by omega
   rw[if_pos h6]at h;rw[if_neg h1,if_pos h6,if_pos h6,h]
  ·rw[if_neg h6]at h
   by_cases h3:x.kind=3
   ·have h1:x.kind≠1:=by omega
    rw[if_pos h3]at h;rw[if_neg h1,if_neg h6,if_pos h3,if_neg h6,if_pos h3,h]
   ·by_cases h2:x.kind=2
    ·have h1:x.kind≠1:=by omega
     rw[if_neg h1,if_neg h6,if_neg h3,if_neg h4,if_neg h5,if_neg h6,if_neg h3,if_pos h2]
    ·have h1:x.kind=1:=by omega
     rw[if_pos h1,if_neg h6,if_neg h3,if_neg h2,if_neg h4,if_neg h5]
 ·unfold swI;rw[if_neg h4,if_neg h5]
 ·unfold casesR hasCases;have e4:(x.kind == 4)=false:=by simpa using h4
  have e5:(x.kind == 5)=false:=by simpa using h5
  rw[e4,e5]
  rfl
theorem casesR_yes {β:Type} {x:NdF β} (h:x.kind=4∨x.kind=5):casesR x=x.cases:=by
 unfold casesR hasCases;rcases h with h|h <;> rw[h] <;> rfl
theorem sw_push {β:Type} {rec:List β→DecV→List UInt8×Int} {s:SetV} {f:ByteArray→Option ArgV} {x:NdF β} {mark:DecV} (h:swE s x.kind x.off (argOf f x.text) mark=0) (hk:x.kind=4∨x.kind=5) (hn:x.cases≠[]):
 ∃ i,∃ hi:i < (casesR x).length,swI s x.kind x.off (casesR x |>.map Prod.fst) (argOf f x.text)=(i:Int)∧swT x.kind x.text (argOf f x.text) mark=[]∧oneO rec s f x mark=rec (casesR x)[i].2 (swM s x.kind x.off (argOf f x.text) mark):=by
 have hc:=casesR_yes hk;have hne:x.cases.map Prod.fst≠[]:=fun hh=>hn (List.map_eq_nil_iff.1 hh);have hpos:=List.length_pos_iff.2 hne;rcases hk with h4|h5
 ·have h6:x.kind≠6:=by omega
  have h3:x.kind≠3:=by omega
  have h2:x.kind≠2:=by omega
  have h1:x.kind≠1:=by omega
  have hi:=caseB_lt s x.off (argOf f x.text).num (x.cases.map Prod.fst) hne;rw[List.length_map]at hi;have he:caseE s x.off (argOf f x.text).num=0:=by
   unfold swE at h;rwa[if_neg h6,if_neg h3,if_pos h4]at h
  refine⟨caseB s x.off (argOf f x.text).num (x.cases.map Prod.fst),by rw[hc];exact hi,?_,?_,?_⟩
  ·unfold swI;rw[if_pos h4,hc]
  ·unfold swT;rw[if_neg h6,if_neg h3,if_neg h2,if_pos h4]
  ·unfold oneO swM;rw[if_neg h1,if_neg h6,if_neg h3,if_pos h4,if_pos he,if_pos h4,bodyAt_get _ _ hi];simp only[hc]
 ·have h6:x.kind≠6:=by omega
  have h3:x.kind≠3:=by omega
  have h2:x.kind≠2:=by omega
  have h1:x.kind≠1:=by omega
  have h4:x.kind≠4:=by omega
  have hi:=choF_lt (argOf f x.text).text (x.cases.map Prod.fst) 0 0 (x.cases.map Prod.fst).length hpos (by omega)
  rw[List.length_map]at hi;refine⟨choF (argOf f x.text).text (x.cases.map Prod.fst) 0 0,by rw[hc];exact hi,?_,?_,?_⟩
  ·unfold swI;rw[if_neg h4,if_pos h5,hc]
  ·unfold swT;rw[if_neg h6,if_neg h3,if_neg h2,if_neg h4,if_pos h5]
  ·unfold oneO swM;rw[if_neg h1,if_neg h6,if_neg h3,if_neg h4,if_pos h5,if_neg h4,bodyAt_get _ _ hi];simp only[hc]
theorem swT_len {C:Nat} {kind:Int} {text:ByteArray} {f:ByteArray→Option ArgV} {mark:DecV} (hC:400≤C) (hf:ArgIn C f) (ht:text.size≤C):(swT kind text (argOf f text) mark).length≤C:=by
 unfold swT;split
 ·have:=numT_len mark;omega
 ·split
  ·have:=numT_len (argOf f text).num;omega
  ·split
   ·unfold showT;split
    ·rename_i hn
     have:=textD_len _ (hf.ok text hn);omega
    ·rw[bts_len];have:=hf.size text;omega
   ·split
    ·exact Nat.zero_le _
    ·split
     ·exact Nat.zero_le _
     ·rw[bts_len];exact ht
def Frm.row (q:Frm):List Value:=[.int .i64 q.til,.int .i64 q.next,.int .i64 q.mark.coef,.int .i64 q.mark.scale]
def flatFr (l:List Frm):List Value:=l.flatMap Frm.row
theorem flatFr_snoc (l:List Frm) (q:Frm):flatFr (l++[q])=flatFr l++Frm.row q:=by simp[flatFr]
theorem flatFr_len:∀ l:List Frm,(flatFr l).length=l.length*4
 | []=>rfl
 | q::l=>by show(Frm.row q++flatFr l).length=_;rw[List.length_append,flatFr_len l,List.length_cons (a:=q)];show 4+_=_;omega
def FRow (B:Nat) (W:World) (v:Value) (F:List Frm):Prop:=W.ownsRow B 122 4 v F.length (flatFr F.reverse)
theorem FRow.top {B:Nat} {W:World} {v:Value} {q:Frm} {F:List Frm} (h:FRow B W v (q::F)):∃ g cap,v=.slice (some ⟨g,0,none⟩) (F.length+1) cap∧B≤g∧g < W.heap.size∧FRow B W (.slice (some ⟨g,0,none⟩) F.length cap) F∧
 W.cell? ⟨g,F.length*4,none⟩=some (.int .i64 q.til)∧W.cell? ⟨g,F.length*4+1,none⟩=some (.int .i64 q.next)∧W.cell? ⟨g,F.length*4+2,none⟩=some (.int .i64 q.mark.coef)∧W.cell? ⟨g,F.length*4+3,none⟩=some (.int .i64 q.mark.scale):=by
 have h0:=h;obtain⟨hl,⟨_,h2⟩|⟨g,cap,cur,hv,hb,hh,hc,hm,hcs,ht⟩⟩:=h
 ·rw[List.length_cons]at h2;omega
 ·have hrev:flatFr (q::F).reverse=flatFr F.reverse++Frm.row q:=by rw[List.reverse_cons,flatFr_snoc]
  have hfl:(flatFr F.reverse).length=F.length*4:=by rw[flatFr_len,List.length_reverse]
  rw[List.length_cons]at hv hc ht;subst hv;have hcell:∀ j u,(Frm.row q)[j]? =some u→W.cell? ⟨g,F.length*4+j,none⟩=some u:=fun j u hj=>by
   have h1:=World.ownsRow.cells h0 (g:=g) rfl (F.length*4+j) u (by rw[hrev,List.getElem?_append_right (by omega),hfl,Nat.add_sub_cancel_left];exact hj)
   have e:(⟨g,0,none⟩:Addr).add (F.length*4+j)=⟨g,F.length*4+j,none⟩:=addr0 g _;rwa[e]at h1
  refine⟨g,cap,rfl,hb,Blk.lt (t:=122) hh,⟨hfl,.inr ⟨g,cap,cur,rfl,hb,hh,by omega,hm,hcs,?_⟩⟩,hcell 0 _ rfl,hcell 1 _ rfl,hcell 2 _ rfl,hcell 3 _ rfl⟩
  rw[hrev]at ht;have h2:=congrArg (List.take (F.length*4)) ht;rw[List.take_take,show min (F.length*4) ((F.length+1)*4)=F.length*4 from by omega]at h2
  rw[h2,←hfl,List.take_left]
theorem FRow.push {B:Nat} {W:World} {v:Value} {q:Frm} {F:List Frm} (h:W.ownsRow B 122 4 v (F.length+1) (flatFr F.reverse++Frm.row q)):FRow B W v (q::F):=by
 unfold FRow;rw[List.reverse_cons,flatFr_snoc];exact h
theorem FRow.on {B:Nat} {W W':World} {v:Value} {F:List Frm} (h:FRow B W v F) (hb:Below W.heap.size W W'):FRow B W' v F:=own_below h hb (Nat.le_refl _)
theorem own_wrote {B k b z n:Nat} {t:TypeId} {W W':World} {v:Value} {l:List Value} (h:W.ownsRow b t z v n l) (hb:BwK B k W W') {cs:Array Value} (hk:Blk W k 112 cs) (h1:t≠112) (h2:t≠5):W'.ownsRow b t z v n l:=by
 refine own_keep h fun g hg hlt=> ?_;obtain⟨_,⟨h2,_⟩|⟨g',cap,cur,hv,_,hh,_⟩⟩:=h
 ·rw[h2]at hg;cases hg
 ·rw[hv]at hg;injection hg with hg;have hg:g'=g:=hg;subst hg;refine hb.kept g' hlt (fun e=> ?_) (fun cs' f e=> ?_)
  ·subst e;unfold Blk at hk;rw[hk]at hh;injection hh with hh;injection hh with _ hh;exact h1 hh.symm
  ·rw[hh]at e;injection e with e;injection e with _ e;exact h2 e
theorem FRow.wrote {B k:Nat} {W W':World} {v:Value} {F:List Frm} (h:FRow B W v F) (hb:BwK B k W W') {cs:Array Value} (hk:Blk W k 112 cs):FRow B W' v F:=own_wrote h hb hk (by decide) (by decide)
theorem Bld.grew {B k:Nat} {l:List UInt8} {W W':World} {v:Value} {F:List Frm} (h:Bld B k l W) (hf:FRow B W v F) (hg:W.grownBy W' v.ownBlock):Bld B k l W':=
 h.keepQ fun g cs t f hgl ht=>hg.block g (Array.getElem?_eq_some_iff.1 hgl).1 fun e=>by
  obtain⟨_,⟨h2,_⟩|⟨g',cap,cur,hv,_,hh,_⟩⟩:=hf
  ·rw[h2]at e;cases e
  ·rw[hv]at e;injection e with e;have e:g=g':=e;subst e;rw[hh]at hgl;injection hgl with hgl;injection hgl with _ hgl;rcases ht with rfl|ht
   ·rcases h with⟨_,u,hk,_⟩|⟨_,u,hk,_⟩ <;> (rw[hh]at hk;injection hk with hk;injection hk with _ hk;exact absurd hk (by decide))
   ·exact absurd (hgl.trans ht) (by decide)
theorem Bld.blk {B k:Nat} {l:List UInt8} {W:World} (h:Bld B k l W):∃ cs,Blk W k 112 cs:=by
 rcases h with⟨_,u,hk,_⟩|⟨_,u,hk,_⟩ <;> exact⟨_,hk⟩
theorem keys_ok {B hi:Nat} {W:World} {v:Value} {ks:List ByteArray} (h:W.ownsRow B 189 2 v ks.length (keyC ks)) (hs:W.heap.size≤hi):ListOk (Enc.cas Enc.none_) W 0 hi v (ks.map fun k=>(k,([]:List Empty))):=by
 have hkc:∀(l:List ByteArray) (i:Nat) (hi:i < l.length),(keyC l)[i*2]? =some (.string l[i])∧(keyC l)[i*2+1]? =some (.slice none 0 0):=by
  intro l
  induction l with
  | nil=>intro i hi;cases hi
  | cons k l ih=>
    intro i hi;have e:keyC (k::l)=.string k :: .slice none 0 0::keyC l:=rfl;cases i with
    | zero=>exact⟨rfl,rfl⟩
    | succ i=>
      rw[e,show(i+1)*2=i*2+1+1 from by omega]
      exact ih i (by simpa using hi)
 have h0:=h;obtain⟨hl,⟨hv,h2⟩|⟨g,cap,cur,hv,hb,hh,hc,hm,hcs,ht⟩⟩:=h
 ·subst hv;have e:ks=[]:=List.length_eq_zero_iff.1 h2;subst e;exact ListOk.nil 0 none
 ·subst hv;refine⟨some ⟨g,0,none⟩,cap,by rw[List.length_map],by rw[List.length_map];exact hc,fun i hil=> ?_⟩
  rw[List.length_map]at hil;have hcell:∀ j u,(keyC ks)[j]? =some u→W.cell? ⟨g,j,none⟩=some u:=fun j u hj=>by
   have h1:=World.ownsRow.cells h0 (g:=g) rfl j u hj;have e:(⟨g,0,none⟩:Addr).add j=⟨g,j,none⟩:=addr0 g _;rwa[e]at h1
  refine⟨g,0,[.string ks[i],.slice none 0 0],rfl,Nat.zero_le _,Nat.lt_of_lt_of_le (Blk.lt (t:=189) hh) hs,fun j u hj=> ?_,.slice none 0 0,by rw[List.getElem_map],by rw[List.getElem_map];exact ListOk.nil 0 none⟩
  show W.cell? ⟨g,0+i*2+j,none⟩=some u;rw[Nat.zero_add]
  match j,hj with
  | 0,hj=>obtain rfl:=Option.some.inj hj;exact hcell _ _ (hkc ks i hil).1
  | 1,hj=>obtain rfl:=Option.some.inj hj;exact hcell _ _ (hkc ks i hil).2
theorem SRow.at {b:Nat} {W:World} {A:Option Addr} {N c:Nat} {zs:List SU} (h:SRow b W (.slice A N c) zs) (p:Nat) (hp:p < zs.length):∃ g,A=some ⟨g,0,none⟩∧g < W.heap.size∧
 W.cell? ⟨g,p*6,none⟩=some (.int .i64 zs[p].x.kind)∧W.cell? ⟨g,p*6+1,none⟩=some (.string zs[p].x.text)∧W.cell? ⟨g,p*6+2,none⟩=some (.int .i64 zs[p].x.off)∧
 W.cell? ⟨g,p*6+3,none⟩=some zs[p].v∧W.cell? ⟨g,p*6+4,none⟩=some zs[p].u∧W.cell? ⟨g,p*6+5,none⟩=some (.int .i64 zs[p].x.fin):=by
 have h0:=h.row;obtain⟨hl,⟨_,h2⟩|⟨g,cap,cur,hv,hb,hh,hc,hm,hcs,ht⟩⟩:=h.row
 ·omega
 ·injection hv with hv1 hv2 hv3;subst hv1;have hfl:∀(l:List SU) (p:Nat) (hp:p < l.length) (j:Nat) (u:Value),(SU.row l[p])[j]? =some u→(flatU l)[p*6+j]? =some u:=by
   intro l
   induction l with
   | nil=>intro p hp;cases hp
   | cons y l ih=>
     intro p hp j u hj;have e:flatU (y::l)=SU.row y++flatU l:=rfl;have e2:(SU.row y).length=6:=rfl;cases p with
     | zero=>
       rw[e,Nat.zero_mul,Nat.zero_add,List.getElem?_append_left]
       ·exact hj
       ·exact(List.getElem?_eq_some_iff.1 hj).1
     | succ p=>
       rw[e,List.getElem?_append_right (by omega),e2,show(p+1)*6+j - 6=p*6+j from by omega]
       exact ih p (by simpa using hp) j u hj
  have hcell:∀ j u,(SU.row zs[p])[j]? =some u→W.cell? ⟨g,p*6+j,none⟩=some u:=fun j u hj=>by
   have h1:=World.ownsRow.cells h0 (g:=g) rfl (p*6+j) u (hfl zs p hp j u hj);have e:(⟨g,0,none⟩:Addr).add (p*6+j)=⟨g,p*6+j,none⟩:=addr0 g _;rwa[e]at h1
  exact⟨g,rfl,Blk.lt (t:=129) hh,hcell 0 _ rfl,hcell 1 _ rfl,hcell 2 _ rfl,hcell 3 _ rfl,hcell 4 _ rfl,hcell 5 _ rfl⟩
theorem natAt {b:Nat} {W:World} {u:Value} {l:List Nat} (h:W.ownsRow b 3 1 u l.length (natC l)) {i e:Nat} (hi:l[i]? =some e):∃ g cap,u=.slice (some ⟨g,0,none⟩) l.length cap∧g < W.heap.size∧i < l.length∧W.cell? ⟨g,i,none⟩=some (.int .i64 (e:Int)):=by
 have h0:=h;have hil:=(List.getElem?_eq_some_iff.1 hi).1;obtain⟨hl,⟨_,h2⟩|⟨g,cap,cur,hv,hb,hh,hc,hm,hcs,ht⟩⟩:=h
 ·omega
 ·subst hv;refine⟨g,cap,rfl,Blk.lt (t:=3) hh,hil,?_⟩;have h1:=World.ownsRow.cells h0 (g:=g) rfl i (.int .i64 (e:Int)) (by unfold natC;rw[List.getElem?_map,hi];rfl)
  have e:(⟨g,0,none⟩:Addr).add i=⟨g,i,none⟩:=addr0 g _;rwa[e]at h1
theorem natCell {b g n c:Nat} {W:World} {l:List Nat} (h:W.ownsRow b 3 1 (.slice (some ⟨g,0,none⟩) n c) l.length (natC l)) {i e:Nat} (hi:l[i]? =some e):W.cell? ⟨g,i,none⟩=some (.int .i64 (e:Int)):=by
 obtain⟨g',cap,hv,_,_,hq⟩:=natAt h hi;injection hv with hv1 _ _;injection hv1 with hv1;injection hv1 with hv1 _;subst hv1;exact hq
theorem info_frame:(Tryz.prog.info? 122).map (fun i=>(i.zero,i.size,i.bytes))=some (some (.agg #[.int .i64 0,.int .i64 0,.int .i64 0,.int .i64 0]),4,32):=by kernel_rfl
theorem frm_news (W:World) (a b c d:Value):∀ q u,([a,b,c,d]:List Value)[q]? =some u→(W.alloc (.cells #[a,b,c,d] 122)).drew.cell? ⟨W.heap.size,0+q,none⟩=some u:=fun q u hq=>by
 have h:=(Blk.new W 122 #[a,b,c,d]).cell q;rw[Nat.zero_add];exact h.trans (by simpa using hq)
theorem keys_small {β:Type} {S:β→Prop} {x:NdF β} (h:smallF S x):((casesR x).map Prod.fst).length≤10000000∧∀ c∈((casesR x).map Prod.fst).map (fun k=>(k,([]:List Empty))),c.1.size≤1000000000:=by
 obtain⟨_,h1,h2⟩:=h
 constructor
 ·rw[List.length_map];unfold casesR;split
  ·exact h1
  ·exact Nat.zero_le _
 ·intro c hc;obtain⟨k,hk,rfl⟩:=List.mem_map.1 hc;obtain⟨y,hy,rfl⟩:=List.mem_map.1 hk;exact(h2 y (casesR_sub hy)).1
theorem frow_one (B:Nat) (W:World) (q:Frm) (hB:B≤W.heap.size):FRow B (W.alloc (.cells #[.int .i64 q.til,.int .i64 q.next,.int .i64 q.mark.coef,.int .i64 q.mark.scale] 122)) (.slice (some ⟨W.heap.size,0,none⟩) 1 1) [q]:=
 ⟨rfl,.inr ⟨W.heap.size,1,_,rfl,hB,Blk.new W 122 _,Nat.le_refl _,by unfold maxLen;omega,rfl,rfl⟩⟩
theorem own_cap {b z n:Nat} {t:TypeId} {W:World} {A:Option Addr} {k c:Nat} {l:List Value} (h:W.ownsRow b t z (.slice A k c) n l):k=n∧n≤c:=by
 obtain⟨A',c',hv,hc⟩:=own_slice h;injection hv with _ h2 h3;subst h2;subst h3;exact⟨rfl,hc⟩
def lenOf:Value→Nat
 | .slice _ n _=>n
 | _=>0
end Go.Proofs.YtpfmmbbggcghiaaGreatDoor
