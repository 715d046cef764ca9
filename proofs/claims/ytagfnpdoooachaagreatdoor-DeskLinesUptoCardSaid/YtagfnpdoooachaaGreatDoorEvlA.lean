/- msg.Parse: its closure, its ways out. -/
import Derived.Test.YtagfnpdoooachaaGreatDoorRdN
import Derived.Test.YtagfnpdoooachaaGreatDoorLangA
set_option linter.unusedSimpArgs false
set_option linter.unusedVariables false
set_option maxHeartbeats 3200000
set_option maxRecDepth 100000
namespace Go.Proofs.YtagfnpdoooachaaGreatDoor
open Go.RowKit
open Lib (hid)
theorem assert_errP (v:Value) (w:World):(Instr.typeAssert (.iface 27 v) 20 27 true).run Tryz.prog w=.ok (.tuple #[v,.bool true]) w:=by
 simp[Instr.typeAssert,run_underlying Tryz.underlying27]
theorem rep16P:(Array.replicate 16 undef:Array Value)=#[undef,undef,undef,undef,undef,undef,undef,undef,undef,undef,undef,undef,undef,undef,undef,undef]:=rfl
theorem par_idle (po pe:Addr) (w:World):CallsD Tryz.prog 85 #[.pointer (some po),.pointer (some pe)] .returning w fun e u' w'=>e=.returned (.tuple #[])∧u'=.returning∧w'=w:=by
 refine callsD_of_wpS Tryz.func85 rfl fun c₀ cs hu=> ?_;apply wpS_seq;apply wpS_region;simp[wpOpsS,go_sem,recoverD,hu,Tryz.ntmps85,Exit.thenS];rw[rep16P];simp only[List.setIfInBounds_toArray,List.set_cons_zero,List.set_cons_succ,List.append_toArray,List.cons_append,List.nil_append];refine wpS_of_wp ?_
 go_wp2_with fail
 cases c₀
 simp_all [bodyPostS,results,Tryz.results85]
theorem par_caught (B po pe:Nat) (hB0:B≤po) (hB1:B≤pe) (x:Int) (v z:Value) (older:List PanicEntry) (w:World) (ho:Blk w po 84 #[v]) (he:Blk w pe 47 #[z]):
 CallsD Tryz.prog 85 #[.pointer (some ⟨po,0,none⟩),.pointer (some ⟨pe,0,none⟩)] (.panicking ({ v:=.iface 27 (.int .i64 x),recovered:=false }::older)) w fun e u' w'=>
  e=.returned (.tuple #[])∧u'=.panicking ({ v:=.iface 27 (.int .i64 x),recovered:=true }::older)∧Below B w w'∧Blk w' po 84 #[.slice none 0 0]∧Blk w' pe 47 #[.iface 27 (.int .i64 x)]:=by
 refine callsD_of_wpS Tryz.func85 rfl fun c₀ cs hu=> ?_;apply wpS_seq;apply wpS_region;simp[wpOpsS,go_sem,recoverD,hu,Tryz.ntmps85,Exit.thenS];rw[rep16P];simp only[List.setIfInBounds_toArray,List.set_cons_zero,List.set_cons_succ,List.append_toArray,List.cons_append,List.nil_append];have o0:=ho.cell 0;have o2:=he.cell 0;have f0:=ho.frozen 0;have f2:=he.frozen 0;simp at o0 o2;have ha:=assert_errP (.int .i64 x);have hne:¬ pe=po:=by
  rintro rfl;unfold Blk at ho he;rw[ho]at he;injection he with he;injection he with _ he;exact absurd he (by decide)
 have hne':¬ po=pe:=fun h=>hne h.symm;have HO:=hid ho;have HE:=hid he;clear ho he;refine wpS_of_wp ?_
 go_wp2_with fail
 have h1:=(HO.out.set_ 0 (.slice none 0 0)).far (p:=⟨pe,0,none⟩) hne' (.iface 27 (.int .i64 x));have h2:=(HE.out.far (p:=⟨po,0,none⟩) hne (.slice none 0 0)).set_ 0 (.iface 27 (.int .i64 x));have h3:Below B w ((w.setCell ⟨po,0,none⟩ (.slice none 0 0)).setCell ⟨pe,0,none⟩ (.iface 27 (.int .i64 x))):=((Below.refl B w).setCell (p:=⟨po,0,none⟩) hB0 _).setCell (p:=⟨pe,0,none⟩) hB1 _;exact⟨rfl,_,rfl,.tuple #[],by simp[results,Tryz.results85],rfl,rfl,h3,h1,h2⟩
def parD (B:Nat):List Deferred:=[{ target:=.fn (.func 85) #[.pointer (some ⟨B,0,none⟩),.pointer (some ⟨B+1,0,none⟩)],args:=#[] }]
theorem par_thrown (B:Nat) (x:Int) (tmps:Array Value) (R:Ending→World→Prop) (v z:Value) (w:World) (h2:tmps.getD 2 undef=.pointer (some ⟨B,0,none⟩)) (h3:tmps.getD 3 undef=.pointer (some ⟨B+1,0,none⟩))
 (k0:Blk w B 84 #[v]) (k1:Blk w (B+1) 47 #[z]) (hR:∀ W,Below B w W→R (.returned (.tuple #[.slice none 0 0,.iface 27 (.int .i64 x)])) W):
 Leaves Tryz.prog Tryz.f47 tmps R (parD B) (.panicking [{ v:=.iface 27 (.int .i64 x),recovered:=false }]) w:=by
 refine leaves_cons (f:=85) (args:=#[.pointer (some ⟨B,0,none⟩),.pointer (some ⟨B+1,0,none⟩)]) (by simp) (by simp[go_sem]) ?_
 refine(par_caught B B (B+1) (Nat.le_refl _) (by omega) x v z [] w k0 k1).mono ?_
 rintro e u' w2 ⟨rfl,rfl,hb2,q0,q1⟩;have c0:=q0.cell 0;have c2:=q1.cell 0;simp at c0 c2;have HR:=hid (hR w2 hb2);clear hR;simp at h2 h3;simp[Leaves,settle,results,Tryz.results47,go_sem,h2,h3,c0,c2];exact HR.out
theorem par_told (B:Nat) (tmps:Array Value) (R:Ending→World→Prop) (A:Option Addr) (n c:Nat) (z:Value) (w:World) (h2:tmps.getD 2 undef=.pointer (some ⟨B,0,none⟩)) (h3:tmps.getD 3 undef=.pointer (some ⟨B+1,0,none⟩))
 (k0:Blk w B 84 #[.slice A n c]) (k1:Blk w (B+1) 47 #[z]) (hR:R (.returned (.tuple #[.slice A n c,z])) w):
 Leaves Tryz.prog Tryz.f47 tmps R (parD B) .returning w:=by
 refine leaves_cons (f:=85) (args:=#[.pointer (some ⟨B,0,none⟩),.pointer (some ⟨B+1,0,none⟩)]) (by simp) (by simp[go_sem]) ?_
 refine(par_idle _ _ w).mono ?_;rintro e u' w2 ⟨rfl,rfl,rfl⟩;have c0:=k0.cell 0;have c2:=k1.cell 0;simp at c0 c2;have HR:=hid hR;clear hR;simp at h2 h3;simp[Leaves,settle,results,Tryz.results47,go_sem,h2,h3,c0,c2];exact HR.out
def ParR (l:List UInt8) (w:World) (e:Ending) (w':World):Prop:=
 Below w.heap.size w w'∧∃ v,e=.returned (.tuple #[v,errV (parE l)])∧MkN 7 w.heap.size w'.heap.size w' v (if parE l=0 then parM l else [])
theorem parR_bad {l:List UInt8} {w w':World} {x:Int} (hx:parE l=x) (h0:x≠0) (hb:Below w.heap.size w w'):ParR l w (.returned (.tuple #[.slice none 0 0,.iface 27 (.int .i64 x)])) w':=by
 subst hx;refine⟨hb,.slice none 0 0,by rw[errV_ne h0],?_⟩
 rw[if_neg h0];exact RowOk.nil nodC 4 _ _ _ _ _ _
theorem parE_long {l:List UInt8} (h:2000 < l.length):parE l=4:=if_pos h
theorem parE_none {l:List UInt8} (h:¬ 2000 < l.length) (h1:readM 7 false l=none):parE l=3:=by unfold parE;rw[if_neg h,h1]
theorem parE_rest {l:List UInt8} {m:List (Nd 7)} {c:UInt8} {r:List UInt8} (h:¬ 2000 < l.length) (h1:readM 7 false l=some (m,c::r)):parE l=3:=by unfold parE;rw[if_neg h,h1]
theorem parE_read {l:List UInt8} {m:List (Nd 7)} (h:¬ 2000 < l.length) (h1:readM 7 false l=some (m,[])):parE l=(if checkAll 7 m=0 then 0 else 3)∧parM l=m:=by
 unfold parE parM;rw[if_neg h,h1];exact⟨rfl,rfl⟩
theorem mParse_any (l:List UInt8) (w:World) (hV:MV w):
 Calls Tryz.prog 47 #[.string (str l)] w fun e w'=>ParR l w e w':=by
 have hmf:∀(fn:Fn) (first cap:Array Value) (w:World),(Instr.makeFunc fn first cap).run Tryz.prog w=.ok (.func fn first cap) w:=fun _ _ _ _=>rfl
 have hsz:=str_size l;obtain⟨W1,eW1⟩:∃ W1,W1=(w.alloc (.cells #[.slice none 0 0] 84)).alloc (.cells #[.nilIface] 47):=⟨_,rfl⟩;have hb1:Below w.heap.size w W1:=by rw[eW1];exact((Below.refl _ _).alloc (Nat.le_refl _) _).alloc (by simp) _
 have hm1:Blk W1 w.heap.size 84 #[.slice none 0 0]:=by rw[eW1];exact(Blk.new _ _ _).alloc _
 have he1:Blk W1 (w.heap.size+1) 47 #[.nilIface]:=by
  rw[eW1];have:=Blk.new (w.alloc (.cells #[.slice none 0 0] 84)) 47 #[.nilIface];rwa[World.size_alloc]at this
 have hz1:W1.heap.size=w.heap.size+2:=by rw[eW1];simp
 have HB1:=hid hb1;have HM1:=hid hm1;have HE1:=hid he1;have EW1:=hid eW1
 by_cases hl:2000 < l.length
 ·have HP:=hid (parE_long hl);have k0:=(hm1.cell 0).trans (show _=some (.slice none 0 0)from rfl);have k1:=(he1.cell 0).trans (show _=some .nilIface from rfl);have f0:=hm1.frozen 0;have f1:=he1.frozen 0;have hgt:(2000:Int) < (l.length:Int):=by omega
  clear hb1 hm1 he1 eW1
  go_enter_defers Tryz.func47,Tryz.ntmps47
  go_upto_region 1 with fail
  rw[←EW1.out];clear EW1
  go_wp2_with fail
  have hb2:Below w.heap.size w ((W1.setCell ⟨w.heap.size,0,none⟩ (.slice none 0 0)).setCell ⟨w.heap.size+1,0,none⟩ (.iface 27 (.int .i64 4))):=(HB1.out.setCell (p:=⟨w.heap.size,0,none⟩) (Nat.le_refl _) _).setCell (p:=⟨w.heap.size+1,0,none⟩) (Nat.le_succ _) _;refine⟨.tuple #[.slice none 0 0,.iface 27 (.int .i64 4)],?_,parR_bad HP.out (by decide) hb2⟩
  simp[results,Tryz.results47,go_sem,k0,k1,f0,f1]
 ·have hngt:¬((2000:Int) < (l.length:Int)):=by omega
  obtain⟨W2,eW2⟩:∃ W2,W2=W1.alloc (.cells #[.string (str l),.int .i64 0] 149):=⟨_,rfl⟩;have hb12:Below W1.heap.size W1 W2:=by rw[eW2];exact(Below.refl _ _).alloc (Nat.le_refl _) _
  have hr2:Rdr W2 (w.heap.size+2) l 0:=by
   rw[eW2,←hz1];exact Blk.new _ _ _
  have hz2:W2.heap.size=w.heap.size+3:=by rw[eW2,World.size_alloc,hz1]
  have HB2:=hid (hb1.trans (hb12.mono (by omega)))
  have HM2:=hid (hm1.below hb12 (by omega))
  have HE2:=hid (he1.below hb12 (by omega))
  have HRd:=hid (rmessage_any 7 0 rfl (w.heap.size+2) false l W2 hr2 (by omega))
  have EW2:=hid eW2;have HMV:Hid (∀ W,Below w.heap.size w W→MV W):=hid fun W hW=>hV.below hW;have HZ1:=hid hz1;clear hb1 hm1 he1 eW1 eW2 hb12 hr2 hV
  go_enter_defers Tryz.func47,Tryz.ntmps47
  go_upto_region 1 with fail
  rw[←EW1.out];clear EW1
  go_wp2_with fail
  rw[←EW2.out];clear EW2 hz1
  change Calls _ _ _ _ _
  cases ho:readM 7 false l with
  | none=>
    rw[ho]at HRd;have HP:=hid (parE_none hl ho);clear ho;refine HRd.out.mono ?_;clear HRd;rintro e w3 ⟨hF3,rfl,l3,d3,hR3⟩;have hb3:Below w.heap.size w w3:=Fr.below HB2.out hF3 (by omega) (fun i e=>by have:i=w.heap.size+2:=e;omega)
    have HB3:=hid hb3;have HM3:=hid (HM2.out.fr hF3 (by show ¬ w.heap.size=w.heap.size+2;omega))
    have HE3:=hid (HE2.out.fr hF3 (by show ¬ w.heap.size+1=w.heap.size+2;omega))
    clear hF3 hR3 hb3
    go_wp2_with fail
    exact par_thrown w.heap.size 3 _ _ (.slice none 0 0) .nilIface w3 rfl rfl HM3.out HE3.out fun W hW=>parR_bad HP.out (by decide) (HB3.out.trans hW)
  | some p=>
    obtain⟨m,r⟩:=p;rw[ho]at HRd;have hbk:=readM_len 7 false l m r ho;refine HRd.out.mono ?_;clear HRd;rintro e w3 ⟨hF3,v,rfl,hR3,hK3⟩;obtain⟨A,c,rfl⟩:=hK3.form;have hb3:Below w.heap.size w w3:=Fr.below HB2.out hF3 (by omega) (fun i e=>by have:i=w.heap.size+2:=e;omega)
    have hm3:=HM2.out.fr hF3 (by show ¬ w.heap.size=w.heap.size+2;omega)
    have he3:=HE2.out.fr hF3 (by show ¬ w.heap.size+1=w.heap.size+2;omega)
    have k0:=(hm3.cell 0).trans (show _=some (.slice none 0 0)from rfl);have f0:=hm3.frozen 0;have hs3:W2.heap.size≤w3.heap.size:=hF3.size;obtain⟨W4,eW4⟩:∃ W4,W4=w3.setCell ⟨w.heap.size,0,none⟩ (.slice A m.length c):=⟨_,rfl⟩;have hz4:W4.heap.size=w3.heap.size:=by rw[eW4];simp[World.setCell]
    have hb4:Below w.heap.size w W4:=by rw[eW4];exact hb3.setCell (p:=⟨w.heap.size,0,none⟩) (Nat.le_refl _) _
    have hm4:Blk W4 w.heap.size 84 #[.slice A m.length c]:=by rw[eW4];exact hm3.set_ 0 _
    have he4:Blk W4 (w.heap.size+1) 47 #[.nilIface]:=by rw[eW4];exact he3.far (p:=⟨w.heap.size,0,none⟩) (by show w.heap.size+1≠w.heap.size;omega) _
    have hr4:Rdr W4 (w.heap.size+2) r 0:=by rw[eW4];exact Blk.far (t:=149) hR3 (p:=⟨w.heap.size,0,none⟩) (by show w.heap.size+2≠w.heap.size;omega) _
    have hk4:MkN 7 W2.heap.size W4.heap.size W4 (.slice A m.length c) m:=by
     rw[hz4,eW4];exact(mkN_laws 7).keep hK3 fun g g1 _=>Below.heap_setCell _ _ _ _ (by show g≠w.heap.size;omega)
    have r0:=(Blk.cell (t:=149) hr4 0).trans (show _=some (.string (str r))from rfl);have m0:=(hm4.cell 0).trans (show _=some (.slice A m.length c)from rfl);have m1:=(he4.cell 0).trans (show _=some .nilIface from rfl);have q0:=hm4.frozen 0;have q1:=he4.frozen 0;have HB4:=hid hb4;have HM4:=hid hm4;have HE4:=hid he4;have HK4:=hid hk4;have EW4:=hid eW4;clear hF3 hR3 hK3 hb3 hm3 he3 eW4 hb4 hm4 he4 hr4 hk4 HM2 HE2 HB2 HM1 HE1 HB1
    go_upto_region 6 with fail
    rw[←EW4.out];clear EW4 k0 f0;cases r with
    | cons x r=>
      have HP:=hid (parE_rest hl ho);have ht:((str (x::r)).toList.isEmpty)=false:=by rw[str_tl];rfl
      have hb5:Below w.heap.size w ((W4.setCell ⟨w.heap.size,0,none⟩ (.slice none 0 0)).setCell ⟨w.heap.size+1,0,none⟩ (.iface 27 (.int .i64 3))):=(HB4.out.setCell (p:=⟨w.heap.size,0,none⟩) (Nat.le_refl _) _).setCell (p:=⟨w.heap.size+1,0,none⟩) (Nat.le_succ _) _;have hm5:Blk ((W4.setCell ⟨w.heap.size,0,none⟩ (.slice none 0 0)).setCell ⟨w.heap.size+1,0,none⟩ (.iface 27 (.int .i64 3))) w.heap.size 84 #[.slice none 0 0]:=(HM4.out.set_ 0 _).far (p:=⟨w.heap.size+1,0,none⟩) (by show w.heap.size≠w.heap.size+1;omega) _
      have he5:Blk ((W4.setCell ⟨w.heap.size,0,none⟩ (.slice none 0 0)).setCell ⟨w.heap.size+1,0,none⟩ (.iface 27 (.int .i64 3))) (w.heap.size+1) 47 #[.iface 27 (.int .i64 3)]:=(HE4.out.far (p:=⟨w.heap.size,0,none⟩) (by show w.heap.size+1≠w.heap.size;omega) _).set_ 0 _
      have HF:=hid (And.intro hb5 (And.intro hm5 he5));clear hb5 hm5 he5 ho
      go_wp2_with fail
      exact par_told w.heap.size _ _ none 0 0 _ _ rfl rfl HF.out.2.1 HF.out.2.2 (parR_bad HP.out (by decide) HF.out.1)
    | nil=>
      obtain⟨hpe,hpm⟩:=parE_read hl ho;have HP:=hid hpe;have HPm:=hid hpm;have ht:((str []).toList.isEmpty)=true:=by rw[str_tl];rfl
      have hbs:(m.map (Enc.node 7).bulk).sum≤10000000:=by omega
      have HCk:=hid (Check_any 7 m (.slice A m.length c) W2.heap.size W4 (msgIn_of_bulk 7 m hbs) (HK4.out.list) (HMV.out W4 HB4.out));clear ho hpe hpm hbk hbs
      go_wp2_with fail
      refine HCk.out.mono ?_;clear HCk;rintro e w5 ⟨rfl,hb5⟩;have hm5:=HM4.out.below hb5 HM4.out.lt;have he5:=HE4.out.below hb5 HE4.out.lt;have k0:=(hm5.cell 0).trans (show _=some (.slice A m.length c)from rfl);have k1:=(he5.cell 0).trans (show _=some .nilIface from rfl);have f0:=hm5.frozen 0;have f1:=he5.frozen 0;have HB5:=hid (HB4.out.trans (hb5.mono HB4.out.size));have HK5:Hid (MkN 7 W2.heap.size w5.heap.size w5 (.slice A m.length c) m):=hid ((mkN_laws 7).mono ((mkN_laws 7).keep HK4.out fun g _ g2=>hb5.block g g2) (Nat.le_refl _) hb5.size);have HM5:=hid hm5;have HE5:=hid he5;clear hb5 hm5 he5 r0 m0 m1 q0 q1 HK4 HB4 HM4 HE4
      by_cases hck:checkAll 7 m=0
      ·rw[if_pos hck]at HP;rw[hck,errV_zero];have HF:Hid (Below w.heap.size w ((w5.setCell ⟨w.heap.size,0,none⟩ (.slice A m.length c)).setCell ⟨w.heap.size+1,0,none⟩ .nilIface)∧Blk ((w5.setCell ⟨w.heap.size,0,none⟩ (.slice A m.length c)).setCell ⟨w.heap.size+1,0,none⟩ .nilIface) w.heap.size 84 #[.slice A m.length c]∧Blk ((w5.setCell ⟨w.heap.size,0,none⟩ (.slice A m.length c)).setCell ⟨w.heap.size+1,0,none⟩ .nilIface) (w.heap.size+1) 47 #[.nilIface]):=hid
        ⟨(HB5.out.setCell (p:=⟨w.heap.size,0,none⟩) (Nat.le_refl _) _).setCell (p:=⟨w.heap.size+1,0,none⟩) (Nat.le_succ _) _,(HM5.out.set_ 0 _).far (p:=⟨w.heap.size+1,0,none⟩) (by show w.heap.size≠w.heap.size+1;omega) _,(HE5.out.far (p:=⟨w.heap.size,0,none⟩) (by show w.heap.size+1≠w.heap.size;omega) _).set_ 0 _⟩
       have HKF:Hid (MkN 7 w.heap.size ((w5.setCell ⟨w.heap.size,0,none⟩ (.slice A m.length c)).setCell ⟨w.heap.size+1,0,none⟩ .nilIface).heap.size ((w5.setCell ⟨w.heap.size,0,none⟩ (.slice A m.length c)).setCell ⟨w.heap.size+1,0,none⟩ .nilIface) (.slice A m.length c) m):=hid (by
        refine(mkN_laws 7).mono ((mkN_laws 7).keep HK5.out fun g g1 _=> ?_) (by omega) (by simp[World.setCell])
        rw[Below.heap_setCell _ _ _ _ (by show g≠w.heap.size+1;omega),Below.heap_setCell _ _ _ _ (by show g≠w.heap.size;omega)])
       clear hck
       go_wp2_with fail
       refine par_told w.heap.size _ _ A m.length c .nilIface _ rfl rfl HF.out.2.1 HF.out.2.2 ⟨HF.out.1,_,by rw[HP.out];rfl,?_⟩
       rw[if_pos HP.out,HPm.out];exact HKF.out
      ·rw[if_neg hck]at HP;rw[errV_ne hck];have HF:Hid (Below w.heap.size w ((w5.setCell ⟨w.heap.size,0,none⟩ (.slice none 0 0)).setCell ⟨w.heap.size+1,0,none⟩ (.iface 27 (.int .i64 3)))∧Blk ((w5.setCell ⟨w.heap.size,0,none⟩ (.slice none 0 0)).setCell ⟨w.heap.size+1,0,none⟩ (.iface 27 (.int .i64 3))) w.heap.size 84 #[.slice none 0 0]∧Blk ((w5.setCell ⟨w.heap.size,0,none⟩ (.slice none 0 0)).setCell ⟨w.heap.size+1,0,none⟩ (.iface 27 (.int .i64 3))) (w.heap.size+1) 47 #[.iface 27 (.int .i64 3)]):=hid
        ⟨(HB5.out.setCell (p:=⟨w.heap.size,0,none⟩) (Nat.le_refl _) _).setCell (p:=⟨w.heap.size+1,0,none⟩) (Nat.le_succ _) _,(HM5.out.set_ 0 _).far (p:=⟨w.heap.size+1,0,none⟩) (by show w.heap.size≠w.heap.size+1;omega) _,(HE5.out.far (p:=⟨w.heap.size,0,none⟩) (by show w.heap.size+1≠w.heap.size;omega) _).set_ 0 _⟩
       clear hck
       go_wp2_with fail
       exact par_told w.heap.size _ _ none 0 0 _ _ rfl rfl HF.out.2.1 HF.out.2.2 (parR_bad HP.out (by decide) HF.out.1)
def parG (l:List UInt8):List (Nd 7):=if parE l=0 then parM l else []
theorem parG_bulk (l:List UInt8):((parG l).map (Enc.node 7).bulk).sum≤6000:=by
 unfold parG
 by_cases h:parE l=0
 ·rw[if_pos h]
  by_cases hl:2000 < l.length
  ·rw[parE_long hl]at h;exact absurd h (by decide)
  ·cases ho:readM 7 false l with
   | none=>rw[parE_none hl ho]at h;exact absurd h (by decide)
   | some p=>
     obtain⟨m,r⟩:=p;cases r with
     | cons x r=>rw[parE_rest hl ho]at h;exact absurd h (by decide)
     | nil=>
       rw[(parE_read hl ho).2];have:=readM_len 7 false l m [] ho;simp only[List.length_nil]at this;omega
 ·rw[if_neg h];exact Nat.zero_le _
theorem mkN_later {n lo hi:Nat} {w W:World} {v:Value} {m:List (Nd n)} (h:MkN n lo hi w v m) (hb:Below hi w W) (hs:hi≤w.heap.size):ListOk (Enc.node n) W 0 W.heap.size v m:=
 (((mkN_laws n).keep h fun g _ g2=>hb.block g g2).list).mono (Enc.node_laws n) (Nat.zero_le _) (Nat.le_trans hs hb.size)
theorem exactR_range (s:ByteArray): -1≤exactR s∧exactR s≤999:=by
 unfold exactR;split
 ·exact⟨by decide,by decide⟩
 ·split
  ·exact⟨by decide,by decide⟩
  ·split
   ·exact⟨by decide,by decide⟩
   ·split
    ·exact⟨by decide,by decide⟩
    ·split
     ·exact⟨by omega,by omega⟩
     ·exact⟨by decide,by decide⟩
theorem Exact_any (s:ByteArray) (w:World) (hs:s.size≤1000000000) (hv:MV w):Calls Tryz.prog 218 #[.string s] w fun e w'=>e=.returned (.tuple #[.int .i64 (exactR s),.bool (decide (0≤exactR s))])∧Below w.heap.size w w':=by
 have H1:Hid (∀ W,Below w.heap.size w W→Calls Tryz.prog 233 #[.string s] W fun e w'=>e=.returned (.int .i64 (exactR s))∧Below W.heap.size W w'):=hid fun W hW=>exact_any s W hs (hv.below hW);generalize exactR s=x at *;have H2:=hid (H1.out w (Below.refl _ _));clear hv
 by_cases hx:0≤x
 ·have hd:decide (0≤x)=true:=decide_eq_true hx
  go_enter Tryz.func218,Tryz.ntmps218
  go_wp2_with fail
  refine H2.out.mono ?_;clear H2;rintro e w1 ⟨rfl,hb1⟩;have HB1:=hid hb1;have H3:=hid (H1.out w1 hb1);clear H1 hb1
  go_wp2_with fail
  refine H3.out.mono ?_;clear H3;rintro e w2 ⟨rfl,hb2⟩;have HB2:=hid (HB1.out.trans (hb2.mono HB1.out.size));clear hb2
  go_wp2_with fail
  go_ret2
  exact⟨by first|rfl|(rw[hd];rfl),HB2.out⟩
 ·have hd:decide (0≤x)=false:=decide_eq_false hx
  go_enter Tryz.func218,Tryz.ntmps218
  go_wp2_with fail
  refine H2.out.mono ?_;clear H2;rintro e w1 ⟨rfl,hb1⟩;have HB1:=hid hb1;have H3:=hid (H1.out w1 hb1);clear H1 hb1
  go_wp2_with fail
  refine H3.out.mono ?_;clear H3;rintro e w2 ⟨rfl,hb2⟩;have HB2:=hid (HB1.out.trans (hb2.mono HB1.out.size));clear hb2
  go_wp2_with fail
  go_ret2
  exact⟨by first|rfl|(rw[hd];rfl),HB2.out⟩
theorem othB_list:othB.toList=[111,116,104,101,114]:=by rw[ByteArray.toList_eq];rfl
def choF (s:ByteArray):List ByteArray→Nat→Nat→Nat
 | [],_,b=>b
 | k::r,i,b=>if eqs k s=true then i else choF s r (i+1) (if eqs k othB=true then i else b)
theorem choF_lt (s:ByteArray):∀(l:List ByteArray) (i b n:Nat),b < n→i+l.length≤n→choF s l i b < n
 | [],i,b,n,h,_=>h
 | k::r,i,b,n,h,hl=>by
   rw[List.length_cons]at hl;unfold choF;split
   ·omega
   ·refine choF_lt s r (i+1) _ n ?_ (by omega)
    split
    ·omega
    ·exact h
theorem Choice_any {β:Type} {E:Enc β} (hE:E.Laws) (kind off:Int) (text:ByteArray) (cs:List (ByteArray×List β)) (V:Value) (s:ByteArray) (lo hi:Nat) (w:World) (hV:ListOk (Enc.cas E) w lo hi V cs) (hh:hi≤w.heap.size) (hl:cs.length≤10000000):
 Calls Tryz.prog 180 #[.agg #[.int .i64 kind,.string text,.int .i64 off,V],.string s] w fun e w'=>e=.returned (.int .i64 (choF s (cs.map Prod.fst) 0 0:Nat))∧Below w.heap.size w w':=by
 obtain⟨A,c,rfl,_⟩:=hV.form;have HV:Hid (∀ W,Below w.heap.size w W→ListOk (Enc.cas E) W lo hi (.slice A cs.length c) cs):=hid fun W hW=>hV.keep (Enc.cas_laws hE) ((Alk.of_below hW).mono (Nat.zero_le _) hh);have HB:Hid (Below w.heap.size w (w.alloc (.cells #[.int .i64 kind,.string text,.int .i64 off,.slice A cs.length c] 197))):=hid ((Below.refl _ _).alloc (Nat.le_refl _) _);have hkl:(cs.map Prod.fst).length=cs.length:=List.length_map _;have HKl:=hid hkl;obtain⟨R,hR⟩:∃ R,R=choF s (cs.map Prod.fst) 0 0:=⟨_,rfl⟩;have HR:=hid hR;rw[←hR];clear hV hkl hR
 go_enter Tryz.func180,Tryz.ntmps180
 go_wp2_with fail
 go_loopw [5,11] (fun b i wr=>∃ j q:Nat,j≤cs.length∧b=.int .i64 (q:Int)∧i=.int .i64 (j:Int)∧Hid (R=choF s ((cs.map Prod.fst).drop j) j q)∧Below w.heap.size w wr) (fun _ i _=>cs.length - (intOf i).toNat)
 case atStart=>exact⟨0,0,Nat.zero_le _,rfl,rfl,HR,HB.out⟩
 case round=>
  clear HB HR;obtain⟨j,q,hj,rfl,rfl,HR,hb⟩:=hrel;have HB:=hid hb
  by_cases hlt:j < cs.length
  ·have i1:(0:Int)≤(j:Int):=Int.natCast_nonneg j;have i2:(j:Int) < (cs.length:Int):=by omega
   obtain⟨b1,o1,U,rfl,_,_,z0,z1,hU⟩:=(HV.out _ hb).casAt j hlt;obtain⟨UA,Uc,rfl,_⟩:=hU.form;have hdr:(cs.map Prod.fst).drop j=cs[j].1::(cs.map Prod.fst).drop (j+1):=by
    rw[List.drop_eq_getElem_cons (by rw[HKl.out];exact hlt),List.getElem_map]
   rw[hdr]at HR;have HBa:Hid (Below w.heap.size w (wr.alloc (.cells #[.string cs[j].1,.slice UA cs[j].2.length Uc] 253))):=hid (hb.alloc hb.size _);clear hU hdr hb HV;generalize cs[j]=cc at *;obtain⟨ck,cb⟩:=cc;dsimp only at z0 z1 HR HBa
   by_cases hk:eqs ck s=true
   ·have hk':(ck.toList == s.toList)=true:=hk;have HE:Hid (R=j):=hid (HR.out.trans (if_pos hk));clear hk HR
    go_wp2_with fail
    go_ret
    exact⟨by rw[HE.out];rfl,HBa.out⟩
   ·have hk':(ck.toList == s.toList)=false:=by simpa[eqs]using hk
    have HE:Hid (R=choF s ((cs.map Prod.fst).drop (j+1)) (j+1) (if eqs ck othB=true then j else q)):=hid (HR.out.trans (if_neg hk))
    clear hk HR
    by_cases ho:eqs ck othB=true
    ·have ho':(ck.toList == [111,116,104,101,114])=true:=by
      have:=(eqs_iff _ _).1 ho;rw[this,othB_list];exact beq_self_eq_true _
     rw[if_pos ho]at HE;clear ho
     go_wp2_with fail
     go_roundw
     case rel=>exact⟨j+1,j,by omega,rfl,by go_num,HE,HBa.out⟩
     case measure=>simp[intOf];omega
    ·have ho':(ck.toList == [111,116,104,101,114])=false:=by
      cases h:(ck.toList == [111,116,104,101,114])with
      | false=>rfl
      | true=>
        exfalso
        apply ho;rw[eqs_iff];have e1:ck.toList=othB.toList:=by rw[beq_iff_eq]at h;rw[h,othB_list]
        exact(eqs_iff _ _).1 (by unfold eqs;rw[e1];exact beq_self_eq_true _)
     rw[if_neg ho]at HE;clear ho
     go_wp2_with fail
     go_roundw
     case rel=>exact⟨j+1,q,by omega,rfl,by go_num,HE,HBa.out⟩
     case measure=>simp[intOf];omega
  ·obtain rfl:j=cs.length:=by omega
   have HE:Hid (R=q):=hid (by rw[HR.out,List.drop_of_length_le (by rw[HKl.out];exact Nat.le_refl _)];rfl)
   clear hb HR
   go_wp2_with fail
   go_ret
   exact⟨by rw[HE.out];rfl,HB.out⟩
end Go.Proofs.YtagfnpdoooachaaGreatDoor
