/- msg.Parse: its closure, its ways out. -/
import Derived.Test.YtpfmmbbggcghiaaGreatDoorRdN
set_option linter.unusedSimpArgs false
set_option linter.unusedVariables false
set_option maxHeartbeats 3200000
set_option maxRecDepth 100000
namespace Go.Proofs.YtpfmmbbggcghiaaGreatDoor
open Go.RowKit
open Lib (hid)
theorem assert_errP (v:Value) (w:World):(Instr.typeAssert (.iface 35 v) 20 35 true).run Tryz.prog w=.ok (.tuple #[v,.bool true]) w:=by
 simp[Instr.typeAssert,run_underlying Tryz.underlying35]
theorem rep16P:(Array.replicate 16 undef:Array Value)=#[undef,undef,undef,undef,undef,undef,undef,undef,undef,undef,undef,undef,undef,undef,undef,undef]:=rfl
theorem par_idle (po pe:Addr) (w:World):CallsD Tryz.prog 37 #[.pointer (some po),.pointer (some pe)] .returning w fun e u' w'=>e=.returned (.tuple #[])∧u'=.returning∧w'=w:=by
 refine callsD_of_wpS Tryz.func37 rfl fun c₀ cs hu=> ?_;apply wpS_seq;apply wpS_region;simp[wpOpsS,go_sem,recoverD,hu,Tryz.ntmps37,Exit.thenS];rw[rep16P];simp only[List.setIfInBounds_toArray,List.set_cons_zero,List.set_cons_succ,List.append_toArray,List.cons_append,List.nil_append];refine wpS_of_wp ?_
 go_wp2_with fail
 cases c₀
 simp_all [bodyPostS,results,Tryz.results37]
theorem par_caught (B po pe:Nat) (hB0:B≤po) (hB1:B≤pe) (x:Int) (v z:Value) (older:List PanicEntry) (w:World) (ho:Blk w po 39 #[v]) (he:Blk w pe 27 #[z]):
 CallsD Tryz.prog 37 #[.pointer (some ⟨po,0,none⟩),.pointer (some ⟨pe,0,none⟩)] (.panicking ({ v:=.iface 35 (.int .i64 x),recovered:=false }::older)) w fun e u' w'=>
  e=.returned (.tuple #[])∧u'=.panicking ({ v:=.iface 35 (.int .i64 x),recovered:=true }::older)∧Below B w w'∧Blk w' po 39 #[.slice none 0 0]∧Blk w' pe 27 #[.iface 35 (.int .i64 x)]:=by
 refine callsD_of_wpS Tryz.func37 rfl fun c₀ cs hu=> ?_;apply wpS_seq;apply wpS_region;simp[wpOpsS,go_sem,recoverD,hu,Tryz.ntmps37,Exit.thenS];rw[rep16P];simp only[List.setIfInBounds_toArray,List.set_cons_zero,List.set_cons_succ,List.append_toArray,List.cons_append,List.nil_append];have o0:=ho.cell 0;have o2:=he.cell 0;have f0:=ho.frozen 0;have f2:=he.frozen 0;simp at o0 o2;have ha:=assert_errP (.int .i64 x);have hne:¬ pe=po:=by
  rintro rfl;unfold Blk at ho he;rw[ho]at he;injection he with he;injection he with _ he;exact absurd he (by decide)
 have hne':¬ po=pe:=fun h=>hne h.symm;have HO:=hid ho;have HE:=hid he;clear ho he;refine wpS_of_wp ?_
 go_wp2_with fail
 have h1:=(HO.out.set_ 0 (.slice none 0 0)).far (p:=⟨pe,0,none⟩) hne' (.iface 35 (.int .i64 x));have h2:=(HE.out.far (p:=⟨po,0,none⟩) hne (.slice none 0 0)).set_ 0 (.iface 35 (.int .i64 x));have h3:Below B w ((w.setCell ⟨po,0,none⟩ (.slice none 0 0)).setCell ⟨pe,0,none⟩ (.iface 35 (.int .i64 x))):=((Below.refl B w).setCell (p:=⟨po,0,none⟩) hB0 _).setCell (p:=⟨pe,0,none⟩) hB1 _;exact⟨rfl,_,rfl,.tuple #[],by simp[results,Tryz.results37],rfl,rfl,h3,h1,h2⟩
def parD (B:Nat):List Deferred:=[{ target:=.fn (.func 37) #[.pointer (some ⟨B,0,none⟩),.pointer (some ⟨B+1,0,none⟩)],args:=#[] }]
theorem par_thrown (B:Nat) (x:Int) (tmps:Array Value) (R:Ending→World→Prop) (v z:Value) (w:World) (h2:tmps.getD 2 undef=.pointer (some ⟨B,0,none⟩)) (h3:tmps.getD 3 undef=.pointer (some ⟨B+1,0,none⟩))
 (k0:Blk w B 39 #[v]) (k1:Blk w (B+1) 27 #[z]) (hR:∀ W,Below B w W→R (.returned (.tuple #[.slice none 0 0,.iface 35 (.int .i64 x)])) W):
 Leaves Tryz.prog Tryz.f14 tmps R (parD B) (.panicking [{ v:=.iface 35 (.int .i64 x),recovered:=false }]) w:=by
 refine leaves_cons (f:=37) (args:=#[.pointer (some ⟨B,0,none⟩),.pointer (some ⟨B+1,0,none⟩)]) (by simp) (by simp[go_sem]) ?_
 refine(par_caught B B (B+1) (Nat.le_refl _) (by omega) x v z [] w k0 k1).mono ?_
 rintro e u' w2 ⟨rfl,rfl,hb2,q0,q1⟩;have c0:=q0.cell 0;have c2:=q1.cell 0;simp at c0 c2;have HR:=hid (hR w2 hb2);clear hR;simp at h2 h3;simp[Leaves,settle,results,Tryz.results14,go_sem,h2,h3,c0,c2];exact HR.out
theorem par_told (B:Nat) (tmps:Array Value) (R:Ending→World→Prop) (A:Option Addr) (n c:Nat) (z:Value) (w:World) (h2:tmps.getD 2 undef=.pointer (some ⟨B,0,none⟩)) (h3:tmps.getD 3 undef=.pointer (some ⟨B+1,0,none⟩))
 (k0:Blk w B 39 #[.slice A n c]) (k1:Blk w (B+1) 27 #[z]) (hR:R (.returned (.tuple #[.slice A n c,z])) w):
 Leaves Tryz.prog Tryz.f14 tmps R (parD B) .returning w:=by
 refine leaves_cons (f:=37) (args:=#[.pointer (some ⟨B,0,none⟩),.pointer (some ⟨B+1,0,none⟩)]) (by simp) (by simp[go_sem]) ?_
 refine(par_idle _ _ w).mono ?_;rintro e u' w2 ⟨rfl,rfl,rfl⟩;have c0:=k0.cell 0;have c2:=k1.cell 0;simp at c0 c2;have HR:=hid hR;clear hR;simp at h2 h3;simp[Leaves,settle,results,Tryz.results14,go_sem,h2,h3,c0,c2];exact HR.out
def ParR (l:List UInt8) (w:World) (e:Ending) (w':World):Prop:=
 Below w.heap.size w w'∧∃ v,e=.returned (.tuple #[v,errV (parE l)])∧MkN 7 w.heap.size w'.heap.size w' v (if parE l=0 then parM l else [])
theorem parR_bad {l:List UInt8} {w w':World} {x:Int} (hx:parE l=x) (h0:x≠0) (hb:Below w.heap.size w w'):ParR l w (.returned (.tuple #[.slice none 0 0,.iface 35 (.int .i64 x)])) w':=by
 subst hx;refine⟨hb,.slice none 0 0,by rw[errV_ne h0],?_⟩
 rw[if_neg h0];exact RowOk.nil nodC 4 _ _ _ _ _ _
theorem parE_long {l:List UInt8} (h:2000 < l.length):parE l=4:=if_pos h
theorem parE_none {l:List UInt8} (h:¬ 2000 < l.length) (h1:readM 7 false l=none):parE l=3:=by unfold parE;rw[if_neg h,h1]
theorem parE_rest {l:List UInt8} {m:List (Nd 7)} {c:UInt8} {r:List UInt8} (h:¬ 2000 < l.length) (h1:readM 7 false l=some (m,c::r)):parE l=3:=by unfold parE;rw[if_neg h,h1]
theorem parE_read {l:List UInt8} {m:List (Nd 7)} (h:¬ 2000 < l.length) (h1:readM 7 false l=some (m,[])):parE l=(if checkAll 7 m=0 then 0 else 3)∧parM l=m:=by
 unfold parE parM;rw[if_neg h,h1];exact⟨rfl,rfl⟩
theorem mParse_any (l:List UInt8) (w:World) (hV:MV w):
 Calls Tryz.prog 14 #[.string (str l)] w fun e w'=>ParR l w e w':=by
 have hmf:∀(fn:Fn) (first cap:Array Value) (w:World),(Instr.makeFunc fn first cap).run Tryz.prog w=.ok (.func fn first cap) w:=fun _ _ _ _=>rfl
 have hsz:=str_size l;obtain⟨W1,eW1⟩:∃ W1,W1=(w.alloc (.cells #[.slice none 0 0] 39)).alloc (.cells #[.nilIface] 27):=⟨_,rfl⟩;have hb1:Below w.heap.size w W1:=by rw[eW1];exact((Below.refl _ _).alloc (Nat.le_refl _) _).alloc (by simp) _
 have hm1:Blk W1 w.heap.size 39 #[.slice none 0 0]:=by rw[eW1];exact(Blk.new _ _ _).alloc _
 have he1:Blk W1 (w.heap.size+1) 27 #[.nilIface]:=by
  rw[eW1];have:=Blk.new (w.alloc (.cells #[.slice none 0 0] 39)) 27 #[.nilIface];rwa[World.size_alloc]at this
 have hz1:W1.heap.size=w.heap.size+2:=by rw[eW1];simp
 have HB1:=hid hb1;have HM1:=hid hm1;have HE1:=hid he1;have EW1:=hid eW1
 by_cases hl:2000 < l.length
 ·have HP:=hid (parE_long hl);have k0:=(hm1.cell 0).trans (show _=some (.slice none 0 0)from rfl);have k1:=(he1.cell 0).trans (show _=some .nilIface from rfl);have f0:=hm1.frozen 0;have f1:=he1.frozen 0;have hgt:(2000:Int) < (l.length:Int):=by omega
  clear hb1 hm1 he1 eW1
  go_enter_defers Tryz.func14,Tryz.ntmps14
  go_upto_region 1 with fail
  rw[←EW1.out];clear EW1
  go_wp2_with fail
  have hb2:Below w.heap.size w ((W1.setCell ⟨w.heap.size,0,none⟩ (.slice none 0 0)).setCell ⟨w.heap.size+1,0,none⟩ (.iface 35 (.int .i64 4))):=(HB1.out.setCell (p:=⟨w.heap.size,0,none⟩) (Nat.le_refl _) _).setCell (p:=⟨w.heap.size+1,0,none⟩) (Nat.le_succ _) _;refine⟨.tuple #[.slice none 0 0,.iface 35 (.int .i64 4)],?_,parR_bad HP.out (by decide) hb2⟩
  simp[results,Tryz.results14,go_sem,k0,k1,f0,f1]
 ·have hngt:¬((2000:Int) < (l.length:Int)):=by omega
  obtain⟨W2,eW2⟩:∃ W2,W2=W1.alloc (.cells #[.string (str l),.int .i64 0] 94):=⟨_,rfl⟩;have hb12:Below W1.heap.size W1 W2:=by rw[eW2];exact(Below.refl _ _).alloc (Nat.le_refl _) _
  have hr2:Rdr W2 (w.heap.size+2) l 0:=by
   rw[eW2,←hz1];exact Blk.new _ _ _
  have hz2:W2.heap.size=w.heap.size+3:=by rw[eW2,World.size_alloc,hz1]
  have HB2:=hid (hb1.trans (hb12.mono (by omega)))
  have HM2:=hid (hm1.below hb12 (by omega))
  have HE2:=hid (he1.below hb12 (by omega))
  have HRd:=hid (rmessage_any 7 0 rfl (w.heap.size+2) false l W2 hr2 (by omega))
  have EW2:=hid eW2;have HMV:Hid (∀ W,Below w.heap.size w W→MV W):=hid fun W hW=>hV.below hW;have HZ1:=hid hz1;clear hb1 hm1 he1 eW1 eW2 hb12 hr2 hV
  go_enter_defers Tryz.func14,Tryz.ntmps14
  go_upto_region 1 with fail
  rw[←EW1.out];clear EW1
  go_wp2_with fail
  rw[←EW2.out];clear EW2 hz1
  change Calls _ _ _ _ _
  cases ho:readM 7 false l with
  | none=>
    rw[ho]at HRd;have HP:=hid (parE_none hl ho);clear ho;refine HRd.out.mono ?_;clear HRd;rintro e w3 ⟨hF3,rfl,l3,d3,hR3⟩;have hb3:Below w.heap.size w w3:=Fr.below HB2.out hF3 (by omega) (fun i e=>by have:i=w.heap.size+2:=e;omega)
    have HB3:=hid hb3;have HM3:=hid (HM2.out.fr hF3 (by show ¬ w.heap.size=w.heap.size+2;omega))
    have HE3:=hid (HE2.out.fr hF3 (by show ¬ w.heap.size+1=w.heap.size+2;omega))
    clear hF3 hR3 hb3
    go_wp2_with fail
    exact par_thrown w.heap.size 3 _ _ (.slice none 0 0) .nilIface w3 rfl rfl HM3.out HE3.out fun W hW=>parR_bad HP.out (by decide) (HB3.out.trans hW)
  | some p=>
    obtain⟨m,r⟩:=p;rw[ho]at HRd;have hbk:=readM_len 7 false l m r ho;refine HRd.out.mono ?_;clear HRd;rintro e w3 ⟨hF3,v,rfl,hR3,hK3⟩;obtain⟨A,c,rfl⟩:=hK3.form;have hb3:Below w.heap.size w w3:=Fr.below HB2.out hF3 (by omega) (fun i e=>by have:i=w.heap.size+2:=e;omega)
    have hm3:=HM2.out.fr hF3 (by show ¬ w.heap.size=w.heap.size+2;omega)
    have he3:=HE2.out.fr hF3 (by show ¬ w.heap.size+1=w.heap.size+2;omega)
    have k0:=(hm3.cell 0).trans (show _=some (.slice none 0 0)from rfl);have f0:=hm3.frozen 0;have hs3:W2.heap.size≤w3.heap.size:=hF3.size;obtain⟨W4,eW4⟩:∃ W4,W4=w3.setCell ⟨w.heap.size,0,none⟩ (.slice A m.length c):=⟨_,rfl⟩;have hz4:W4.heap.size=w3.heap.size:=by rw[eW4];simp[World.setCell]
    have hb4:Below w.heap.size w W4:=by rw[eW4];exact hb3.setCell (p:=⟨w.heap.size,0,none⟩) (Nat.le_refl _) _
    have hm4:Blk W4 w.heap.size 39 #[.slice A m.length c]:=by rw[eW4];exact hm3.set_ 0 _
    have he4:Blk W4 (w.heap.size+1) 27 #[.nilIface]:=by rw[eW4];exact he3.far (p:=⟨w.heap.size,0,none⟩) (by show w.heap.size+1≠w.heap.size;omega) _
    have hr4:Rdr W4 (w.heap.size+2) r 0:=by rw[eW4];exact Blk.far (t:=94) hR3 (p:=⟨w.heap.size,0,none⟩) (by show w.heap.size+2≠w.heap.size;omega) _
    have hk4:MkN 7 W2.heap.size W4.heap.size W4 (.slice A m.length c) m:=by
     rw[hz4,eW4];exact(mkN_laws 7).keep hK3 fun g g1 _=>Below.heap_setCell _ _ _ _ (by show g≠w.heap.size;omega)
    have r0:=(Blk.cell (t:=94) hr4 0).trans (show _=some (.string (str r))from rfl);have m0:=(hm4.cell 0).trans (show _=some (.slice A m.length c)from rfl);have m1:=(he4.cell 0).trans (show _=some .nilIface from rfl);have q0:=hm4.frozen 0;have q1:=he4.frozen 0;have HB4:=hid hb4;have HM4:=hid hm4;have HE4:=hid he4;have HK4:=hid hk4;have EW4:=hid eW4;clear hF3 hR3 hK3 hb3 hm3 he3 eW4 hb4 hm4 he4 hr4 hk4 HM2 HE2 HB2 HM1 HE1 HB1
    go_upto_region 6 with fail
    rw[←EW4.out];clear EW4 k0 f0;cases r with
    | cons x r=>
      have HP:=hid (parE_rest hl ho);have ht:((str (x::r)).toList.isEmpty)=false:=by rw[str_tl];rfl
      have hb5:Below w.heap.size w ((W4.setCell ⟨w.heap.size,0,none⟩ (.slice none 0 0)).setCell ⟨w.heap.size+1,0,none⟩ (.iface 35 (.int .i64 3))):=(HB4.out.setCell (p:=⟨w.heap.size,0,none⟩) (Nat.le_refl _) _).setCell (p:=⟨w.heap.size+1,0,none⟩) (Nat.le_succ _) _;have hm5:Blk ((W4.setCell ⟨w.heap.size,0,none⟩ (.slice none 0 0)).setCell ⟨w.heap.size+1,0,none⟩ (.iface 35 (.int .i64 3))) w.heap.size 39 #[.slice none 0 0]:=(HM4.out.set_ 0 _).far (p:=⟨w.heap.size+1,0,none⟩) (by show w.heap.size≠w.heap.size+1;omega) _
      have he5:Blk ((W4.setCell ⟨w.heap.size,0,none⟩ (.slice none 0 0)).setCell ⟨w.heap.size+1,0,none⟩ (.iface 35 (.int .i64 3))) (w.heap.size+1) 27 #[.iface 35 (.int .i64 3)]:=(HE4.out.far (p:=⟨w.heap.size,0,none⟩) (by show w.heap.size+1≠w.heap.size;omega) _).set_ 0 _
      have HF:=hid (And.intro hb5 (And.intro hm5 he5));clear hb5 hm5 he5 ho
      go_wp2_with fail
      exact par_told w.heap.size _ _ none 0 0 _ _ rfl rfl HF.out.2.1 HF.out.2.2 (parR_bad HP.out (by decide) HF.out.1)
    | nil=>
      obtain⟨hpe,hpm⟩:=parE_read hl ho;have HP:=hid hpe;have HPm:=hid hpm;have ht:((str []).toList.isEmpty)=true:=by rw[str_tl];rfl
      have hbs:(m.map (Enc.node 7).bulk).sum≤10000000:=by omega
      have HCk:=hid (Check_any 7 m (.slice A m.length c) W2.heap.size W4 (msgIn_of_bulk 7 m hbs) (HK4.out.list) (HMV.out W4 HB4.out));clear ho hpe hpm hbk hbs
      go_wp2_with fail
      refine HCk.out.mono ?_;clear HCk;rintro e w5 ⟨rfl,hb5⟩;have hm5:=HM4.out.below hb5 HM4.out.lt;have he5:=HE4.out.below hb5 HE4.out.lt;have k0:=(hm5.cell 0).trans (show _=some (.slice A m.length c)from rfl);have k1:=(he5.cell 0).trans (show _=some .nilIface from rfl);have f0:=hm5.frozen 0;have f1:=he5.frozen 0;have HB5:=hid (HB4.out.trans (hb5.mono HB4.out.size));have HK5:Hid (MkN 7 W2.heap.size w5.heap.size w5 (.slice A m.length c) m):=hid ((mkN_laws 7).mono ((mkN_laws 7).keep HK4.out fun g _ g2=>hb5.block g g2) (Nat.le_refl _) hb5.size);have HM5:=hid hm5;have HE5:=hid he5;clear hb5 hm5 he5 r0 m0 m1 q0 q1 HK4 HB4 HM4 HE4
      by_cases hck:checkAll 7 m=0
      ·rw[if_pos hck]at HP;rw[hck,errV_zero];have HF:Hid (Below w.heap.size w ((w5.setCell ⟨w.heap.size,0,none⟩ (.slice A m.length c)).setCell ⟨w.heap.size+1,0,none⟩ .nilIface)∧Blk ((w5.setCell ⟨w.heap.size,0,none⟩ (.slice A m.length c)).setCell ⟨w.heap.size+1,0,none⟩ .nilIface) w.heap.size 39 #[.slice A m.length c]∧Blk ((w5.setCell ⟨w.heap.size,0,none⟩ (.slice A m.length c)).setCell ⟨w.heap.size+1,0,none⟩ .nilIface) (w.heap.size+1) 27 #[.nilIface]):=hid
        ⟨(HB5.out.setCell (p:=⟨w.heap.size,0,none⟩) (Nat.le_refl _) _).setCell (p:=⟨w.heap.size+1,0,none⟩) (Nat.le_succ _) _,(HM5.out.set_ 0 _).far (p:=⟨w.heap.size+1,0,none⟩) (by show w.heap.size≠w.heap.size+1;omega) _,(HE5.out.far (p:=⟨w.heap.size,0,none⟩) (by show w.heap.size+1≠w.heap.size;omega) _).set_ 0 _⟩
       have HKF:Hid (MkN 7 w.heap.size ((w5.setCell ⟨w.heap.size,0,none⟩ (.slice A m.length c)).setCell ⟨w.heap.size+1,0,none⟩ .nilIface).heap.size ((w5.setCell ⟨w.heap.size,0,none⟩ (.slice A m.length c)).setCell ⟨w.heap.size+1,0,none⟩ .nilIface) (.slice A m.length c) m):=hid (by
        refine(mkN_laws 7).mono ((mkN_laws 7).keep HK5.out fun g g1 _=> ?_) (by omega) (by simp[World.setCell])
        rw[Below.heap_setCell _ _ _ _ (by show g≠w.heap.size+1;omega),Below.heap_setCell _ _ _ _ (by show g≠w.heap.size;omega)])
       clear hck
       go_wp2_with fail
       refine par_told w.heap.size _ _ A m.length c .nilIface _ rfl rfl HF.out.2.1 HF.out.2.2 ⟨HF.out.1,_,by rw[HP.out];rfl,?_⟩
       rw[if_pos HP.out,HPm.out];exact HKF.out
      ·rw[if_neg hck]at HP;rw[errV_ne hck];have HF:Hid (Below w.heap.size w ((w5.setCell ⟨w.heap.size,0,none⟩ (.slice none 0 0)).setCell ⟨w.heap.size+1,0,none⟩ (.iface 35 (.int .i64 3)))∧Blk ((w5.setCell ⟨w.heap.size,0,none⟩ (.slice none 0 0)).setCell ⟨w.heap.size+1,0,none⟩ (.iface 35 (.int .i64 3))) w.heap.size 39 #[.slice none 0 0]∧Blk ((w5.setCell ⟨w.heap.size,0,none⟩ (.slice none 0 0)).setCell ⟨w.heap.size+1,0,none⟩ (.iface 35 (.int .i64 3))) (w.heap.size+1) 27 #[.iface 35 (.int .i64 3)]):=hid
        ⟨(HB5.out.setCell (p:=⟨w.heap.size,0,none⟩) (Nat.le_refl _) _).setCell (p:=⟨w.heap.size+1,0,none⟩) (Nat.le_succ _) _,(HM5.out.set_ 0 _).far (p:=⟨w.heap.size+1,0,none⟩) (by show w.heap.size≠w.heap.size+1;omega) _,(HE5.out.far (p:=⟨w.heap.size,0,none⟩) (by show w.heap.size+1≠w.heap.size;omega) _).set_ 0 _⟩
       clear hck
       go_wp2_with fail
       exact par_told w.heap.size _ _ none 0 0 _ _ rfl rfl HF.out.2.1 HF.out.2.2 (parR_bad HP.out (by decide) HF.out.1)
def parG (l:List UInt8):List (Nd 7):=if parE l=0 then parM l else []
theorem parG_bulk (l:List UInt8):((parG l).map (Enc.node 7).bulk).sum≤6000:=by
 unfold parG
 by_cases h:parE l=0
 ·rw[if_pos h]
  by_cases hl:2000 < l.length
  ·rw[parE_long hl]at h;exact absurd h (by decide)
  ·cases ho:readM 7 false l with
   | none=>rw[parE_none hl ho]at h;exact absurd h (by decide)
   | some p=>
     obtain⟨m,r⟩:=p;cases r with
     | cons x r=>rw[parE_rest hl ho]at h;exact absurd h (by decide)
     | nil=>
       rw[(parE_read hl ho).2];have:=readM_len 7 false l m [] ho;simp only[List.length_nil]at this;omega
 ·rw[if_neg h];exact Nat.zero_le _
theorem parG_in (l:List UInt8):MsgIn 7 (parG l):=msgIn_of_bulk 7 _ (Nat.le_trans (parG_bulk l) (by decide))
theorem mkN_later {n lo hi:Nat} {w W:World} {v:Value} {m:List (Nd n)} (h:MkN n lo hi w v m) (hb:Below hi w W) (hs:hi≤w.heap.size):ListOk (Enc.node n) W 0 W.heap.size v m:=
 (((mkN_laws n).keep h fun g _ g2=>hb.block g g2).list).mono (Enc.node_laws n) (Nat.zero_le _) (Nat.le_trans hs hb.size)
structure DecV where
 coef:Int
 scale:Int
def DecV.ok (d:DecV):Prop:=0≤d.scale∧d.scale≤9∧ -1000000000000000≤d.coef∧d.coef≤1000000000000000
instance (d:DecV):Decidable d.ok:=by unfold DecV.ok;infer_instance
def checkD (d:DecV):Int:=if d.ok then 0 else 1
theorem checkD_ok {d:DecV} (h:d.ok):checkD d=0:=if_pos h
theorem checkD_no {d:DecV} (h:¬ d.ok):checkD d=1:=if_neg h
def DecV.v (d:DecV):Value:=.agg #[.int .i64 d.coef,.int .i64 d.scale]
def errD (n:Int):Value:=if n=0 then .nilIface else .iface 35 (.int .i64 n)
def P10 (n:Nat):Int:=((10 ^ n:Nat):Int)
theorem P10_pos (n:Nat):0 < P10 n:=by unfold P10;exact Int.natCast_pos.2 (Nat.pow_pos (by decide))
theorem P10_succ (n:Nat):P10 (n+1)=P10 n*10:=by unfold P10;rw[Nat.pow_succ];push_cast;rfl
theorem P10_le (n:Nat) (h:n≤9):P10 n≤1000000000:=by
 unfold P10;have:10 ^ n≤10 ^ 9:=Nat.pow_le_pow_right (by decide) h
 omega
theorem power_any (n:Nat) (w:World) (hn:n≤9):Calls Tryz.prog 141 #[.int .i64 n] w fun e w'=>e=.returned (.int .i64 (P10 n))∧w'=w:=by
 go_enter Tryz.func141,Tryz.ntmps141
 go_wp2_with fail
 go_loopw [3,5] (fun o i wr=>∃ j:Nat,j≤n∧i=.int .i64 (j:Int)∧o=.int .i64 (P10 j)∧wr=w) (fun _ i _=>n - (intOf i).toNat)
 case atStart=>exact⟨0,Nat.zero_le _,rfl,rfl,rfl⟩
 case round=>
  obtain⟨j,hj,rfl,rfl,rfl⟩:=hrel
  by_cases hlt:j < n
  ·have i1:(0:Int)≤(j:Int):=Int.natCast_nonneg j;have i2:(j:Int) < (n:Int):=by omega
   have hS:=hid (P10_succ j);have h1:=P10_le j (by omega)
   have h2:=P10_pos j;generalize P10 j=p at *;have hw:wrap64 (p*10)=p*10:=by unfold wrap64;omega
   go_wp2_with fail
   go_roundw
   case rel=>exact⟨j+1,by omega,by go_num,by rw[hS.out],by first|rfl|trivial⟩
   case measure=>simp[intOf];omega
  ·obtain rfl:j=n:=by omega
   go_wp2_with fail
   go_ret
   exact⟨rfl,rfl⟩
theorem checkD_any (d:DecV) (w:World):Calls Tryz.prog 88 #[d.v] w fun e w'=>e=.returned (errD (checkD d))∧Below w.heap.size w w':=by
 obtain⟨c,s⟩:=d;have HN:Hid (¬(0≤s∧s≤9∧ -1000000000000000≤c∧c≤1000000000000000)→checkD ⟨c,s⟩=1):=hid fun h=>checkD_no h;have HY:Hid (0≤s∧s≤9∧ -1000000000000000≤c∧c≤1000000000000000→checkD ⟨c,s⟩=0):=hid fun h=>checkD_ok h;generalize checkD ⟨c,s⟩=r at *;unfold DecV.v;dsimp only;have HB:Hid (Below w.heap.size w (w.alloc (.cells #[.int .i64 c,.int .i64 s] 65))):=hid ((Below.refl _ _).alloc (Nat.le_refl _) _)
 by_cases h1:s < 0
 ·obtain rfl:r=1:=HN.out (by omega)
  go_enter Tryz.func88,Tryz.ntmps88
  go_wp2_with fail
  go_ret
  exact⟨rfl,HB.out⟩
 ·by_cases h2:9 < s
  ·obtain rfl:r=1:=HN.out (by omega)
   go_enter Tryz.func88,Tryz.ntmps88
   go_wp2_with fail
   go_ret
   exact⟨rfl,HB.out⟩
  ·by_cases h3:c < -1000000000000000
   ·obtain rfl:r=1:=HN.out (by omega)
    go_enter Tryz.func88,Tryz.ntmps88
    go_wp2_with fail
    go_ret
    exact⟨rfl,HB.out⟩
   ·by_cases h4:1000000000000000 < c
    ·obtain rfl:r=1:=HN.out (by omega)
     go_enter Tryz.func88,Tryz.ntmps88
     go_wp2_with fail
     go_ret
     exact⟨rfl,HB.out⟩
    ·obtain rfl:r=0:=HY.out (by omega)
     go_enter Tryz.func88,Tryz.ntmps88
     go_wp2_with fail
     go_ret
     exact⟨rfl,HB.out⟩
theorem wide_any (n s:Nat) (w:World) (hn:n≤1000000000000000) (hs:s≤9):Calls Tryz.prog 178 #[.int .i64 n,.int .i64 s] w fun e w'=>
 e=.returned (.tuple #[.int .u64 ((n*10 ^ s / 18446744073709551616:Nat):Int),.int .u64 ((n*10 ^ s % 18446744073709551616:Nat):Int)])∧w'=w:=by
 have HP:=hid (power_any s w hs);have hp:=P10_le s hs;have e1:P10 s=((10 ^ s:Nat):Int):=rfl;rw[e1]at HP hp;have HM:=hid (Tryz.bits_Mul64 n (10 ^ s) (by omega) (by omega) w)
 generalize 10 ^ s=p at *;clear e1;have i0:(0:Int)≤(n:Int):=Int.natCast_nonneg n;have i1:(0:Int)≤(p:Int):=Int.natCast_nonneg p;have c1:((n:Int) % 18446744073709551616)=(n:Int):=by omega
 have c2:((p:Int) % 18446744073709551616)=(p:Int):=by omega
 go_enter Tryz.func178,Tryz.ntmps178
 go_wp2_with fail
 refine HP.out.mono ?_;clear HP;rintro e w1 ⟨rfl,rfl⟩
 go_wp2_with fail
 refine HM.out.mono ?_;clear HM;rintro e w1 ⟨rfl,rfl⟩
 go_wp2_with fail
 go_ret2
 exact⟨rfl,rfl⟩
def cmpN (a b:Nat):Int:=if a < b then -1 else if a=b then 0 else 1
theorem cmpN_spec (a b:Nat):((a / 18446744073709551616 < b / 18446744073709551616∨(a / 18446744073709551616=b / 18446744073709551616∧a % 18446744073709551616 < b % 18446744073709551616))→cmpN a b= -1)∧
 (¬(a / 18446744073709551616 < b / 18446744073709551616∨(a / 18446744073709551616=b / 18446744073709551616∧a % 18446744073709551616 < b % 18446744073709551616))→(a / 18446744073709551616=b / 18446744073709551616∧a % 18446744073709551616=b % 18446744073709551616)→cmpN a b=0)∧
 (¬(a / 18446744073709551616 < b / 18446744073709551616∨(a / 18446744073709551616=b / 18446744073709551616∧a % 18446744073709551616 < b % 18446744073709551616))→¬(a / 18446744073709551616=b / 18446744073709551616∧a % 18446744073709551616=b % 18446744073709551616)→cmpN a b=1):=by
 unfold cmpN;refine⟨fun h=>if_pos (by omega),fun h k=> ?_,fun h k=> ?_⟩
 ·rw[if_neg (by omega),if_pos (by omega)]
 ·rw[if_neg (by omega),if_neg (by omega)]
def cmpD (a b:DecV):Int:=if a.coef*P10 b.scale.toNat < b.coef*P10 a.scale.toNat then -1 else if a.coef*P10 b.scale.toNat=b.coef*P10 a.scale.toNat then 0 else 1
theorem cmpD_nn (n m:Nat) (s t:Int):cmpD ⟨n,s⟩ ⟨m,t⟩=cmpN (n*10 ^ t.toNat) (m*10 ^ s.toNat):=by
 unfold cmpD cmpN P10;dsimp only;have e1:(n:Int)*((10 ^ t.toNat:Nat):Int)=((n*10 ^ t.toNat:Nat):Int):=by push_cast;rfl
 have e2:(m:Int)*((10 ^ s.toNat:Nat):Int)=((m*10 ^ s.toNat:Nat):Int):=by push_cast;rfl
 rw[e1,e2]
 congr 1
 ·exact propext ⟨fun h=>by omega,fun h=>by omega⟩
 ·congr 1
  exact propext ⟨fun h=>by omega,fun h=>by omega⟩
theorem cmpD_neg (a b s t:Int):cmpD ⟨-b,t⟩ ⟨-a,s⟩=cmpD ⟨a,s⟩ ⟨b,t⟩:=by
 unfold cmpD;dsimp only;rw[Int.neg_mul,Int.neg_mul];generalize a*P10 t.toNat=x;generalize b*P10 s.toNat=y
 by_cases h1:x < y
 ·rw[if_pos h1,if_pos (by omega)]
 ·rw[if_neg h1,if_neg (by omega)]
  by_cases h2:x=y
  ·rw[if_pos h2,if_pos (by omega)]
  ·rw[if_neg h2,if_neg (by omega)]
theorem cmpD_less (a b s t:Int) (ha:a < 0) (hb:0≤b):cmpD ⟨a,s⟩ ⟨b,t⟩= -1:=by
 unfold cmpD;dsimp only;have h1:a*P10 t.toNat < 0:=Int.mul_neg_of_neg_of_pos ha (P10_pos _);have h2:0≤b*P10 s.toNat:=Int.mul_nonneg hb (Int.le_of_lt (P10_pos _));rw[if_pos (by omega)]
theorem cmpD_more (a b s t:Int) (ha:0≤a) (hb:b < 0):cmpD ⟨a,s⟩ ⟨b,t⟩=1:=by
 unfold cmpD;dsimp only;have h1:b*P10 s.toNat < 0:=Int.mul_neg_of_neg_of_pos hb (P10_pos _);have h2:0≤a*P10 t.toNat:=Int.mul_nonneg ha (Int.le_of_lt (P10_pos _));rw[if_neg (by omega),if_neg (by omega)]
theorem compared_nn (n m s t:Nat) (w:World) (hn:n≤1000000000000000) (hm:m≤1000000000000000) (hs:s≤9) (ht:t≤9):
 Calls Tryz.prog 149 #[.agg #[.int .i64 n,.int .i64 s],.agg #[.int .i64 m,.int .i64 t]] w fun e w'=>e=.returned (.int .i64 (cmpN (n*10 ^ t) (m*10 ^ s)))∧Below w.heap.size w w':=by
 have HA:Hid (∀ W,Calls Tryz.prog 178 #[.int .i64 n,.int .i64 t] W fun e w'=>e=.returned (.tuple #[.int .u64 ((n*10 ^ t / 18446744073709551616:Nat):Int),.int .u64 ((n*10 ^ t % 18446744073709551616:Nat):Int)])∧w'=W):=hid fun W=>wide_any n t W hn ht;have HB:Hid (∀ W,Calls Tryz.prog 178 #[.int .i64 m,.int .i64 s] W fun e w'=>e=.returned (.tuple #[.int .u64 ((m*10 ^ s / 18446744073709551616:Nat):Int),.int .u64 ((m*10 ^ s % 18446744073709551616:Nat):Int)])∧w'=W):=hid fun W=>wide_any m s W hm hs;obtain⟨q1,q2,q3⟩:=cmpN_spec (n*10 ^ t) (m*10 ^ s);have HC1:=hid q1;have HC2:=hid q2;have HC3:=hid q3;clear q1 q2 q3;generalize cmpN (n*10 ^ t) (m*10 ^ s)=r at *;generalize n*10 ^ t / 18446744073709551616=a1 at *;generalize n*10 ^ t % 18446744073709551616=a0 at *;generalize m*10 ^ s / 18446744073709551616=b1 at *;generalize m*10 ^ s % 18446744073709551616=b0 at *;have i0:¬((n:Int) < 0):=by omega
 have i1:¬((m:Int) < 0):=by omega
 have j0:(0:Int)≤(n:Int):=by omega
 have HBe:Hid (Below w.heap.size w ((w.alloc (.cells #[.int .i64 n,.int .i64 s] 65)).alloc (.cells #[.int .i64 m,.int .i64 t] 65))):=hid (((Below.refl _ _).alloc (Nat.le_refl _) _).alloc (by simp) _)
 go_enter Tryz.func149,Tryz.ntmps149
 go_wp2_with fail
 refine(HA.out _).mono ?_;clear HA;rintro e w1 ⟨rfl,rfl⟩
 go_wp2_with fail
 refine(HB.out _).mono ?_;clear HB;rintro e w1 ⟨rfl,rfl⟩
 by_cases h1:a1 < b1
 ·obtain rfl:r= -1:=HC1.out (.inl h1);have k1:(a1:Int) < (b1:Int):=by omega
  go_wp2_with fail
  go_ret
  exact⟨rfl,HBe.out⟩
 ·have k1:¬((a1:Int) < (b1:Int)):=by omega
  by_cases h2:a1=b1
  ·have k2:((a1:Int) == (b1:Int))=true:=by rw[beq_iff_eq];omega
   by_cases h3:a0 < b0
   ·obtain rfl:r= -1:=HC1.out (.inr ⟨h2,h3⟩);have k3:(a0:Int) < (b0:Int):=by omega
    clear h2
    go_wp2_with fail
    go_ret
    exact⟨rfl,HBe.out⟩
   ·have k3:¬((a0:Int) < (b0:Int)):=by omega
    by_cases h4:a0=b0
    ·obtain rfl:r=0:=HC2.out (by omega) ⟨h2,h4⟩
     have k4:((a0:Int) == (b0:Int))=true:=by rw[beq_iff_eq];omega
     clear h2 h4
     go_wp2_with fail
     go_ret
     exact⟨rfl,HBe.out⟩
    ·obtain rfl:r=1:=HC3.out (by omega) (by omega)
     have k4:((a0:Int) == (b0:Int))=false:=by rw[beq_eq_false_iff_ne];omega
     clear h2 h4
     go_wp2_with fail
     go_ret
     exact⟨rfl,HBe.out⟩
  ·have k2:((a1:Int) == (b1:Int))=false:=by rw[beq_eq_false_iff_ne];omega
   obtain rfl:r=1:=HC3.out (by omega) (by omega)
   clear h2
   go_wp2_with fail
   go_ret
   exact⟨rfl,HBe.out⟩
theorem compared_any (a b:DecV) (w:World) (ha:a.ok) (hb:b.ok):Calls Tryz.prog 149 #[a.v,b.v] w fun e w'=>e=.returned (.int .i64 (cmpD a b))∧Below w.heap.size w w':=by
 obtain⟨a,s⟩:=a;obtain⟨b,t⟩:=b;unfold DecV.ok at ha hb;dsimp only at ha hb;obtain⟨s',rfl⟩:∃ s':Nat,s=s':=⟨s.toNat,by omega⟩
 obtain⟨t',rfl⟩:∃ t':Nat,t=t':=⟨t.toNat,by omega⟩
 unfold DecV.v;dsimp only;have HBe:Hid (Below w.heap.size w ((w.alloc (.cells #[.int .i64 a,.int .i64 s'] 65)).alloc (.cells #[.int .i64 b,.int .i64 t'] 65))):=hid (((Below.refl _ _).alloc (Nat.le_refl _) _).alloc (by simp) _)
 by_cases h1:a < 0
 ·by_cases h2:b < 0
  ·have hw1:wrap64 (-a)= -a:=by unfold wrap64;omega
   have hw2:wrap64 (-b)= -b:=by unfold wrap64;omega
   have h2':¬((0:Int)≤b):=by omega
   have h1':¬((0:Int)≤a):=by omega
   have HC:Hid (∀ W,Calls Tryz.prog 149 #[.agg #[.int .i64 (-b),.int .i64 t'],.agg #[.int .i64 (-a),.int .i64 s']] W fun e w'=>e=.returned (.int .i64 (cmpD ⟨a,s'⟩ ⟨b,t'⟩))∧Below W.heap.size W w'):=hid fun W=>by
    have h:=compared_nn (-b).toNat (-a).toNat t' s' W (by omega) (by omega) (by omega) (by omega)
    have e1:(((-b).toNat:Nat):Int)= -b:=by omega
    have e2:(((-a).toNat:Nat):Int)= -a:=by omega
    have e3:=cmpD_nn (-b).toNat (-a).toNat t' s';rw[e1,e2,cmpD_neg]at e3;rw[e1,e2]at h;have e4:((s':Int)).toNat=s':=by omega
    have e5:((t':Int)).toNat=t':=by omega
    rw[e4,e5]at e3;rw[e3];exact h
   generalize cmpD ⟨a,s'⟩ ⟨b,t'⟩=r at*
   go_enter Tryz.func149,Tryz.ntmps149
   go_wp2_with fail
   refine(HC.out _).mono ?_;clear HC;rintro e w1 ⟨rfl,hb1⟩;have HB1:=hid (HBe.out.trans (hb1.mono (by simp;omega)))
   clear hb1
   go_wp2_with fail
   go_ret
   exact⟨rfl,HB1.out⟩
  ·have e:=hid (cmpD_less a b s' t' h1 (by omega))
   have h2':(0:Int)≤b:=by omega
   generalize cmpD ⟨a,s'⟩ ⟨b,t'⟩=r at*
   go_enter Tryz.func149,Tryz.ntmps149
   go_wp2_with fail
   go_ret
   exact⟨by rw[e.out];rfl,HBe.out⟩
 ·have h1':(0:Int)≤a:=by omega
  by_cases h2:b < 0
  ·have e:=hid (cmpD_more a b s' t' h1' h2);generalize cmpD ⟨a,s'⟩ ⟨b,t'⟩=r at*
   go_enter Tryz.func149,Tryz.ntmps149
   go_wp2_with fail
   go_ret
   exact⟨by rw[e.out];rfl,HBe.out⟩
  ·obtain⟨n,rfl⟩:∃ n:Nat,a=n:=⟨a.toNat,by omega⟩
   obtain⟨m,rfl⟩:∃ m:Nat,b=m:=⟨b.toNat,by omega⟩
   rw[cmpD_nn];exact compared_nn n m s' t' w (by omega) (by omega) (by omega) (by omega)
theorem errD_zero:errD 0=.nilIface:=rfl
theorem errD_ne {n:Int} (h:n≠0):errD n=.iface 35 (.int .i64 n):=if_neg h
theorem right_any (a b:DecV) (w:World):Calls Tryz.prog 148 #[a.v,b.v] w fun e w'=>e=.returned (.bool (decide a.ok && decide b.ok))∧Below w.heap.size w w':=by
 have HA:Hid (∀ W,Calls Tryz.prog 88 #[a.v] W fun e w'=>e=.returned (errD (checkD a))∧Below W.heap.size W w'):=hid fun W=>checkD_any a W;have HB:Hid (∀ W,Calls Tryz.prog 88 #[b.v] W fun e w'=>e=.returned (errD (checkD b))∧Below W.heap.size W w'):=hid fun W=>checkD_any b W;have ea:checkD a=if decide a.ok=true then 0 else 1:=by
  by_cases h:a.ok
  ·rw[checkD_ok h,if_pos (decide_eq_true h)]
  ·rw[checkD_no h,if_neg (by simpa using h)]
 have eb:checkD b=if decide b.ok=true then 0 else 1:=by
  by_cases h:b.ok
  ·rw[checkD_ok h,if_pos (decide_eq_true h)]
  ·rw[checkD_no h,if_neg (by simpa using h)]
 rw[ea]at HA;rw[eb]at HB;clear ea eb;generalize decide a.ok=x at *;generalize decide b.ok=y at *;obtain⟨a,s⟩:=a;obtain⟨b,t⟩:=b;unfold DecV.v at *;dsimp only at HA HB ⊢;obtain⟨W2,eW2⟩:∃ W2,W2=(w.alloc (.cells #[.int .i64 a,.int .i64 s] 65)).alloc (.cells #[.int .i64 b,.int .i64 t] 65):=⟨_,rfl⟩;have ma:Blk W2 w.heap.size 65 #[.int .i64 a,.int .i64 s]:=by rw[eW2];exact(Blk.new _ _ _).alloc _
 have mb:Blk W2 (w.heap.size+1) 65 #[.int .i64 b,.int .i64 t]:=by
  rw[eW2];have:=Blk.new (w.alloc (.cells #[.int .i64 a,.int .i64 s] 65)) 65 #[.int .i64 b,.int .i64 t];rw[World.size_alloc]at this;exact this
 have hb2:Below w.heap.size w W2:=by rw[eW2];exact((Below.refl _ _).alloc (Nat.le_refl _) _).alloc (by simp) _
 have HB2:=hid hb2;have MB:=hid mb;have EW:=hid eW2;have k0:=(ma.cell 0).trans (show _=some (.int .i64 a)from rfl);have k1:=(ma.cell 1).trans (show _=some (.int .i64 s)from rfl);clear hb2 ma mb eW2
 go_enter Tryz.func148,Tryz.ntmps148
 go_upto_region 1 with fail
 rw[←EW.out];clear EW
 go_wp2_with fail
 refine(HA.out W2).mono ?_;clear HA;rintro e w3 ⟨rfl,hb3⟩;have HB3:=hid (HB2.out.trans (hb3.mono HB2.out.size));cases x with
 | false=>
   rw[if_neg (by decide),errD_ne (by decide)]
   clear HB hb3
   go_wp2_with fail
   go_ret
   exact⟨rfl,HB3.out⟩
 | true=>
   have m3:=MB.out.below hb3 MB.out.lt;have d0:=(m3.cell 0).trans (show _=some (.int .i64 b)from rfl);have d1:=(m3.cell 1).trans (show _=some (.int .i64 t)from rfl);clear m3 hb3;rw[if_pos rfl,errD_zero]
   go_wp2_with fail
   refine(HB.out w3).mono ?_;clear HB;rintro e w4 ⟨rfl,hb4⟩;have HB4:=hid (HB3.out.trans (hb4.mono HB3.out.size));clear hb4;cases y with
   | false=>
     rw[if_neg (by decide),errD_ne (by decide)]
     go_wp2_with fail
     go_ret
     exact⟨rfl,HB4.out⟩
   | true=>
     rw[if_pos rfl,errD_zero]
     go_wp2_with fail
     go_ret
     exact⟨rfl,HB4.out⟩
def sameD (a b:DecV):Bool:=decide a.ok && decide b.ok && cmpD a b == 0
theorem sameD_any (a b:DecV) (w:World):Calls Tryz.prog 98 #[a.v,b.v] w fun e w'=>e=.returned (.bool (sameD a b))∧Below w.heap.size w w':=by
 have HA:Hid (∀ W,Calls Tryz.prog 148 #[a.v,b.v] W fun e w'=>e=.returned (.bool (decide a.ok && decide b.ok))∧Below W.heap.size W w'):=hid fun W=>right_any a b W;have HC:Hid (∀ W,(decide a.ok && decide b.ok)=true→Calls Tryz.prog 149 #[a.v,b.v] W fun e w'=>e=.returned (.int .i64 (cmpD a b))∧Below W.heap.size W w'):=hid fun W h=>by
  simp at h;exact compared_any a b W h.1 h.2
 have HR:Hid (sameD a b=((decide a.ok && decide b.ok) && cmpD a b == 0)):=hid rfl;generalize (decide a.ok && decide b.ok)=x at *;generalize cmpD a b=r at *;generalize sameD a b=z at *;obtain⟨a,s⟩:=a;obtain⟨b,t⟩:=b;unfold DecV.v at *;dsimp only at HA HC ⊢;obtain⟨W2,eW2⟩:∃ W2,W2=(w.alloc (.cells #[.int .i64 a,.int .i64 s] 65)).alloc (.cells #[.int .i64 b,.int .i64 t] 65):=⟨_,rfl⟩;have ma:Blk W2 w.heap.size 65 #[.int .i64 a,.int .i64 s]:=by rw[eW2];exact(Blk.new _ _ _).alloc _
 have mb:Blk W2 (w.heap.size+1) 65 #[.int .i64 b,.int .i64 t]:=by
  rw[eW2];have:=Blk.new (w.alloc (.cells #[.int .i64 a,.int .i64 s] 65)) 65 #[.int .i64 b,.int .i64 t];rw[World.size_alloc]at this;exact this
 have hb2:Below w.heap.size w W2:=by rw[eW2];exact((Below.refl _ _).alloc (Nat.le_refl _) _).alloc (by simp) _
 have HB2:=hid hb2;have MA:=hid ma;have MB:=hid mb;have EW:=hid eW2;have k0:=(ma.cell 0).trans (show _=some (.int .i64 a)from rfl);have k1:=(ma.cell 1).trans (show _=some (.int .i64 s)from rfl);have k2:=(mb.cell 0).trans (show _=some (.int .i64 b)from rfl);have k3:=(mb.cell 1).trans (show _=some (.int .i64 t)from rfl);clear hb2 ma mb eW2
 go_enter Tryz.func98,Tryz.ntmps98
 go_upto_region 1 with fail
 rw[←EW.out];clear EW
 go_wp2_with fail
 refine(HA.out W2).mono ?_;clear HA;rintro e w3 ⟨rfl,hb3⟩;have HB3:=hid (HB2.out.trans (hb3.mono HB2.out.size));cases x with
 | false=>
   obtain rfl:z=false:=by rw[HR.out];rfl
   clear HC hb3
   go_wp2_with fail
   go_ret
   exact⟨rfl,HB3.out⟩
 | true=>
   have m3:=MA.out.below hb3 MA.out.lt;have n3:=MB.out.below hb3 MB.out.lt;have d0:=(m3.cell 0).trans (show _=some (.int .i64 a)from rfl);have d1:=(m3.cell 1).trans (show _=some (.int .i64 s)from rfl);have d2:=(n3.cell 0).trans (show _=some (.int .i64 b)from rfl);have d3:=(n3.cell 1).trans (show _=some (.int .i64 t)from rfl);have HC3:=hid (HC.out w3 rfl);clear m3 n3 hb3 HC
   go_wp2_with fail
   refine HC3.out.mono ?_;clear HC3;rintro e w4 ⟨rfl,hb4⟩;have HB4:=hid (HB3.out.trans (hb4.mono HB3.out.size));clear hb4
   by_cases h0:r=0
   ·have q0:(r == (0:Int))=true:=by rw[beq_iff_eq];exact h0
    obtain rfl:z=true:=by rw[HR.out,q0];rfl
    clear h0
    go_wp2_with fail
    go_ret
    exact⟨rfl,HB4.out⟩
   ·have q0:(r == (0:Int))=false:=by rw[beq_eq_false_iff_ne];exact h0
    obtain rfl:z=false:=by rw[HR.out,q0];rfl
    clear h0
    go_wp2_with fail
    go_ret
    exact⟨rfl,HB4.out⟩
def nearE (whole rest unit:Int):Bool:=decide (unit < 2*rest) || (2*rest == unit && Int.tmod whole 2 == 1)
theorem nearer_any (whole rest unit sign:Int) (w:World) (h0:0≤rest) (h1:rest≤1000000000):Calls Tryz.prog 179 #[.int .i64 5,.int .i64 whole,.int .i64 rest,.int .i64 unit,.int .i64 sign] w fun e w'=>e=.returned (.bool (nearE whole rest unit))∧w'=w:=by
 have HR:Hid (nearE whole rest unit=(decide (unit < 2*rest) || (2*rest == unit && Int.tmod whole 2 == 1))):=hid rfl;have hw:wrap64 (2*rest)=2*rest:=by unfold wrap64;omega
 generalize nearE whole rest unit=z at*
 by_cases q1:unit < 2*rest
 ·obtain rfl:z=true:=by rw[HR.out,decide_eq_true q1];rfl
  go_enter Tryz.func179,Tryz.ntmps179
  go_wp2_with fail
  go_ret
  exact⟨rfl,rfl⟩
 ·by_cases q2:(2*rest == unit)=true
  ·have HR2:Hid (z=(Int.tmod whole 2 == 1)):=hid (by rw[HR.out,decide_eq_false q1,q2];rfl)
   clear HR;generalize hz:(Int.tmod whole 2 == 1)=y at *;obtain rfl:z=y:=HR2.out;cases z with
   | true=>
     go_enter Tryz.func179,Tryz.ntmps179
     go_wp2_with fail
     go_ret
     exact⟨rfl,rfl⟩
   | false=>
     go_enter Tryz.func179,Tryz.ntmps179
     go_wp2_with fail
     go_ret
     exact⟨rfl,rfl⟩
  ·have q2':(2*rest == unit)=false:=by simpa using q2
   obtain rfl:z=false:=by rw[HR.out,decide_eq_false q1,q2'];rfl
   clear q2
   go_enter Tryz.func179,Tryz.ntmps179
   go_wp2_with fail
   go_ret
   exact⟨rfl,rfl⟩
end Go.Proofs.YtpfmmbbggcghiaaGreatDoor
