/- The reader's message. -/
import Derived.Test.YtagfnpdoooachaaGreatDoorRdA
set_option linter.unusedSimpArgs false
set_option linter.unusedVariables false
set_option maxHeartbeats 12800000
set_option maxRecDepth 100000
namespace Go.Proofs.YtagfnpdoooachaaGreatDoor
open Go.RowKit
open Lib (hid)
theorem deep_back (k gb:Nat) (l:List UInt8) (d:Int) (u:FrameMode) (W:World) (hR:Rdr W k l d) (hB:Blk W gb 147 #[.pointer (some ⟨k,0,none⟩)]):
 CallsD Tryz.prog 131 #[.pointer (some ⟨gb,0,none⟩)] u W fun e u' w'=>u'=u∧(e=.returned (.tuple #[])∧w'=W.setCell ⟨k,1,none⟩ (.int .i64 (wrap64 (d - 1)))):=by
 have c1:=(Blk.cell (t:=149) hR 1).trans (show _=some (.int .i64 d)from rfl);have f1:=Blk.frozen (t:=149) hR 1;have b0:=(hB.cell 0).trans (show _=some (.pointer (some ⟨k,0,none⟩))from rfl);clear hR hB
 go_enter_d Tryz.func131,Tryz.ntmps131
 go_wp2_with fail
 go_end0
 exact⟨rfl,rfl⟩
def mdef (gb:Nat):List Deferred:=[{ target:=.fn (.func 131) #[.pointer (some ⟨gb,0,none⟩)],args:=#[] }]
theorem msg_thrown (k gb:Nat) (l:List UInt8) (d:Int) (tmps:Array Value) (R:Ending→World→Prop) (W:World) (hR:Rdr W k l d) (hB:Blk W gb 147 #[.pointer (some ⟨k,0,none⟩)]) (h:R (.panicked formP) (W.setCell ⟨k,1,none⟩ (.int .i64 (wrap64 (d - 1))))):
 Leaves Tryz.prog Tryz.f86 tmps R (mdef gb) (.panicking formP) W:=by
 refine leaves_cons (f:=131) (args:=#[.pointer (some ⟨gb,0,none⟩)]) (by simp) (by simp[go_sem]) ?_
 refine(deep_back k gb l d _ W hR hB).mono ?_;rintro e u' w2 ⟨rfl,rfl,rfl⟩;exact h
theorem msg_told (k gb:Nat) (l:List UInt8) (d:Int) (tmps:Array Value) (R:Ending→World→Prop) (v:Value) (W:World) (h4:tmps.getD 4 undef=v) (hR:Rdr W k l d) (hB:Blk W gb 147 #[.pointer (some ⟨k,0,none⟩)]) (h:R (.returned v) (W.setCell ⟨k,1,none⟩ (.int .i64 (wrap64 (d - 1))))):
 Leaves Tryz.prog Tryz.f86 tmps R (mdef gb) .returning W:=by
 refine leaves_cons (f:=131) (args:=#[.pointer (some ⟨gb,0,none⟩)]) (by simp) (by simp[go_sem]) ?_
 refine(deep_back k gb l d _ W hR hB).mono ?_;rintro e u' w2 ⟨rfl,rfl,rfl⟩;refine⟨v,?_,h⟩;subst h4;simp[results,Tryz.results86,go_sem]
section
variable {β:Type} {rd:Bool→List UInt8→Option (List β×List UInt8)} {mark:Bool} {n:Nat} {l:List UInt8} {p:List UInt8×List UInt8}
theorem msgL_none (h:bareM mark l=none):msgL rd mark (n+1) l=none:=by rw[msgL,h];rfl
theorem msgL_arg {r:List UInt8} (h:bareM mark l=some p) (h1:cutL [123] p.2=some r):msgL rd mark (n+1) l=(argL rd mark r).bind fun q=>(msgL rd mark n q.2).map fun z=>(preL p.1++q.1::z.1,z.2):=by rw[msgL,h,Option.bind_some,h1]
theorem msgL_mark {r:List UInt8} (h:bareM mark l=some p) (h1:cutL [123] p.2=none) (h2:markL mark p.2=some r):msgL rd mark (n+1) l=(msgL rd mark n r).map fun z=>(preL p.1++⟨6,ByteArray.empty,0,[]⟩::z.1,z.2):=by rw[msgL,h,Option.bind_some,h1,h2]
theorem msgL_end (h:bareM mark l=some p) (h1:cutL [123] p.2=none) (h2:markL mark p.2=none):msgL rd mark (n+1) l=some (preL p.1,p.2):=by rw[msgL,h,Option.bind_some,h1,h2]
end
structure MsgSt {β:Type} (M:Nat→Nat→World→Value→List β→Prop) (k:Nat) (w:World) (l:List UInt8) (d:Int) (out:Value) (xs:List (Prt (NdF β))) (W:World):Prop where
 rdr:Rdr W k l d
 fr:FrK k w W
 box:Blk W w.heap.size 147 #[.pointer (some ⟨k,0,none⟩)]
 row:Rws nodC 4 (MkC M) 197 (w.heap.size+1) W out xs
 hk:k < w.heap.size
section
variable {β:Type} {M:Nat→Nat→World→Value→List β→Prop} {k:Nat} {w W W':World} {l l':List UInt8} {d d':Int} {out:Value} {xs:List (Prt (NdF β))}
theorem MsgSt.on (hM:PLaws M) (h:MsgSt M k w l d out xs W) (hF:FrK k W W') (hR:Rdr W' k l' d'):MsgSt M k w l' d' out xs W':=
 ⟨hR,h.fr.trans hF,h.box.fr hF (by have:=h.hk;show ¬ w.heap.size=k;omega),h.row.keep (mkC_laws hM) (fun g g1 g2=>hF.block g g2 (by have:=h.hk;show ¬ g=k;omega)) hF.size,h.hk⟩
theorem MsgSt.push (hM:PLaws M) (h:MsgSt M k w l d out xs W) {w7:World} {out7:Value} (p:Prt (NdF β)) (h1:w.heap.size+1≤p.s) (h2:MkC M p.s p.e W p.u p.x) (h3:p.e≤W.heap.size) (h4:away out p.s p.e)
 (hg:W.grownBy w7 out.ownBlock) (hown:w7.ownsRow (w.heap.size+1) 197 4 out7 (xs.length+1) (flatW nodC xs++nodC p.x p.u)) (ho:out7.ownBlock=out.ownBlock∨out7.ownBlock=some W.heap.size):MsgSt M k w l d out7 (xs++[p]) w7:=by
 have hbk:∀ r,out.ownBlock=some r→w.heap.size+1≤r:=fun r hr=>(own_lt h.row.row hr).1;refine⟨(hg.block k (by have:=h.rdr.lt;omega) (fun e=>by have:=hbk k e.symm;have:=h.hk;omega)).trans h.rdr,h.fr.grown hg (fun r hr=>.inr (by have:=hbk r hr;omega)),(hg.block _ h.box.lt (fun e=>by have:=hbk _ e.symm;omega)).trans h.box,h.row.push (mkC_laws hM) p h1 h2 h3 h4 hg hown ho,h.hk⟩
theorem MsgSt.thrown {Q:Option (List (NdF β)×List UInt8)} {ok:Nat→Nat→World→Value→List (NdF β)→Prop} {dd:Int} (h:MsgSt M k w l d out xs W) (tmps:Array Value) (hQ:Q=none):
 Leaves Tryz.prog Tryz.f86 tmps (fun e w'=>ReadR ok k dd Q w e w') (mdef w.heap.size) (.panicking formP) W:=
 msg_thrown k w.heap.size l d tmps _ W h.rdr h.box (readR_none hQ (h.fr.setCell (p:=⟨k,1,none⟩) (.inl rfl) _) (Blk.set_ (t:=149) h.rdr 1 _))
theorem MsgSt.told {Q:Option (List (NdF β)×List UInt8)} (hM:PLaws M) (h:MsgSt M k w l (d+1) out xs W) (tmps:Array Value) (h4:tmps.getD 4 undef=out) (hd:0≤d∧d≤100) (hQ:Q=some (xs.map Prt.x,l)):
 Leaves Tryz.prog Tryz.f86 tmps (fun e w'=>ReadR (MkM M) k d Q w e w') (mdef w.heap.size) .returning W:=by
 refine msg_told k w.heap.size l (d+1) tmps _ out W h4 h.rdr h.box ?_;rw[show wrap64 (d+1 - 1)=d from by unfold wrap64;omega]
 have hk:=h.hk;have hs:∀ g,g≠k→(W.setCell ⟨k,1,none⟩ (.int .i64 d)).heap[g]? =W.heap[g]? :=fun g hg=>Below.heap_setCell _ _ _ _ (by exact hg)
 refine readR_some hQ (h.fr.setCell (p:=⟨k,1,none⟩) (.inl rfl) _) (Blk.set_ (t:=149) h.rdr 1 _) ?_;refine(mkM_laws hM).mono ((mkM_laws hM).keep (h.row.ok (mkC_laws hM) nodC_len (Nat.le_refl _) (Nat.le_refl _)) fun g g1 _=>hs g (by omega)) (Nat.le_succ _) ?_
 simp[World.setCell]
end
theorem argL_short {β:Type} {rd:Bool→List UInt8→Option (List β×List UInt8)} (hrl:∀ mark l b r,rd mark l=some (b,r)→r.length≤l.length) {mark:Bool} {l:List UInt8} {p:NdF β×List UInt8} (h:argL rd mark l=some p):p.2.length≤l.length:=by
 have h1:=argL_len (cb:=fun _=>0) (fun mark l b r h=>by have:=hrl mark l b r h;show 0+_≤_;omega) h
 omega
theorem str_tl (m:List UInt8):(str m).toList=m:=by rw[ByteArray.toList_eq];rfl
theorem away_new {out:Value} {W:World} {base sz n:Nat} {t:TypeId} {xs:List Value} (h:W.ownsRow base t sz out n xs) (s e:Nat) (hs:W.heap.size≤s):away out s e:=fun r hr=>.inl (by have:=(own_lt h hr).2;omega)
theorem rmsg_walk {β:Type} {M:Nat→Nat→World→Value→List β→Prop} (hM:PLaws M) (rd:Bool→List UInt8→Option (List β×List UInt8)) (hrl:∀ mark l b r,rd mark l=some (b,r)→r.length≤l.length) (k:Nat) (d:Int) (hd:0≤d∧d≤6) (mark:Bool) (l:List UInt8) (w:World) (h:Rdr w k l d) (hl:l.length≤2000)
 (HAr:Hid (∀ mark l W,Rdr W k l (d+1)→l.length≤2000→Calls Tryz.prog 134 #[.pointer (some ⟨k,0,none⟩),.bool mark] W fun e w'=>ReadR (ArgOk M) k (d+1) (argL rd mark l) W e w')):
 Calls Tryz.prog 86 #[.pointer (some ⟨k,0,none⟩),.bool mark] w fun e w'=>ReadR (MkM M) k d (msgL rd mark (l.length+1) l) w e w':=by
 have hk:=h.lt;obtain⟨Q,hQ⟩:∃ Q,Q=msgL rd mark (l.length+1) l:=⟨_,rfl⟩;rw[←hQ];have HQ:=hid hQ;have hmf:∀(fn:Fn) (first cap:Array Value) (w:World),(Instr.makeFunc fn first cap).run Tryz.prog w=.ok (.func fn first cap) w:=fun _ _ _ _=>rfl
 obtain⟨W1,eW1⟩:∃ W1,W1=w.alloc (.cells #[.pointer (some ⟨k,0,none⟩)] 147):=⟨_,rfl⟩;have hb1:Below w.heap.size w W1:=by rw[eW1];exact(Below.refl _ _).alloc (Nat.le_refl _) _
 have hx1:Blk W1 w.heap.size 147 #[.pointer (some ⟨k,0,none⟩)]:=by rw[eW1];exact Blk.new _ _ _
 have hr1:=h.on hb1;have b0:=(hx1.cell 0).trans (show _=some (.pointer (some ⟨k,0,none⟩))from rfl);have c1:=(Blk.cell (t:=149) hr1 1).trans (show _=some (.int .i64 d)from rfl);have f1:=Blk.frozen (t:=149) hr1 1;have hwd:wrap64 (d+1)=d+1:=by unfold wrap64;omega
 have hgt:¬(7 < d+1):=by omega
 obtain⟨W2,eW2⟩:∃ W2,W2=W1.setCell ⟨k,1,none⟩ (.int .i64 (d+1)):=⟨_,rfl⟩;have hr2:Rdr W2 k l (d+1):=by rw[eW2];exact Blk.set_ (t:=149) hr1 1 _
 have hx2:Blk W2 w.heap.size 147 #[.pointer (some ⟨k,0,none⟩)]:=by rw[eW2];exact hx1.far (p:=⟨k,1,none⟩) (by show w.heap.size≠k;omega) _
 have hf2:FrK k w W2:=by rw[eW2];exact(Fr.of_below hb1 (· =k)).setCell (p:=⟨k,1,none⟩) (.inl rfl) _
 have b2:=(hx2.cell 0).trans (show _=some (.pointer (some ⟨k,0,none⟩))from rfl);have c2:=(Blk.cell (t:=149) hr2 1).trans (show _=some (.int .i64 (d+1))from rfl);have HS2:Hid (MsgSt M k w l (d+1) (.slice none 0 0) [] W2):=hid ⟨hr2,hf2,hx2,Rws.nil,hk⟩;have HM:=hid hM;have EW1:=hid eW1;have EW2:=hid eW2;clear hQ h hb1 hx1 hr1 eW1 eW2 hr2 hx2 hf2 hM
 go_enter_defers Tryz.func86,Tryz.ntmps86
 go_upto_region 1 with fail
 rw[←EW1.out];clear EW1
 go_upto_region 2 with fail
 rw[←EW2.out];clear EW2 b0 c1 f1
 go_wp2_with fail
 clear b2 c2 hwd hgt
 change Code.wp _ _ _ { tmps:=_,defers:=mdef w.heap.size } _
 go_loopg [5,6,7,8] l.length (fun g o _ _ _ wr=>∃(l':List UInt8) (n:Nat) (xs:List (Prt (NdF β))),l'.length=g∧Hid (Q=(msgL rd mark (n+1) l').map (appX (xs.map Prt.x))∧l'.length≤n∧xs.length+2*l'.length≤4000)∧MsgSt M k w l' (d+1) o xs wr)
 case atStart=>exact⟨l,l.length,[],rfl,hid ⟨by rw[HQ.out];cases msgL rd mark (l.length+1) l <;> rfl,Nat.le_refl _,by simp;omega⟩,HS2.out⟩
 case round=>
  clear HS2 HQ;obtain⟨l',n,xs,rfl,HI,hS⟩:=hrel;obtain⟨wo,rfl⟩:∃ wo:World,wo=wr:=⟨_,rfl⟩;have HS:=hid hS;obtain⟨OA,Oc,rfl,_⟩:=own_slice hS.row.row;have hlx:xs.length+2*l'.length≤4000:=HI.out.2.2;have hln:l'.length≤n:=HI.out.2.1;have b0:=(hS.box.cell 0).trans (show _=some (.pointer (some ⟨k,0,none⟩))from rfl);have c0:=(Blk.cell (t:=149) hS.rdr 0).trans (show _=some (.string (str l'))from rfl);have HBr:Hid (Calls Tryz.prog 132 #[.string (str l'),.bool mark] wo fun e w'=>e=.returned (barT (bareM mark l') l'.length)∧Below wo.heap.size wo w'):=hid (by
   have h1:=Bare_any (str l') mark wo (by rw[str_size];omega)
   rw[bts_str,str_size]at h1;exact h1)
  clear hS;cases hb:bareM mark l' with
  | none=>
    rw[hb]at HBr;have HE:Hid (Q=none):=hid (by rw[HI.out.1,msgL_none hb];rfl)
    clear HI hb;unfold barT at HBr;dsimp only at HBr
    go_wp2_with fail
    refine HBr.out.mono ?_;clear HBr;rintro e w1 ⟨rfl,hb1⟩;have HS1:=hid (HS.out.on HM.out (Fr.of_below hb1 (· =k)) (HS.out.rdr.on hb1));clear hb1 b0 c0
    go_wp2_with fail
    exact HS1.out.thrown _ HE.out
  | some p=>
    rw[hb]at HBr;have hbl:=bareM_len (t:=p.1) (r:=p.2) hb;have hbd:=bareM_drop hb;unfold barT at HBr;dsimp only at HBr
    go_wp2_with fail
    refine HBr.out.mono ?_;clear HBr;rintro e w1 ⟨rfl,hb1⟩;have hS1:=HS.out.on HM.out (Fr.of_below hb1 (· =k)) (HS.out.rdr.on hb1);have b1:=(hS1.box.cell 0).trans (show _=some (.pointer (some ⟨k,0,none⟩))from rfl);have c1:=(Blk.cell (t:=149) hS1.rdr 0).trans (show _=some (.string (str l'))from rfl);have f1:=Blk.frozen (t:=149) hS1.rdr 0;have hsz:=str_size l';have hex:(str l').extract (l'.length - p.2.length) l'.length=str p.2:=bts_inj (by rw[bts_extract,bts_str,bts_str,List.take_length,hbd])
    have HS1:=hid hS1;obtain⟨E,hE⟩:∃ E,E=l'.length - p.2.length:=⟨_,rfl⟩;rw[←hE]at hex ⊢;have e0:(0:Int)≤(E:Int):=Int.natCast_nonneg E;have e1:(E:Int)≤((str l').size:Int):=by omega
    have e2:(E:Int)≤(l'.length:Int):=by omega
    have HSp:Hid (MsgSt M k w p.2 (d+1) (.slice OA xs.length Oc) xs (w1.setCell ⟨k,0,none⟩ (.string (str p.2))).drew):=hid (hS1.on HM.out ((Fr.refl w1 (· =k)).setCell (p:=⟨k,0,none⟩) (.inl rfl) _).drew (hS1.rdr.put p.2));clear hb1 hS1 b0 c0 hE
    go_upto_region 9 with fail
    go_cut []from 23 to 71 (fun wx=>MsgSt M k w p.2 (d+1) (.slice OA xs.length Oc) xs wx)
    case first=>
     clear HI HAr HS HS1
     go_region
     all_goals
      go_wp2_with fail
      go_meet
      case rel=>exact HSp.out
    case rest=>
     have HS3:=hid hcut;clear hcut b1 c1 f1 hex e0 e1 e2 HSp HS HS1 hsz;have hpt:(str p.1).size=p.1.length:=str_size p.1
     go_upto_if 46 with fail
     go_cut [5]from 23 to 71 (fun o wx=>∃ xs2:List (Prt (NdF β)),MsgSt M k w p.2 (d+1) o xs2 wx∧Hid (xs2.map Prt.x=xs.map Prt.x++preL p.1∧xs2.length≤xs.length+1))
     case first=>
      by_cases hp:p.1=[]
      ·have ht:((str p.1).toList.isEmpty)=true:=by rw[str_tl,hp];rfl
       have ht2:((str p.1).toList=[]):=by rw[str_tl,hp]
       have HL:Hid (preL p.1=([]:List (NdF β))):=hid (if_pos hp);rw[ht];simp only[Bool.not_true];clear HI HAr hp
       go_wp2_with fail
       go_meet
       case rel=>exact⟨xs,HS3.out,hid ⟨by rw[HL.out,List.append_nil],Nat.le_succ _⟩⟩
      ·have ht:((str p.1).toList.isEmpty)=false:=by
        rw[str_tl];cases hq:p.1 with
        | nil=>exact absurd hq hp
        | cons _ _=>rfl
       have HL:Hid (preL p.1=[(⟨1,str p.1,0,[]⟩:NdF β)]):=hid (if_neg hp);rw[ht];simp only[Bool.not_false];obtain⟨W5,eW5⟩:∃ W5,W5=wc.alloc (.cells #[.int .i64 1,.string (str p.1),.int .i64 0,.slice none 0 0] 197):=⟨_,rfl⟩;have hb5:Below wc.heap.size wc W5:=by rw[eW5];exact(Below.refl _ _).alloc (Nat.le_refl _) _
       have HS5:=hid (HS3.out.on HM.out (Fr.of_below hb5 (· =k)) (HS3.out.rdr.on hb5));have HNews:Hid (1=0∨∃ b9 o9,(some ⟨wc.heap.size,0,none⟩:Option Addr)=some ⟨b9,o9,none⟩∧∀ j y,(nodC (⟨1,str p.1,0,[]⟩:NdF β) (.slice none 0 0))[j]? =some y→W5.cell? ⟨b9,o9+j,none⟩=some y):=hid (.inr ⟨wc.heap.size,0,rfl,by rw[eW5];exact news_of wc [.int .i64 1,.string (str p.1),.int .i64 0,.slice none 0 0] 197⟩)
       have HOne:Hid (∀ y∈nodC (⟨1,str p.1,0,[]⟩:NdF β) (.slice none 0 0),y.oneCell'=true):=hid (by
        intro y hy;unfold nodC at hy;simp at hy;rcases hy with rfl|rfl|rfl|rfl <;> rfl)
       have EW5:=hid eW5;have hsz5:w.heap.size+1≤W5.heap.size:=HS5.out.box.lt;have hs35:wc.heap.size≤W5.heap.size:=hb5.size;have HAw:=hid (away_new HS3.out.row.row wc.heap.size wc.heap.size (Nat.le_refl _));have hw35:w.heap.size+1≤wc.heap.size:=HS3.out.box.lt;clear HI HAr hp hb5 eW5
       go_wp2_with (at_builtin;rw[←EW5.out];refine wpList_append_any rfl _ _ 84 rfl (w.heap.size+1) 197 Tryz.underlying84 info_nodeR rfl (by decide) (flatW nodC xs) rfl HS5.out.row.row (nodC (⟨1,str p.1,0,[]⟩:NdF β) (.slice none 0 0)) rfl rfl HNews.out HOne.out (by unfold maxLen;omega) (by omega) hsz5 ?_)
       intro v10 w10 hown10 hg10 ho10;have HS10:=hid (HS5.out.push HM.out ⟨(⟨1,str p.1,0,[]⟩:NdF β),.slice none 0 0,wc.heap.size,wc.heap.size⟩ hw35 (RowOk.nil casC 2 _ _ _ _ _ _) hs35 HAw.out hg10 hown10 ho10);clear hown10 hg10 ho10 HNews HOne
       go_wp2_with fail
       go_meet
       case rel=>exact⟨_,HS10.out,hid ⟨by rw[List.map_append,HL.out];rfl,by rw[List.length_append];exact Nat.le_refl _⟩⟩
     case rest=>
      obtain⟨xs2,hS4,HX2⟩:=hcut;obtain⟨OB,Od,rfl,_⟩:=own_slice hS4.row.row;have HX:=HX2;have hx2:xs2.length≤xs.length+1:=HX2.out.2;have HS4:=hid hS4;have b4:=(hS4.box.cell 0).trans (show _=some (.pointer (some ⟨k,0,none⟩))from rfl);have HCt:Hid (Calls Tryz.prog 133 #[.pointer (some ⟨k,0,none⟩),.string ⟨#[123]⟩] wc fun e w'=>e=.returned (.bool (cutL [123] p.2).isSome)∧Rdr w' k ((cutL [123] p.2).getD p.2) (d+1)∧FrK k wc w'):=hid (cut_any k p.2 (d+1) ⟨#[123]⟩ wc hS4.rdr);clear hS4 HS3 HX2;cases h1:cutL [123] p.2 with
      | some r=>
        rw[h1]at HCt;have hc1:=cutL_len h1;simp only[List.length_cons,List.length_nil]at hc1;have HI2:=hid (HI.out.1.trans (by rw[msgL_arg hb h1]))
        clear HI h1 hb
        go_wp2_with fail
        refine HCt.out.mono ?_;clear HCt;rintro e w5 ⟨rfl,hR5,hF5⟩;have hR5:Rdr w5 k r (d+1):=hR5;have hS5:=HS4.out.on HM.out hF5 hR5;have b5:=(hS5.box.cell 0).trans (show _=some (.pointer (some ⟨k,0,none⟩))from rfl);have HS5:=hid hS5;have HA5:=hid (HAr.out mark r w5 hR5 (by omega))
        clear hR5 hF5 hS5 HS4 b4 HAr;cases h2:argL rd mark r with
        | none=>
          rw[h2]at HA5;have HE:Hid (Q=none):=hid (by rw[HI2.out,h2];rfl)
          clear HI2 h2
          go_wp2_with fail
          refine HA5.out.mono ?_;clear HA5;rintro e w6 ⟨hF6,rfl,l6,d6,hR6⟩;have HS6:=hid (HS5.out.on HM.out hF6 hR6);clear hR6 hF6
          go_wp2_with fail
          exact HS6.out.thrown _ HE.out
        | some q=>
          rw[h2]at HA5;have hq2:=argL_short hrl h2;have HI3:=hid (HI2.out.trans (by rw[h2,Option.bind_some]))
          clear HI2 h2
          go_wp2_with fail
          refine HA5.out.mono ?_;clear HA5;rintro e w6 ⟨hF6,v6,rfl,hR6,A6,c6,rfl,hC6⟩;have hs56:=hF6.size;have HS6:=hid (HS5.out.on HM.out hF6 hR6);obtain⟨W7,eW7⟩:∃ W7,W7=w6.alloc (.cells #[.int .i64 q.1.kind,.string q.1.text,.int .i64 q.1.off,.slice A6 q.1.cases.length c6] 197):=⟨_,rfl⟩;have hb7:Below w6.heap.size w6 W7:=by rw[eW7];exact(Below.refl _ _).alloc (Nat.le_refl _) _
          have HS7:=hid (HS6.out.on HM.out (Fr.of_below hb7 (· =k)) (HS6.out.rdr.on hb7));have HC7:Hid (MkC M w5.heap.size w6.heap.size W7 (.slice A6 q.1.cases.length c6) q.1):=hid ((mkC_laws HM.out).keep hC6 fun g _ g2=>hb7.block g g2);have HNews:Hid (1=0∨∃ b9 o9,(some ⟨w6.heap.size,0,none⟩:Option Addr)=some ⟨b9,o9,none⟩∧∀ j y,(nodC q.1 (.slice A6 q.1.cases.length c6))[j]? =some y→W7.cell? ⟨b9,o9+j,none⟩=some y):=hid (.inr ⟨w6.heap.size,0,rfl,by rw[eW7];exact news_of w6 [.int .i64 q.1.kind,.string q.1.text,.int .i64 q.1.off,.slice A6 q.1.cases.length c6] 197⟩)
          have HOne:Hid (∀ y∈nodC q.1 (.slice A6 q.1.cases.length c6),y.oneCell'=true):=hid (by
           intro y hy;unfold nodC at hy;simp at hy;rcases hy with rfl|rfl|rfl|rfl <;> rfl)
          have EW7:=hid eW7;have hsz7:w.heap.size+1≤W7.heap.size:=HS7.out.box.lt;have hs67:w6.heap.size≤W7.heap.size:=hb7.size;have HAw:=hid (away_new HS5.out.row.row w5.heap.size w6.heap.size (Nat.le_refl _));have hw5:w.heap.size+1≤w5.heap.size:=HS5.out.box.lt;have hn1:1≤n:=by omega
          obtain⟨n',rfl⟩:∃ n',n=n'+1:=⟨n - 1,by omega⟩
          have HI4:Hid (Q=(msgL rd mark (n'+1) q.2).map (appX ((xs2++[(⟨q.1,.slice A6 q.1.cases.length c6,w5.heap.size,w6.heap.size⟩:Prt (NdF β))]).map Prt.x))∧q.2.length≤n'∧(xs2++[(⟨q.1,.slice A6 q.1.cases.length c6,w5.heap.size,w6.heap.size⟩:Prt (NdF β))]).length+2*q.2.length≤4000):=hid ⟨by
           rw[HI3.out,List.map_append,HX.out.1];cases msgL rd mark (n'+1) q.2 with
           | none=>rfl
           | some z=>show some _=some _;simp[appX],by omega,by rw[List.length_append];simp;omega⟩
          clear hF6 hR6 hC6 hb7 eW7 HI3 HX HS6
          go_wp2_with (at_builtin;rw[←EW7.out];refine wpList_append_any rfl _ _ 84 rfl (w.heap.size+1) 197 Tryz.underlying84 info_nodeR rfl (by decide) (flatW nodC xs2) rfl HS7.out.row.row (nodC q.1 (.slice A6 q.1.cases.length c6)) rfl rfl HNews.out HOne.out (by unfold maxLen;omega) (by omega) hsz7 ?_)
          intro v10 w10 hown10 hg10 ho10;have HS10:=hid (HS7.out.push HM.out ⟨q.1,.slice A6 q.1.cases.length c6,w5.heap.size,w6.heap.size⟩ hw5 HC7.out hs67 HAw.out hg10 hown10 ho10);clear hown10 hg10 ho10 HNews HOne HC7 HS7 HS5 HAw EW7
          go_wp2_with fail
          go_roundg q.2.length
          case measure=>omega
          case rel=>exact⟨q.2,n',_,rfl,HI4,HS10.out⟩
      | none=>
        rw[h1]at HCt;have HFin:Hid (markL mark p.2=none→Q=some (xs2.map Prt.x,p.2)):=hid fun h2=>by
         rw[HI.out.1,msgL_end hb h1 h2,HX.out.1];rfl
        have HMk:Hid (∀ r,markL mark p.2=some r→Q=((msgL rd mark n r).map fun z=>(preL p.1++⟨6,ByteArray.empty,0,[]⟩::z.1,z.2)).map (appX (xs.map Prt.x))):=hid fun r h2=>by rw[HI.out.1,msgL_mark hb h1 h2]
        clear HI h1 hb HAr;cases hm:mark with
        | false=>
          rw[hm]at HFin HMk;have HE:=hid (HFin.out rfl);clear HFin HMk
          go_wp2_with fail
          refine HCt.out.mono ?_;clear HCt;rintro e w5 ⟨rfl,hR5,hF5⟩;have hR5:Rdr w5 k p.2 (d+1):=hR5;have HS5:=hid (HS4.out.on HM.out hF5 hR5);clear hR5 hF5 HS4 b4
          go_wp2_with fail
          exact HS5.out.told HM.out _ rfl (by omega) HE.out
        | true=>
          subst hm
          go_wp2_with fail
          refine HCt.out.mono ?_;clear HCt;rintro e w5 ⟨rfl,hR5,hF5⟩;have hR5:Rdr w5 k p.2 (d+1):=hR5;have hS5:=HS4.out.on HM.out hF5 hR5;have b5:=(hS5.box.cell 0).trans (show _=some (.pointer (some ⟨k,0,none⟩))from rfl);have HS5:=hid hS5;have HC5:Hid (Calls Tryz.prog 133 #[.pointer (some ⟨k,0,none⟩),.string ⟨#[35]⟩] w5 fun e w'=>e=.returned (.bool (cutL [35] p.2).isSome)∧Rdr w' k ((cutL [35] p.2).getD p.2) (d+1)∧FrK k w5 w'):=hid (cut_any k p.2 (d+1) ⟨#[35]⟩ w5 hR5);clear hR5 hF5 hS5 HS4 b4;cases h2:cutL [35] p.2 with
          | none=>
            rw[h2]at HC5;have HE:=hid (HFin.out h2);clear HFin HMk h2
            go_wp2_with fail
            refine HC5.out.mono ?_;clear HC5;rintro e w6 ⟨rfl,hR6,hF6⟩;have hR6:Rdr w6 k p.2 (d+1):=hR6;have HS6:=hid (HS5.out.on HM.out hF6 hR6);clear hR6 hF6 HS5 b5
            go_wp2_with fail
            exact HS6.out.told HM.out _ rfl (by omega) HE.out
          | some r=>
            rw[h2]at HC5;have hc2:=cutL_len h2;simp only[List.length_cons,List.length_nil]at hc2;have HI3:=hid (HMk.out r h2);clear HFin HMk h2
            go_wp2_with fail
            refine HC5.out.mono ?_;clear HC5;rintro e w6 ⟨rfl,hR6,hF6⟩;have hR6:Rdr w6 k r (d+1):=hR6;have HS6:=hid (HS5.out.on HM.out hF6 hR6);obtain⟨W7,eW7⟩:∃ W7,W7=w6.alloc (.cells #[.int .i64 6,.string ⟨#[]⟩,.int .i64 0,.slice none 0 0] 197):=⟨_,rfl⟩;have hb7:Below w6.heap.size w6 W7:=by rw[eW7];exact(Below.refl _ _).alloc (Nat.le_refl _) _
            have HS7:=hid (HS6.out.on HM.out (Fr.of_below hb7 (· =k)) (HS6.out.rdr.on hb7));have HNews:Hid (1=0∨∃ b9 o9,(some ⟨w6.heap.size,0,none⟩:Option Addr)=some ⟨b9,o9,none⟩∧∀ j y,(nodC (⟨6,ByteArray.empty,0,[]⟩:NdF β) (.slice none 0 0))[j]? =some y→W7.cell? ⟨b9,o9+j,none⟩=some y):=hid (.inr ⟨w6.heap.size,0,rfl,by rw[eW7];exact news_of w6 [.int .i64 6,.string ⟨#[]⟩,.int .i64 0,.slice none 0 0] 197⟩)
            have HOne:Hid (∀ y∈nodC (⟨6,ByteArray.empty,0,[]⟩:NdF β) (.slice none 0 0),y.oneCell'=true):=hid (by
             intro y hy;unfold nodC at hy;simp at hy;rcases hy with rfl|rfl|rfl|rfl <;> rfl)
            have EW7:=hid eW7;have hsz7:w.heap.size+1≤W7.heap.size:=HS7.out.box.lt;have hs67:w6.heap.size≤W7.heap.size:=hb7.size;have HAw:=hid (away_new HS6.out.row.row w6.heap.size w6.heap.size (Nat.le_refl _));have hw6:w.heap.size+1≤w6.heap.size:=HS6.out.box.lt;have hn1:1≤n:=by omega
            obtain⟨n',rfl⟩:∃ n',n=n'+1:=⟨n - 1,by omega⟩
            have HI4:Hid (Q=(msgL rd true (n'+1) r).map (appX ((xs2++[(⟨(⟨6,ByteArray.empty,0,[]⟩:NdF β),.slice none 0 0,w6.heap.size,w6.heap.size⟩:Prt (NdF β))]).map Prt.x))∧r.length≤n'∧(xs2++[(⟨(⟨6,ByteArray.empty,0,[]⟩:NdF β),.slice none 0 0,w6.heap.size,w6.heap.size⟩:Prt (NdF β))]).length+2*r.length≤4000):=hid ⟨by
             rw[HI3.out,List.map_append,HX.out.1];cases msgL rd true (n'+1) r with
             | none=>rfl
             | some z=>show some _=some _;simp[appX],by omega,by rw[List.length_append];simp;omega⟩
            clear hR6 hF6 hb7 eW7 HI3 HX HS6 HS5 b5
            go_wp2_with (at_builtin;rw[←EW7.out];refine wpList_append_any rfl _ _ 84 rfl (w.heap.size+1) 197 Tryz.underlying84 info_nodeR rfl (by decide) (flatW nodC xs2) rfl HS7.out.row.row (nodC (⟨6,ByteArray.empty,0,[]⟩:NdF β) (.slice none 0 0)) rfl rfl HNews.out HOne.out (by unfold maxLen;omega) (by omega) hsz7 ?_)
            intro v10 w10 hown10 hg10 ho10;have HS10:=hid (HS7.out.push HM.out ⟨(⟨6,ByteArray.empty,0,[]⟩:NdF β),.slice none 0 0,w6.heap.size,w6.heap.size⟩ hw6 (RowOk.nil casC 2 _ _ _ _ _ _) hs67 HAw.out hg10 hown10 ho10);clear hown10 hg10 ho10 HNews HOne HS7 HAw EW7
            go_wp2_with fail
            go_roundg r.length
            case measure=>omega
            case rel=>exact⟨r,n',_,rfl,HI4,HS10.out⟩
theorem rmessage_deep {α:Type} {ok:Nat→Nat→World→Value→α→Prop} (k:Nat) (mark:Bool) (l:List UInt8) (w:World) (h:Rdr w k l 7):
 Calls Tryz.prog 86 #[.pointer (some ⟨k,0,none⟩),.bool mark] w fun e w'=>ReadR ok k 7 none w e w':=by
 have hk:=h.lt;obtain⟨W1,eW1⟩:∃ W1,W1=w.alloc (.cells #[.pointer (some ⟨k,0,none⟩)] 147):=⟨_,rfl⟩;have hb1:Below w.heap.size w W1:=by rw[eW1];exact(Below.refl _ _).alloc (Nat.le_refl _) _
 have hx1:Blk W1 w.heap.size 147 #[.pointer (some ⟨k,0,none⟩)]:=by rw[eW1];exact Blk.new _ _ _
 have hr1:=h.on hb1;have b0:=(hx1.cell 0).trans (show _=some (.pointer (some ⟨k,0,none⟩))from rfl);have c1:=(Blk.cell (t:=149) hr1 1).trans (show _=some (.int .i64 7)from rfl);have f1:=Blk.frozen (t:=149) hr1 1;obtain⟨W2,eW2⟩:∃ W2,W2=W1.setCell ⟨k,1,none⟩ (.int .i64 8):=⟨_,rfl⟩;have hr2:Rdr W2 k l 8:=by rw[eW2];exact Blk.set_ (t:=149) hr1 1 _
 have hx2:Blk W2 w.heap.size 147 #[.pointer (some ⟨k,0,none⟩)]:=by rw[eW2];exact hx1.far (p:=⟨k,1,none⟩) (by show w.heap.size≠k;omega) _
 have hf2:FrK k w W2:=by rw[eW2];exact(Fr.of_below hb1 (· =k)).setCell (p:=⟨k,1,none⟩) (.inl rfl) _
 have b2:=(hx2.cell 0).trans (show _=some (.pointer (some ⟨k,0,none⟩))from rfl);have c2:=(Blk.cell (t:=149) hr2 1).trans (show _=some (.int .i64 8)from rfl);have HR:Hid (ReadR ok k 7 none w (.panicked formP) W2):=hid (readR_none rfl hf2 hr2);have EW1:=hid eW1;have EW2:=hid eW2;clear h hb1 hx1 hr1 eW1 eW2 hr2 hx2 hf2
 go_enter_defers Tryz.func86,Tryz.ntmps86
 go_upto_region 1 with fail
 rw[←EW1.out];clear EW1
 go_upto_region 2 with fail
 rw[←EW2.out];clear EW2 b0 c1 f1
 go_wp2_with fail
 exact HR.out
theorem readM_short (n:Nat) (mark:Bool) (l:List UInt8) (b:List (Nd n)) (r:List UInt8) (h:readM n mark l=some (b,r)):r.length≤l.length:=by
 have:=readM_len n mark l b r h;omega
theorem rmessage_any:(n:Nat)→(d:Nat)→d+n=7→(k:Nat)→(mark:Bool)→(l:List UInt8)→(w:World)→Rdr w k l (d:Int)→l.length≤2000→
 Calls Tryz.prog 86 #[.pointer (some ⟨k,0,none⟩),.bool mark] w fun e w'=>ReadR (MkN n) k d (readM n mark l) w e w'
 | 0,d,hd,k,mark,l,w,h,hl=>by
   obtain rfl:d=7:=by omega
   exact rmessage_deep k mark l w h
 | n+1,d,hd,k,mark,l,w,h,hl=>by
   refine rmsg_walk (mkN_laws n) (readM n) (readM_short n) k d (by omega) mark l w h hl (hid fun mk l' W hR hl'=> ?_)
   refine arg_walk (mkN_laws n) (readM n) k (d+1) mk l' W hR hl' (hid fun mk2 l2 W2 hR2 hl2=> ?_);refine rcases_walk (mkN_laws n) (readM n) k (d+1) mk2 l2 W2 hR2 hl2 (hid ⟨readM_short n,fun mk3 l3 W3 hR3 hl3=> ?_⟩) (hid fun lo hi W v b hb=>MkN.form n hb);exact rmessage_any n (d+1) (by omega) k mk3 l3 W3 hR3 hl3
end Go.Proofs.YtagfnpdoooachaaGreatDoor
