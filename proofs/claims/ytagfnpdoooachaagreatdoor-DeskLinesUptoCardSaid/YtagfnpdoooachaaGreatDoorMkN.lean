/- lex.Bare. -/
import Derived.Test.YtagfnpdoooachaaGreatDoorLexW
set_option linter.unusedSimpArgs false
set_option linter.unusedVariables false
set_option maxHeartbeats 6400000
set_option maxRecDepth 100000
namespace Go.Proofs.YtagfnpdoooachaaGreatDoor
open Go.RowKit
open Lib (hid)
def barT (o:LexR) (n:Nat):Value:=match o with|none=>.tuple #[.string ⟨#[]⟩,.int .i64 0,.iface 27 (.int .i64 3)]|some p=>.tuple #[.string (str p.1),.int .i64 ((n - p.2.length:Nat):Int),.nilIface]
theorem sgnAt_at (mark:Bool) (s:ByteArray) (j:Nat) (h:j < s.size):sgnAt mark s j=sigL mark s[j]:=by
 unfold sgnAt sigH;rw[drop_at s j h];rfl
theorem len_drop (s:ByteArray) (j:Nat):((bts s).drop j).length=s.size - j:=by rw[List.length_drop,bts_len]
theorem Bare_any (s:ByteArray) (mark:Bool) (w:World) (hs:s.size≤1000000000):
 Calls Tryz.prog 132 #[.string s,.bool mark] w fun e w'=>e=.returned (barT (bareM mark (bts s)) s.size)∧Below w.heap.size w w':=by
 obtain⟨W3,eW3⟩:∃ W3,W3=((w.alloc (.cells #[.string s] 9)).alloc (.cells #[.bool mark] 4)).alloc (.cells #[.pointer none,.slice none 0 0] 136):=⟨_,rfl⟩;have HS0:Hid (BaSt w s mark [] W3):=hid (by rw[eW3];exact BaSt.made w s mark)
 have hmf:∀(fn:Fn) (first cap:Array Value) (w:World),(Instr.makeFunc fn first cap).run Tryz.prog w=.ok (.func fn first cap) w:=fun _ _ _ _=>rfl
 obtain⟨Q,hQ⟩:∃ Q,Q=bareM mark (bts s):=⟨_,rfl⟩;rw[←hQ];have HQ:=hid hQ;have EW:=hid eW3;clear hQ eW3
 go_enter Tryz.func132,Tryz.ntmps132
 go_wp2_with fail
 rw[←EW.out];clear EW
 go_loopw [9,10,11,12] (fun k _ _ _ wr=>∃(j:Nat) (l:List UInt8) (n:Nat),j≤s.size∧k=.int .i64 (j:Int)∧l.length≤j∧Hid (Q=(lexL mark (n+1) ((bts s).drop j)).map (appL l)∧s.size - j≤n)∧BaSt w s mark l wr) (fun k _ _ _ _=>s.size - (intOf k).toNat)
 case atStart=>exact⟨0,[],s.size,Nat.zero_le _,rfl,Nat.le_refl _,hid ⟨by rw[appL_nil,HQ.out,List.drop_zero];unfold bareM;rw[bts_len],by omega⟩,HS0.out⟩
 case round=>
  clear HS0 HQ;obtain⟨j,l,n,hj,rfl,hl,HI,hS⟩:=hrel;obtain⟨wo,rfl⟩:∃ wo:World,wo=wr:=⟨_,rfl⟩;have HS:=hid hS;have t0:=(hS.txt.cell 0).trans (show _=some (.string s)from rfl);have hws:=hS.size;have HT:=hid (bld_text hS.bld hS.size);clear hS
  by_cases hlt:j < s.size
  ·have i1:(0:Int)≤(j:Int):=Int.natCast_nonneg j;have i2:(j:Int) < (s.size:Int):=by omega
   have i3:(j:Int)≤(s.size:Int):=by omega
   have hda:=drop_at s j hlt;have hsg:=sgnAt_at mark s j hlt;have HG:=hid (sign_any w wo s mark j hs HS.out.txt HS.out.mrk);cases hsj:sgnAt mark s j with
   | true=>
     rw[hsj]at HG;have HE:Hid (Q=some (l,(bts s).drop j)):=hid (by
      rw[HI.out.1,hda,lexL_sign (by rw[←hsg,hsj])]
      show some _=some _;rw[appL,List.append_nil])
     have HL:=hid (len_drop s j);clear HI hda hsg hsj
     go_wp2_with fail
     refine HG.out.mono ?_;clear HG;rintro e w1 ⟨rfl,q,rfl⟩;have hS1:=HS.out.drewN q;have HT1:=hid (bld_text hS1.bld hS1.size);have HB1:=hid hS1.below;clear HT hS1
     go_wp2_with fail
     refine HT1.out.mono ?_;clear HT1;rintro e w2 ⟨rfl,hb2⟩;have HBe:=hid (HB1.out.trans (hb2.mono (by omega)))
     clear hb2
     go_wp2_with fail
     go_ret3
     refine⟨?_,HBe.out⟩;rw[HE.out];show _=Ending.returned (.tuple #[.string (str l),.int .i64 ((s.size - ((bts s).drop j).length:Nat):Int),.nilIface]);rw[HL.out,show s.size - (s.size - j)=j from by omega]
     rfl
   | false=>
     rw[hsj]at HG;have hs0:sigL mark s[j]=false:=by rw[←hsg,hsj]
     have h39:=u8_39 s[j];have HP:Hid (∀ W,Calls Tryz.prog 146 #[.string (s.extract j s.size),.string ⟨#[39,39]⟩] W fun e w'=>e=.returned (.bool (Lib.hasPrefix ((bts s).drop j) [39,39]))∧w'=W):=hid fun W=>hasPre_any s j W;have HWr:Hid (∀(x:UInt8) W,BaSt w s mark l W→Calls Tryz.prog 183 #[.pointer (some ⟨w.heap.size+2,0,none⟩),.int .u8 x.toNat] W fun e w'=>e=.returned .nilIface∧BaSt w s mark (l++[x]) w'):=hid fun x W h=>
      (wbyte_any _ _ l x W h.bld (by omega) h.size).mono fun e w' ⟨h1,h2,h3⟩=>⟨h1,h.on h3 h2⟩
     clear hsg hsj HT
     by_cases hc:s[j]=39
     ·rw[decide_eq_true hc]at h39;rw[hc]at hda hs0;rw[hda,two_head]at HP
      by_cases hh:((bts s).drop (j+1)).head? =some 39
      ·rw[decide_eq_true hh]at HP;have hlt2:j+1 < s.size:=by
        refine Decidable.byContradiction fun h=> ?_;rw[List.drop_of_length_le (by rw[bts_len];omega)]at hh
        cases hh
       have hda2:=drop_at s (j+1) hlt2;have hc2:s[j+1]=39:=by rw[hda2]at hh;exact Option.some.inj hh
       have hn1:1≤n:=by have:=HI.out.2;omega
       obtain⟨n',rfl⟩:∃ n',n=n'+1:=⟨n - 1,by omega⟩
       have HI2:Hid (Q=(lexL mark (n'+1) ((bts s).drop (j+1+1))).map (appL (l++[39]))∧s.size - (j+1+1)≤n'):=hid ⟨by rw[HI.out.1,hda,hda2,hc2,lexL_two hs0,appL_two],by have:=HI.out.2;omega⟩
       have HC:Hid (∀ W,BaSt w s mark l W→Calls Tryz.prog 183 #[.pointer (some ⟨w.heap.size+2,0,none⟩),.int .u8 39] W fun e w'=>e=.returned .nilIface∧BaSt w s mark (l++[39]) w'):=hid (HWr.out 39);have g0:(j:Int)+2≤(s.size:Int):=by omega
       clear HWr HI hda hda2 hc hc2 hh hs0
       go_wp2_with fail
       refine HG.out.mono ?_;clear HG;rintro e w1 ⟨rfl,q,rfl⟩;have hS1:=HS.out.drewN q;have t1:=(hS1.txt.cell 0).trans (show _=some (.string s)from rfl);have HC1:=hid (HC.out _ hS1);have HP1:=hid (HP.out (wo.drewN q));clear hS1 HC HP
       go_wp2_with fail
       refine HP1.out.mono ?_;clear HP1;rintro e w2 ⟨rfl,rfl⟩
       go_wp2_with fail
       refine HC1.out.mono ?_;clear HC1;rintro e w3 ⟨rfl,hS3⟩;have HS3:=hid hS3;clear hS3 t1
       go_wp2_with fail
       refine⟨⟨j+1+1,l++[39],n',by omega,by go_num,by simp;omega,HI2,HS3.out⟩,by simp[intOf];omega⟩
      ·rw[decide_eq_false hh]at HP;have HG2:Hid (∀ W,BaSt w s mark l W→Calls Tryz.prog 181 #[.int .i64 ((j:Int)+1),.pointer (some ⟨w.heap.size,0,none⟩),.pointer (some ⟨w.heap.size+1,0,none⟩)] W fun e w'=>e=.returned (.bool (sgnAt mark s (j+1)))∧∃ n,w'=W.drewN n):=hid fun W h=>by
        have:=sign_any w W s mark (j+1) hs h.txt h.mrk;exact this
       cases hs2:sgnAt mark s (j+1)with
       | true=>
         rw[hs2]at HG2;have hlt2:j+1 < s.size:=by
          refine Decidable.byContradiction fun h=> ?_;unfold sgnAt sigH at hs2;rw[List.drop_of_length_le (by rw[bts_len];omega)]at hs2
          cases hs2
         have hn:=HI.out.2;have hHI:=HI.out.1;rw[hda]at hHI;have HQu:Hid (∀ W,BaSt w s mark l W→Calls Tryz.prog 184 #[.string s,.int .i64 ((j:Int)+1)] W fun e w'=>e=.returned (quoT (quotedL ((bts s).drop (j+1))) s.size)∧BaSt w s mark l w'):=hid fun W h=>by
          have h1:=quoted_any s (j+1) W (by omega) hs
          exact h1.mono fun e w' ⟨p1,p2⟩=>⟨p1,h.on (p2.mono h.size) (h.bld.below p2)⟩
         have HEx:Hid ((quotedL ((bts s).drop (j+1))=none∧Q=none)∨∃ t e,quotedL ((bts s).drop (j+1))=some (t,(bts s).drop e)∧e≤s.size∧j+1 < e∧l.length+t.length≤e∧t.length≤1000000000∧∃ n',Q=(lexL mark (n'+1) ((bts s).drop e)).map (appL (l++t))∧s.size - e≤n'):=hid (by
          cases hq:quotedL ((bts s).drop (j+1))with
          | none=>exact .inl ⟨rfl,by rw[hHI,lexL_bad hs0 hh hs2 hq];rfl⟩
          | some p=>
            obtain⟨t,r⟩:=p;have h5:=quotedL_len _ _ t r (Nat.le_refl _) hq;have h6:=quotedL_drop _ _ (t,r) (Nat.le_refl _) hq;dsimp only at h6;rw[len_drop]at h5 h6;rw[List.drop_drop]at h6;have h7:j+1+(s.size - (j+1) - r.length)=s.size - r.length:=by omega
            rw[h7]at h6;have hn1:1≤n:=by omega
            obtain⟨n',rfl⟩:∃ n',n=n'+1:=⟨n - 1,by omega⟩
            refine .inr ⟨t,s.size - r.length,by rw[←h6],by omega,by omega,by omega,by omega,n',?_,by omega⟩
            rw[hHI,lexL_good hs0 hh hs2 hq,appL_two];dsimp only;rw[←h6])
         clear HI hda hc hh hs0 hs2 hHI HWr;generalize quotedL ((bts s).drop (j+1))=qo at*
         go_wp2_with fail
         refine HG.out.mono ?_;clear HG;rintro e w1 ⟨rfl,q,rfl⟩;have hS1:=HS.out.drewN q;have t1:=(hS1.txt.cell 0).trans (show _=some (.string s)from rfl);have HP1:=hid (HP.out (wo.drewN q));have HS1:=hid hS1;clear hS1 HP
         go_wp2_with fail
         refine HP1.out.mono ?_;clear HP1;rintro e w2 ⟨rfl,rfl⟩;have HG3:=hid (HG2.out _ HS1.out);clear HG2
         go_wp2_with fail
         refine HG3.out.mono ?_;clear HG3;rintro e w3 ⟨rfl,q3,rfl⟩;have hS3:=HS.out.drewN (q+q3);have t3:=(hS3.txt.cell 0).trans (show _=some (.string s)from rfl);have HQ3:=hid (HQu.out _ hS3);clear hS3 HQu HS1 t1
         go_wp2_with fail
         refine HQ3.out.mono ?_;clear HQ3;rintro e w4 ⟨rfl,hS4⟩;have HS4:=hid hS4;clear hS4 t3;rcases HEx.out with⟨rfl,hQn⟩|⟨t,ee,rfl,he1,he2,he3,he4,n',hQn,hn2⟩
         ·have HQn:=hid hQn;clear HEx hQn;unfold quoT;dsimp only
          go_wp2_with fail
          go_ret3
          exact⟨by rw[HQn.out];rfl,HS4.out.below⟩
         ·have HQn:=hid (And.intro hQn hn2);have HWs:Hid (Calls Tryz.prog 81 #[.pointer (some ⟨w.heap.size+2,0,none⟩),.string (str t)] w4 fun e w'=>e=.returned (.tuple #[.int .i64 (str t).size,.nilIface])∧BaSt w s mark (l++t) w'):=hid
           ((wstr_any _ _ l (str t) w4 HS4.out.bld (by rw[str_size];omega) HS4.out.size).mono fun e w' ⟨h1,h2,h3⟩=>⟨h1,HS4.out.on h3 h2⟩)
          have HLe:=hid (len_drop s ee);clear HEx hQn hn2;unfold quoT;dsimp only;rw[HLe.out,show s.size - (s.size - ee)=ee from by omega]
          go_wp2_with fail
          refine HWs.out.mono ?_;clear HWs;rintro e w5 ⟨rfl,hS5⟩;have HS5:=hid hS5;clear hS5
          go_wp2_with fail
          refine⟨⟨ee,l++t,n',he1,rfl,by rw[List.length_append];exact he3,HQn,HS5.out⟩,by simp[intOf];omega⟩
       | false=>
         rw[hs2]at HG2;have hn1:1≤n:=by have:=HI.out.2;omega
         obtain⟨n',rfl⟩:∃ n',n=n'+1:=⟨n - 1,by omega⟩
         have HI2:Hid (Q=(lexL mark (n'+1) ((bts s).drop (j+1))).map (appL (l++[s[j]]))∧s.size - (j+1)≤n'):=hid ⟨by rw[HI.out.1,hda,lexL_plain hs0 (fun _=>⟨hh,hs2⟩),appL_two,hc],by have:=HI.out.2;omega⟩
         have HC:Hid (∀ W,BaSt w s mark l W→Calls Tryz.prog 183 #[.pointer (some ⟨w.heap.size+2,0,none⟩),.int .u8 s[j].toNat] W fun e w'=>e=.returned .nilIface∧BaSt w s mark (l++[s[j]]) w'):=hid (HWr.out s[j]);clear HWr HI hda hc hh hs0 hs2
         go_wp2_with fail
         refine HG.out.mono ?_;clear HG;rintro e w1 ⟨rfl,q,rfl⟩;have hS1:=HS.out.drewN q;have t1:=(hS1.txt.cell 0).trans (show _=some (.string s)from rfl);have HP1:=hid (HP.out (wo.drewN q));have HS1:=hid hS1;clear hS1 HP
         go_wp2_with fail
         refine HP1.out.mono ?_;clear HP1;rintro e w2 ⟨rfl,rfl⟩;have HG3:=hid (HG2.out _ HS1.out);clear HG2
         go_wp2_with fail
         refine HG3.out.mono ?_;clear HG3;rintro e w3 ⟨rfl,q3,rfl⟩;have hS3:=HS.out.drewN (q+q3);have t3:=(hS3.txt.cell 0).trans (show _=some (.string s)from rfl);have HC3:=hid (HC.out _ hS3);clear hS3 HC HS1 t1
         go_wp2_with fail
         refine HC3.out.mono ?_;clear HC3;rintro e w4 ⟨rfl,hS4⟩;have HS4:=hid hS4;clear hS4 t3
         go_wp2_with fail
         refine⟨⟨j+1,l++[s[j]],n',by omega,by go_num,by simp;omega,HI2,HS4.out⟩,by simp[intOf];omega⟩
     ·rw[decide_eq_false hc]at h39;rw[hda,two_no hc]at HP;have hn1:1≤n:=by have:=HI.out.2;omega
      obtain⟨n',rfl⟩:∃ n',n=n'+1:=⟨n - 1,by omega⟩
      have HI2:Hid (Q=(lexL mark (n'+1) ((bts s).drop (j+1))).map (appL (l++[s[j]]))∧s.size - (j+1)≤n'):=hid ⟨by rw[HI.out.1,hda,lexL_plain hs0 (fun e=>absurd e hc),appL_two],by have:=HI.out.2;omega⟩
      have HC:Hid (∀ W,BaSt w s mark l W→Calls Tryz.prog 183 #[.pointer (some ⟨w.heap.size+2,0,none⟩),.int .u8 s[j].toNat] W fun e w'=>e=.returned .nilIface∧BaSt w s mark (l++[s[j]]) w'):=hid (HWr.out s[j]);clear HWr HI hda hc hs0
      go_wp2_with fail
      refine HG.out.mono ?_;clear HG;rintro e w1 ⟨rfl,q,rfl⟩;have hS1:=HS.out.drewN q;have t1:=(hS1.txt.cell 0).trans (show _=some (.string s)from rfl);have HP1:=hid (HP.out (wo.drewN q));have HC1:=hid (HC.out _ hS1);clear hS1 HP HC
      go_wp2_with fail
      refine HP1.out.mono ?_;clear HP1;rintro e w2 ⟨rfl,rfl⟩
      go_wp2_with fail
      refine HC1.out.mono ?_;clear HC1;rintro e w4 ⟨rfl,hS4⟩;have HS4:=hid hS4;clear hS4 t1
      go_wp2_with fail
      refine⟨⟨j+1,l++[s[j]],n',by omega,by go_num,by simp;omega,HI2,HS4.out⟩,by simp[intOf];omega⟩
  ·obtain rfl:j=s.size:=by omega
   have HE:Hid (Q=some (l,[])):=hid (by
    rw[HI.out.1,List.drop_of_length_le (by rw[bts_len];exact Nat.le_refl _),lexL_nil]
    show some _=some _;rw[appL,List.append_nil])
   have HK:Hid (∀ W,Below (w.heap.size+2) wo W→W.cell? ⟨w.heap.size,0,none⟩=some (.string s)):=hid fun W hW=>(hW.cell (p:=⟨w.heap.size,0,none⟩) (by show w.heap.size < _;omega)).trans t0
   have HS1:=hid HS.out.below;have hSd:=HS.out.drewN 1;have HTd:=hid (bld_text hSd.bld hSd.size);clear HI hSd HT
   go_wp2_with fail
   go_region_held3 (fun w'=>w'.cell? ⟨w.heap.size,0,none⟩=some (.string s))
    (first
      | exact HK.out _ (Below.refl _ _).drew
      | exact HK.out _ hbx
      | fail)
    (first
      | (go_at_call 82
         (refine HTd.out.mono ?_)
         rintro e wx ⟨rfl,hb⟩;have hbx:Below (w.heap.size+2) wo wx:=Below.trans (Below.refl _ _).drew hb;clear hb)
      | fail)
   all_goals
    have HBx:=hid (HS1.out.trans (hbx.mono (by omega)))
    clear hbx
    go_wp2_with fail
    go_ret3
    refine⟨?_,HBx.out⟩;rw[HE.out]
    rfl
def Rdr (W:World) (k:Nat) (l:List UInt8) (d:Int):Prop:=Blk W k 149 #[.string (str l),.int .i64 d]
def formP:List PanicEntry:=[{ v:=.iface 27 (.int .i64 3),recovered:=false }]
abbrev FrK (k:Nat) (w w':World):Prop:=Fr w w' (· =k)
theorem Rdr.lt {W:World} {k:Nat} {l:List UInt8} {d:Int} (h:Rdr W k l d):k < W.heap.size:=Blk.lt (t:=149) h
theorem Rdr.on {W W':World} {k:Nat} {l:List UInt8} {d:Int} (h:Rdr W k l d) (hb:Below W.heap.size W W'):Rdr W' k l d:=Blk.below (t:=149) h hb h.lt
theorem Rdr.put {W:World} {k:Nat} {l:List UInt8} {d:Int} (h:Rdr W k l d) (r:List UInt8):Rdr (W.setCell ⟨k,0,none⟩ (.string (str r))) k r d:=Blk.set_ (t:=149) h 0 (.string (str r))
theorem str_data (l:List UInt8):(str l).data.toList=l:=rfl
theorem str_of (l:List UInt8):(⟨l.toArray⟩:ByteArray)=str l:=rfl
theorem trim_cut {p l r:List UInt8} (h:cutL p l=some r):Lib.trimPrefix l p=r∧Lib.hasPrefix l p=true:=by
 unfold cutL at h;split at h
 ·rename_i h1
  injection h with h;refine⟨?_,h1⟩;unfold Lib.trimPrefix;rw[if_pos h1,h]
 ·cases h
theorem trim_no {p l:List UInt8} (h:cutL p l=none):Lib.hasPrefix l p=false:=by
 unfold cutL at h;split at h
 ·cases h
 ·rename_i h1;simpa using h1
theorem cut_any (k:Nat) (l:List UInt8) (d:Int) (head:ByteArray) (w:World) (h:Rdr w k l d):
 Calls Tryz.prog 133 #[.pointer (some ⟨k,0,none⟩),.string head] w fun e w'=>e=.returned (.bool (cutL (bts head) l).isSome)∧Rdr w' k ((cutL (bts head) l).getD l) d∧FrK k w w':=by
 have HC:=hid (Tryz.strings_CutPrefix (str l) head w);rw[str_data,str_of]at HC;have c0:=(Blk.cell (t:=149) h 0).trans (show _=some (.string (str l))from rfl);have f0:=Blk.frozen (t:=149) h 0;have H:=hid h;have HH:Hid (head.data.toList=bts head):=hid rfl;rw[HH.out]at HC;cases ho:cutL (bts head) l with
 | some r=>
   obtain⟨e1,e2⟩:=trim_cut ho;rw[e1,e2]at HC;clear h ho e1 e2;generalize str l=L at*
   go_enter Tryz.func133,Tryz.ntmps133
   go_wp2_with fail
   refine HC.out.mono ?_;clear HC;rintro e w1 ⟨rfl,rfl⟩
   go_wp2_with fail
   go_ret
   exact⟨rfl,H.out.put r,(Fr.refl w1 (· =k)).setCell (p:=⟨k,0,none⟩) (.inl rfl) _⟩
 | none=>
   have e2:=trim_no ho;rw[e2]at HC;generalize str (Lib.trimPrefix l (bts head))=T0 at *;clear h ho e2
   go_enter Tryz.func133,Tryz.ntmps133
   go_wp2_with fail
   refine HC.out.mono ?_;clear HC;rintro e w1 ⟨rfl,rfl⟩
   go_wp2_with fail
   go_ret
   exact⟨rfl,H.out,Fr.refl _ _⟩
def NeedR (k:Nat) (d:Int) (l:List UInt8) (o:Option (List UInt8)) (w:World) (e:Ending) (w':World):Prop:=
 FrK k w w'∧match o with
  | none=>e=.panicked formP∧Rdr w' k l d
  | some r=>e=.returned (.tuple #[])∧Rdr w' k r d
theorem need_any (k:Nat) (l:List UInt8) (d:Int) (head:ByteArray) (w:World) (h:Rdr w k l d):
 Calls Tryz.prog 187 #[.pointer (some ⟨k,0,none⟩),.string head] w fun e w'=>NeedR k d l (cutL (bts head) l) w e w':=by
 have HC:=hid (cut_any k l d head w h);clear h;cases ho:cutL (bts head) l with
 | some r=>
   rw[ho]at HC;clear ho
   go_enter Tryz.func187,Tryz.ntmps187
   go_wp2_with fail
   refine HC.out.mono ?_;clear HC;rintro e w1 ⟨rfl,hR,hF⟩;have HR:=hid (And.intro hR hF);clear hR hF
   go_wp2_with fail
   go_end0
   exact⟨HR.out.2,rfl,HR.out.1⟩
 | none=>
   rw[ho]at HC;clear ho
   go_enter Tryz.func187,Tryz.ntmps187
   go_wp2_with fail
   refine HC.out.mono ?_;clear HC;rintro e w1 ⟨rfl,hR,hF⟩;have HR:=hid (And.intro hR hF);clear hR hF
   go_wp2_with fail
   exact⟨rfl,HR.out.2,rfl,HR.out.1⟩
def WordR (k:Nat) (d:Int) (l:List UInt8) (o:Option (List UInt8×List UInt8)) (w:World) (e:Ending) (w':World):Prop:=
 FrK k w w'∧match o with
  | none=>e=.panicked formP∧Rdr w' k l d
  | some p=>e=.returned (.string (str p.1))∧Rdr w' k p.2 d
def IdxOk (ends:ByteArray):Prop:=∀(l:List UInt8) (W:World),l.length≤1000000000→Calls Tryz.prog 220 #[.string (str l),.string ends] W fun e w'=>e=.returned (.int .i64 (Lib.indexAny l (bts ends)))∧Below W.heap.size W w'
theorem idx_two (X:ByteArray) (hX:X.size=2) (hlo:∀ x∈X.data.toList,x.toNat < 128):IdxOk X:=fun l W hl=>by
 have h:=indexAny_two (str l) X hX hlo (by rw[str_size];omega) W
 rw[str_data]at h;exact h
theorem idx_one:IdxOk ⟨#[32]⟩:=fun l W _=>by
 have h:=Tryz.strings_IndexAny_one (str l) ⟨#[32]⟩ W rfl (fun j b hb=>by
  have:=List.mem_of_getElem? hb;simp at this;rw[this];decide)
 rw[str_data]at h;exact h.mono fun e w' ⟨h1,h2⟩=>⟨h1,h2 ▸ Below.refl _ _⟩
theorem idx_ends:IdxOk ⟨#[44,125]⟩:=idx_two _ rfl (by decide)
theorem idx_off:IdxOk ⟨#[32,125]⟩:=idx_two _ rfl (by decide)
theorem indexAny_lt {l e:List UInt8} (h:0≤Lib.indexAny l e):(Lib.indexAny l e).toNat≤l.length:=by
 induction l with
 | nil=>exact absurd h (by show ¬(0:Int)≤ -1;decide)
 | cons b l ih=>
   unfold Lib.indexAny at h ⊢;split
   ·exact Nat.zero_le _
   ·rename_i h1
    rw[if_neg h1]at h;split
    ·rename_i h2;rw[if_pos h2]at h;exact absurd h (by decide)
    ·rename_i h2
     rw[if_neg h2]at h;have h3:=Lib.indexAny_ge e l;have h4:Lib.indexAny l e≠ -1:=fun e1=>h2 (by rw[e1];rfl)
     have:=ih (by omega)
     rw[List.length_cons];omega
theorem word_any (k:Nat) (l:List UInt8) (d:Int) (ends:ByteArray) (w:World) (h:Rdr w k l d) (hl:l.length≤1000000000) (HX:IdxOk ends):
 Calls Tryz.prog 185 #[.pointer (some ⟨k,0,none⟩),.string ends] w fun e w'=>WordR k d l (wordL (bts ends) l) w e w':=by
 have HC:=hid (HX l w hl);have c0:=(Blk.cell (t:=149) h 0).trans (show _=some (.string (str l))from rfl);have H:=hid h;have hge:=Lib.indexAny_ge (bts ends) l;have hls:=str_size l
 by_cases h0:0≤Lib.indexAny l (bts ends)
 ·have hlt:=indexAny_lt h0;have HE:Hid (wordL (bts ends) l=some (l.take (Lib.indexAny l (bts ends)).toNat,l.drop (Lib.indexAny l (bts ends)).toNat)):=hid (if_pos h0);obtain⟨n,hn⟩:=Int.eq_ofNat_of_zero_le h0;rw[hn]at HC hlt HE;rw[Int.toNat_natCast]at hlt HE;have htk:(str l).extract 0 n=str (l.take n):=bts_inj (by rw[bts_extract,bts_str,bts_str,List.drop_zero])
  have hdr:(str l).extract n l.length=str (l.drop n):=bts_inj (by rw[bts_extract,bts_str,bts_str,List.take_length])
  have i1:(0:Int)≤(n:Int):=Int.natCast_nonneg n;have i2:(n:Int)≤((str l).size:Int):=by omega
  have i3:¬((n:Int) < 0):=by omega
  have i4:n≤(str l).size:=by omega
  unfold WordR;rw[HE.out];dsimp only;generalize str (l.take n)=T1 at *;clear h h0 hn hge;have HD:=hid hdr;have HW:Hid (∀ W,Below w.heap.size w W→FrK k w (W.setCell ⟨k,0,none⟩ (.string (str (l.drop n))))∧Rdr (W.setCell ⟨k,0,none⟩ (.string (str (l.drop n)))) k (l.drop n) d):=hid fun W hW=>
   ⟨(Fr.of_below hW (· =k)).setCell (p:=⟨k,0,none⟩) (.inl rfl) _,(H.out.on hW).put _⟩
  generalize str (l.drop n)=T2 at*
  go_enter Tryz.func185,Tryz.ntmps185
  go_wp2_with fail
  refine HC.out.mono ?_;clear HC;rintro e w1 ⟨rfl,hb⟩;have h1:=H.out.on hb;have c1:=(Blk.cell (t:=149) h1 0).trans (show _=some (.string (str l))from rfl);have f1:=Blk.frozen (t:=149) h1 0;have HW1:=hid (HW.out w1 hb);clear hb h1 c0
  go_wp2_with fail
  go_ret
  exact⟨HW1.out.1,rfl,HW1.out.2⟩
 ·have HE:Hid (wordL (bts ends) l=none):=hid (if_neg h0);have h1:Lib.indexAny l (bts ends)= -1:=by omega
  rw[h1]at HC;rw[HE.out];clear h hge h0 h1
  go_enter Tryz.func185,Tryz.ntmps185
  go_wp2_with fail
  refine HC.out.mono ?_;clear HC;rintro e w1 ⟨rfl,hb⟩;have HR:=hid (And.intro (H.out.on hb) (Fr.of_below hb (· =k)));clear hb
  go_wp2_with fail
  exact⟨rfl,HR.out.2,rfl,HR.out.1⟩
structure PLaws {α:Type} (P:Nat→Nat→World→Value→α→Prop):Prop where
 keep:∀ {lo hi:Nat} {W W':World} {v:Value} {x:α},P lo hi W v x→(∀ g,lo≤g→g < hi→W'.heap[g]? =W.heap[g]?)→P lo hi W' v x
 mono:∀ {lo hi lo' hi':Nat} {W:World} {v:Value} {x:α},P lo hi W v x→lo'≤lo→hi≤hi'→P lo' hi' W v x
structure Prt (α:Type) where
 x:α
 u:Value
 s:Nat
 e:Nat
section
variable {α:Type} (cel:α→Value→List Value) (sz:Nat) (P:Nat→Nat→World→Value→α→Prop)
def RowOk (lo hi:Nat) (W:World) (v:Value) (l:List α):Prop:=
 ∃ A cap,v=.slice A l.length cap∧l.length≤cap∧∀ i (h:i < l.length),∃ b o u,A=some ⟨b,o,none⟩∧lo≤b∧b < hi∧(∀ j y,(cel l[i] u)[j]? =some y→W.cell? ⟨b,o+i*sz+j,none⟩=some y∧W.frozen? ⟨b,o+i*sz+j,none⟩=false)∧P lo hi W u l[i]
theorem RowOk.laws (hP:PLaws P):PLaws (RowOk cel sz P):=by
 constructor
 ·intro lo hi W W' v l h hk;obtain⟨A,cap,hv,hc,hi'⟩:=h;refine⟨A,cap,hv,hc,fun i hi=> ?_⟩;obtain⟨b,o,u,hA,h1,h2,h3,h4⟩:=hi' i hi;have hb:=hk b h1 h2;exact⟨b,o,u,hA,h1,h2,fun j y hj=>⟨(World.cell?_of_block (w:=W) hb).trans (h3 j y hj).1,(World.frozen?_of_block (w:=W) hb).trans (h3 j y hj).2⟩,hP.keep h4 hk⟩
 ·intro lo hi lo' hi' W v l h h1 h2;obtain⟨A,cap,hv,hc,hi''⟩:=h;refine⟨A,cap,hv,hc,fun i hi=> ?_⟩;obtain⟨b,o,u,hA,k1,k2,k3,k4⟩:=hi'' i hi;exact⟨b,o,u,hA,by omega,by omega,k3,hP.mono k4 h1 h2⟩
theorem RowOk.nil (lo hi:Nat) (W:World) (A:Option Addr) (c:Nat):RowOk cel sz P lo hi W (.slice A 0 c) ([]:List α):=⟨A,c,rfl,Nat.zero_le _,fun i hi=>by cases hi⟩
def flatW (l:List (Prt α)):List Value:=l.flatMap fun p=>cel p.x p.u
theorem flatW_snoc (l:List (Prt α)) (p:Prt α):flatW cel (l++[p])=flatW cel l++cel p.x p.u:=by simp[flatW]
theorem flatW_at (hz:∀ x u,(cel x u).length=sz):∀(l:List (Prt α)) (i:Nat) (h:i < l.length) (j:Nat),j < sz→(flatW cel l)[i*sz+j]? =(cel l[i].x l[i].u)[j]?
 | [],i,h,_,_=>by cases h
 | p::l,0,_,j,hj=>by
   show(cel p.x p.u++flatW cel l)[0*sz+j]? =_;rw[Nat.zero_mul,Nat.zero_add,List.getElem?_append_left (by rw[hz];exact hj)];rfl
 | p::l,i+1,h,j,hj=>by
   have ih:=flatW_at hz l i (by simpa using h) j hj
   show(cel p.x p.u++flatW cel l)[(i+1)*sz+j]? =_;rw[show(i+1)*sz+j=(cel p.x p.u).length+(i*sz+j)from by rw[hz,Nat.add_mul,Nat.one_mul];omega,List.getElem?_append_right (Nat.le_add_right _ _),Nat.add_sub_cancel_left]
   exact ih
structure Rws (t:TypeId) (base:Nat) (W:World) (out:Value) (xs:List (Prt α)):Prop where
 row:W.ownsRow base t sz out xs.length (flatW cel xs)
 part:∀ p∈xs,base≤p.s∧P p.s p.e W p.u p.x∧p.e≤W.heap.size∧away out p.s p.e
variable {cel sz P} {t:TypeId} {base:Nat} {W W' w7:World} {out out7:Value} {xs:List (Prt α)}
theorem Rws.nil:Rws cel sz P t base W (.slice none 0 0) []:=⟨own_nil,fun p hp=>(by cases hp)⟩
theorem Rws.keep (hP:PLaws P) (h:Rws cel sz P t base W out xs) (hk:∀ g,base≤g→g < W.heap.size→W'.heap[g]? =W.heap[g]?) (hs:W.heap.size≤W'.heap.size):Rws cel sz P t base W' out xs:=
 ⟨own_keep h.row fun g hg hl=>hk g (own_lt h.row hg).1 hl,fun p hp=>by
   obtain⟨h1,h2,h3,h4⟩:=h.part p hp;exact⟨h1,hP.keep h2 fun g g1 g2=>hk g (by omega) (by omega),by omega,h4⟩⟩
theorem Rws.push (hP:PLaws P) (h:Rws cel sz P t base W out xs) (p:Prt α) (h1:base≤p.s) (h2:P p.s p.e W p.u p.x) (h3:p.e≤W.heap.size) (h4:away out p.s p.e)
 (hg:W.grownBy w7 out.ownBlock) (hown:w7.ownsRow base t sz out7 (xs.length+1) (flatW cel xs++cel p.x p.u)) (ho:out7.ownBlock=out.ownBlock∨out7.ownBlock=some W.heap.size):Rws cel sz P t base w7 out7 (xs++[p]):=by
 have aw:∀ q:Prt α,base≤q.s→P q.s q.e W q.u q.x→q.e≤W.heap.size→away out q.s q.e→base≤q.s∧P q.s q.e w7 q.u q.x∧q.e≤w7.heap.size∧away out7 q.s q.e:=fun q k1 k2 k3 k4=>by
  refine⟨k1,hP.keep k2 fun g g1 g2=>hg.block g (by omega) fun e=> ?_,Nat.le_trans k3 hg.size,fun r hr=> ?_⟩
  ·have:=k4 g e.symm;omega
  ·rcases ho with ho|ho
   ·exact k4 r (by rw[←ho];exact hr)
   ·rw[ho]at hr;injection hr with hr;omega
 refine⟨by rw[flatW_snoc,List.length_append];exact hown,fun q hq=> ?_⟩
 rcases List.mem_append.1 hq with hq|hq
 ·obtain⟨k1,k2,k3,k4⟩:=h.part q hq;exact aw q k1 k2 k3 k4
 ·obtain rfl:=List.mem_singleton.1 hq;exact aw q h1 h2 h3 h4
theorem Rws.ok (hP:PLaws P) (hz:∀ x u,(cel x u).length=sz) (h:Rws cel sz P t base W out xs) {lo hi:Nat} (hb:lo≤base) (hs:W.heap.size≤hi):RowOk cel sz P lo hi W out (xs.map Prt.x):=by
 obtain⟨A,cap,rfl,hc⟩:=own_slice h.row;refine⟨A,cap,by rw[List.length_map],by rw[List.length_map];exact hc,fun i hi'=> ?_⟩
 have hl:i < xs.length:=by simpa using hi'
 obtain⟨k1,k2,k3,k4⟩:=h.part _ (List.getElem_mem hl);rw[List.getElem_map];rcases Nat.eq_zero_or_pos sz with h0|h0
 ·obtain⟨_,⟨_,h5⟩|⟨g,cap',cur,hv,hbb,hh,_⟩⟩:=h.row
  ·omega
  ·injection hv with hv1 _ _;refine⟨g,0,xs[i].u,hv1,by omega,Nat.lt_of_lt_of_le (Blk.lt (t:=t) (cs:=cur) hh) hs,fun j y hj=> ?_,hP.mono k2 (by omega) (by omega)⟩
   have:=hz xs[i].x xs[i].u;have hjl:=(List.getElem?_eq_some_iff.1 hj).1;omega
 ·have hlt:i*sz+0 < xs.length*sz:=by
   have:=Nat.mul_lt_mul_of_pos_right hl h0;omega
  obtain⟨g,hA,g1,g2,_,_⟩:=own_at h.row (i*sz+0) hlt;refine⟨g,0,xs[i].u,hA,by omega,by omega,fun j y hj=> ?_,hP.mono k2 (by omega) (by omega)⟩
  have hjz:j < sz:=by rw[←hz xs[i].x xs[i].u];exact(List.getElem?_eq_some_iff.1 hj).1
  have hjl:i*sz+j < xs.length*sz:=by
   have h5:(i+1)*sz≤xs.length*sz:=Nat.mul_le_mul_right _ hl;rw[Nat.add_mul,Nat.one_mul]at h5;omega
  obtain⟨g',hA',_,_,hc',hf'⟩:=own_at h.row (i*sz+j) hjl;rw[hA]at hA';injection hA' with hA';injection hA' with hA';subst hA';rw[Nat.zero_add];exact⟨by rw[hc',flatW_at cel sz hz xs i hl j hjz];exact hj,hf'⟩
end
section
variable {β:Type}
def nodC (x:NdF β) (u:Value):List Value:=[.int .i64 x.kind,.string x.text,.int .i64 x.off,u]
def casC (c:ByteArray×List β) (u:Value):List Value:=[.string c.1,u]
theorem nodC_len (x:NdF β) (u:Value):(nodC x u).length=4:=rfl
theorem casC_len (c:ByteArray×List β) (u:Value):(casC c u).length=2:=rfl
def MkB (M:Nat→Nat→World→Value→List β→Prop):Nat→Nat→World→Value→(ByteArray×List β)→Prop:=fun lo hi W u c=>M lo hi W u c.2
def MkC (M:Nat→Nat→World→Value→List β→Prop):Nat→Nat→World→Value→NdF β→Prop:=fun lo hi W u x=>RowOk casC 2 (MkB M) lo hi W u x.cases
theorem mkB_laws {M:Nat→Nat→World→Value→List β→Prop} (h:PLaws M):PLaws (MkB M):=⟨fun k e=>h.keep k e,fun k a b=>h.mono k a b⟩
theorem mkC_laws {M:Nat→Nat→World→Value→List β→Prop} (h:PLaws M):PLaws (MkC M):=⟨fun k e=>(RowOk.laws casC 2 _ (mkB_laws h)).keep k e,fun k a b=>(RowOk.laws casC 2 _ (mkB_laws h)).mono k a b⟩
abbrev MkM (M:Nat→Nat→World→Value→List β→Prop):Nat→Nat→World→Value→List (NdF β)→Prop:=RowOk nodC 4 (MkC M)
theorem mkM_laws {M:Nat→Nat→World→Value→List β→Prop} (h:PLaws M):PLaws (MkM M):=RowOk.laws nodC 4 _ (mkC_laws h)
theorem MkC.list {E:Enc β} {M:Nat→Nat→World→Value→List β→Prop} (hM:∀ {lo hi W v l},M lo hi W v l→ListOk E W lo hi v l) {lo hi:Nat} {W:World} {u:Value} {x:NdF β} (h:MkC M lo hi W u x):ListOk (Enc.cas E) W lo hi u x.cases:=by
 obtain⟨A,cap,hv,hc,hi'⟩:=h;refine⟨A,cap,hv,hc,fun i hi=> ?_⟩;obtain⟨b,o,u',hA,h1,h2,h3,h4⟩:=hi' i hi;exact⟨b,o,casC x.cases[i] u',hA,h1,h2,fun j y hj=>(h3 j y hj).1,u',rfl,hM h4⟩
theorem MkM.list {E:Enc β} {M:Nat→Nat→World→Value→List β→Prop} (hM:∀ {lo hi W v l},M lo hi W v l→ListOk E W lo hi v l) {lo hi:Nat} {W:World} {v:Value} {m:List (NdF β)} (h:MkM M lo hi W v m):ListOk (Enc.nodeF E) W lo hi v m:=by
 obtain⟨A,cap,hv,hc,hi'⟩:=h;refine⟨A,cap,hv,hc,fun i hi=> ?_⟩;obtain⟨b,o,u',hA,h1,h2,h3,h4⟩:=hi' i hi;exact⟨b,o,nodC m[i] u',hA,h1,h2,fun j y hj=>(h3 j y hj).1,u',rfl,MkC.list hM h4⟩
end
def MkN:(n:Nat)→Nat→Nat→World→Value→List (Nd n)→Prop
 | 0=>fun _ _ _ v m=>∃ A c,v=.slice A m.length c
 | n+1=>fun lo hi W v m=>MkM (MkN n) lo hi W v (m:List (NdF (Nd n)))
theorem mkN_laws:(n:Nat)→PLaws (MkN n)
 | 0=>⟨fun h _=>h,fun h _ _=>h⟩
 | n+1=>⟨fun h k=>(mkM_laws (mkN_laws n)).keep h k,fun h a b=>(mkM_laws (mkN_laws n)).mono h a b⟩
theorem MkN.list:(n:Nat)→ {lo hi:Nat}→ {W:World}→ {v:Value}→ {m:List (Nd n)}→MkN n lo hi W v m→ListOk (Enc.node n) W lo hi v m
 | 0,lo,hi,W,v,m,h=>by
   obtain⟨A,c,rfl⟩:=h;obtain rfl:=empty_list m;exact ListOk.nil c A
 | n+1,lo,hi,W,v,m,h=>MkM.list (E:=Enc.node n) (M:=MkN n) (fun h=>MkN.list n h) h
theorem MkN.form:(n:Nat)→ {lo hi:Nat}→ {W:World}→ {v:Value}→ {m:List (Nd n)}→MkN n lo hi W v m→∃ A c,v=.slice A m.length c
 | 0,_,_,_,_,_,h=>h
 | _+1,_,_,_,_,_,⟨A,c,hv,_,_⟩=>⟨A,c,hv⟩
end Go.Proofs.YtagfnpdoooachaaGreatDoor
