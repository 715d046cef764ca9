/- lex.Bare. -/
import Derived.Test.YtpfmmbbggcghiaaGreatDoorLexW
import Derived.Test.YtpfmmbbggcghiaaGreatDoorIdxA
set_option linter.unusedSimpArgs false
set_option linter.unusedVariables false
set_option maxHeartbeats 6400000
set_option maxRecDepth 100000
namespace Go.Proofs.YtpfmmbbggcghiaaGreatDoor
open Go.RowKit
open Lib (hid)
def barT (o:LexR) (n:Nat):Value:=match o with|none=>.tuple #[.string ⟨#[]⟩,.int .i64 0,.iface 35 (.int .i64 3)]|some p=>.tuple #[.string (str p.1),.int .i64 ((n - p.2.length:Nat):Int),.nilIface]
theorem sgnAt_at (mark:Bool) (s:ByteArray) (j:Nat) (h:j < s.size):sgnAt mark s j=sigL mark s[j]:=by
 unfold sgnAt sigH;rw[drop_at s j h];rfl
theorem len_drop (s:ByteArray) (j:Nat):((bts s).drop j).length=s.size - j:=by rw[List.length_drop,bts_len]
theorem Bare_any (s:ByteArray) (mark:Bool) (w:World) (hs:s.size≤1000000000):
 Calls Tryz.prog 74 #[.string s,.bool mark] w fun e w'=>e=.returned (barT (bareM mark (bts s)) s.size)∧Below w.heap.size w w':=by
 obtain⟨W3,eW3⟩:∃ W3,W3=((w.alloc (.cells #[.string s] 9)).alloc (.cells #[.bool mark] 4)).alloc (.cells #[.pointer none,.slice none 0 0] 112):=⟨_,rfl⟩;have HS0:Hid (BaSt w s mark [] W3):=hid (by rw[eW3];exact BaSt.made w s mark)
 have hmf:∀(fn:Fn) (first cap:Array Value) (w:World),(Instr.makeFunc fn first cap).run Tryz.prog w=.ok (.func fn first cap) w:=fun _ _ _ _=>rfl
 obtain⟨Q,hQ⟩:∃ Q,Q=bareM mark (bts s):=⟨_,rfl⟩;rw[←hQ];have HQ:=hid hQ;have EW:=hid eW3;clear hQ eW3
 go_enter Tryz.func74,Tryz.ntmps74
 go_wp2_with fail
 rw[←EW.out];clear EW
 go_loopw [9,10,11,12] (fun k _ _ _ wr=>∃(j:Nat) (l:List UInt8) (n:Nat),j≤s.size∧k=.int .i64 (j:Int)∧l.length≤j∧Hid (Q=(lexL mark (n+1) ((bts s).drop j)).map (appL l)∧s.size - j≤n)∧BaSt w s mark l wr) (fun k _ _ _ _=>s.size - (intOf k).toNat)
 case atStart=>exact⟨0,[],s.size,Nat.zero_le _,rfl,Nat.le_refl _,hid ⟨by rw[appL_nil,HQ.out,List.drop_zero];unfold bareM;rw[bts_len],by omega⟩,HS0.out⟩
 case round=>
  clear HS0 HQ;obtain⟨j,l,n,hj,rfl,hl,HI,hS⟩:=hrel;obtain⟨wo,rfl⟩:∃ wo:World,wo=wr:=⟨_,rfl⟩;have HS:=hid hS;have t0:=(hS.txt.cell 0).trans (show _=some (.string s)from rfl);have hws:=hS.size;have HT:=hid (bld_text hS.bld hS.size);clear hS
  by_cases hlt:j < s.size
  ·have i1:(0:Int)≤(j:Int):=Int.natCast_nonneg j;have i2:(j:Int) < (s.size:Int):=by omega
   have i3:(j:Int)≤(s.size:Int):=by omega
   have hda:=drop_at s j hlt;have hsg:=sgnAt_at mark s j hlt;have HG:=hid (sign_any w wo s mark j hs HS.out.txt HS.out.mrk);cases hsj:sgnAt mark s j with
   | true=>
     rw[hsj]at HG;have HE:Hid (Q=some (l,(bts s).drop j)):=hid (by
      rw[HI.out.1,hda,lexL_sign (by rw[←hsg,hsj])]
      show some _=some _;rw[appL,List.append_nil])
     have HL:=hid (len_drop s j);clear HI hda hsg hsj
     go_wp2_with fail
     refine HG.out.mono ?_;clear HG;rintro e w1 ⟨rfl,q,rfl⟩;have hS1:=HS.out.drewN q;have HT1:=hid (bld_text hS1.bld hS1.size);have HB1:=hid hS1.below;clear HT hS1
     go_wp2_with fail
     refine HT1.out.mono ?_;clear HT1;rintro e w2 ⟨rfl,hb2⟩;have HBe:=hid (HB1.out.trans (hb2.mono (by omega)))
     clear hb2
     go_wp2_with fail
     go_ret3
     refine⟨?_,HBe.out⟩;rw[HE.out];show _=Ending.returned (.tuple #[.string (str l),.int .i64 ((s.size - ((bts s).drop j).length:Nat):Int),.nilIface]);rw[HL.out,show s.size - (s.size - j)=j from by omega]
     rfl
   | false=>
     rw[hsj]at HG;have hs0:sigL mark s[j]=false:=by rw[←hsg,hsj]
     have h39:=u8_39 s[j];have HP:Hid (∀ W,Calls Tryz.prog 117 #[.string (s.extract j s.size),.string ⟨#[39,39]⟩] W fun e w'=>e=.returned (.bool (Lib.hasPrefix ((bts s).drop j) [39,39]))∧w'=W):=hid fun W=>hasPre_any s j W;have HWr:Hid (∀(x:UInt8) W,BaSt w s mark l W→Calls Tryz.prog 118 #[.pointer (some ⟨w.heap.size+2,0,none⟩),.int .u8 x.toNat] W fun e w'=>e=.returned .nilIface∧BaSt w s mark (l++[x]) w'):=hid fun x W h=>
      (wbyte_any _ _ l x W h.bld (by omega) h.size).mono fun e w' ⟨h1,h2,h3⟩=>⟨h1,h.on h3 h2⟩
     clear hsg hsj HT
     by_cases hc:s[j]=39
     ·rw[decide_eq_true hc]at h39;rw[hc]at hda hs0;rw[hda,two_head]at HP
      by_cases hh:((bts s).drop (j+1)).head? =some 39
      ·rw[decide_eq_true hh]at HP;have hlt2:j+1 < s.size:=by
        refine Decidable.byContradiction fun h=> ?_;rw[List.drop_of_length_le (by rw[bts_len];omega)]at hh
        cases hh
       have hda2:=drop_at s (j+1) hlt2;have hc2:s[j+1]=39:=by rw[hda2]at hh;exact Option.some.inj hh
       have hn1:1≤n:=by have:=HI.out.2;omega
       obtain⟨n',rfl⟩:∃ n',n=n'+1:=⟨n - 1,by omega⟩
       have HI2:Hid (Q=(lexL mark (n'+1) ((bts s).drop (j+1+1))).map (appL (l++[39]))∧s.size - (j+1+1)≤n'):=hid ⟨by rw[HI.out.1,hda,hda2,hc2,lexL_two hs0,appL_two],by have:=HI.out.2;omega⟩
       have HC:Hid (∀ W,BaSt w s mark l W→Calls Tryz.prog 118 #[.pointer (some ⟨w.heap.size+2,0,none⟩),.int .u8 39] W fun e w'=>e=.returned .nilIface∧BaSt w s mark (l++[39]) w'):=hid (HWr.out 39);have g0:(j:Int)+2≤(s.size:Int):=by omega
       clear HWr HI hda hda2 hc hc2 hh hs0
       go_wp2_with fail
       refine HG.out.mono ?_;clear HG;rintro e w1 ⟨rfl,q,rfl⟩;have hS1:=HS.out.drewN q;have t1:=(hS1.txt.cell 0).trans (show _=some (.string s)from rfl);have HC1:=hid (HC.out _ hS1);have HP1:=hid (HP.out (wo.drewN q));clear hS1 HC HP
       go_wp2_with fail
       refine HP1.out.mono ?_;clear HP1;rintro e w2 ⟨rfl,rfl⟩
       go_wp2_with fail
       refine HC1.out.mono ?_;clear HC1;rintro e w3 ⟨rfl,hS3⟩;have HS3:=hid hS3;clear hS3 t1
       go_wp2_with fail
       refine⟨⟨j+1+1,l++[39],n',by omega,by go_num,by simp;omega,HI2,HS3.out⟩,by simp[intOf];omega⟩
      ·rw[decide_eq_false hh]at HP;have HG2:Hid (∀ W,BaSt w s mark l W→Calls Tryz.prog 114 #[.int .i64 ((j:Int)+1),.pointer (some ⟨w.heap.size,0,none⟩),.pointer (some ⟨w.heap.size+1,0,none⟩)] W fun e w'=>e=.returned (.bool (sgnAt mark s (j+1)))∧∃ n,w'=W.drewN n):=hid fun W h=>by
        have:=sign_any w W s mark (j+1) hs h.txt h.mrk;exact this
       cases hs2:sgnAt mark s (j+1)with
       | true=>
         rw[hs2]at HG2;have hlt2:j+1 < s.size:=by
          refine Decidable.byContradiction fun h=> ?_;unfold sgnAt sigH at hs2;rw[List.drop_of_length_le (by rw[bts_len];omega)]at hs2
          cases hs2
         have hn:=HI.out.2;have hHI:=HI.out.1;rw[hda]at hHI;have HQu:Hid (∀ W,BaSt w s mark l W→Calls Tryz.prog 119 #[.string s,.int .i64 ((j:Int)+1)] W fun e w'=>e=.returned (quoT (quotedL ((bts s).drop (j+1))) s.size)∧BaSt w s mark l w'):=hid fun W h=>by
          have h1:=quoted_any s (j+1) W (by omega) hs
          exact h1.mono fun e w' ⟨p1,p2⟩=>⟨p1,h.on (p2.mono h.size) (h.bld.below p2)⟩
         have HEx:Hid ((quotedL ((bts s).drop (j+1))=none∧Q=none)∨∃ t e,quotedL ((bts s).drop (j+1))=some (t,(bts s).drop e)∧e≤s.size∧j+1 < e∧l.length+t.length≤e∧t.length≤1000000000∧∃ n',Q=(lexL mark (n'+1) ((bts s).drop e)).map (appL (l++t))∧s.size - e≤n'):=hid (by
          cases hq:quotedL ((bts s).drop (j+1))with
          | none=>exact .inl ⟨rfl,by rw[hHI,lexL_bad hs0 hh hs2 hq];rfl⟩
          | some p=>
            obtain⟨t,r⟩:=p;have h5:=quotedL_len _ _ t r (Nat.le_refl _) hq;have h6:=quotedL_drop _ _ (t,r) (Nat.le_refl _) hq;dsimp only at h6;rw[len_drop]at h5 h6;rw[List.drop_drop]at h6;have h7:j+1+(s.size - (j+1) - r.length)=s.size - r.length:=by omega
            rw[h7]at h6;have hn1:1≤n:=by omega
            obtain⟨n',rfl⟩:∃ n',n=n'+1:=⟨n - 1,by omega⟩
            refine .inr ⟨t,s.size - r.length,by rw[←h6],by omega,by omega,by omega,by omega,n',?_,by omega⟩
            rw[hHI,lexL_good hs0 hh hs2 hq,appL_two];dsimp only;rw[←h6])
         clear HI hda hc hh hs0 hs2 hHI HWr;generalize quotedL ((bts s).drop (j+1))=qo at*
         go_wp2_with fail
         refine HG.out.mono ?_;clear HG;rintro e w1 ⟨rfl,q,rfl⟩;have hS1:=HS.out.drewN q;have t1:=(hS1.txt.cell 0).trans (show _=some (.string s)from rfl);have HP1:=hid (HP.out (wo.drewN q));have HS1:=hid hS1;clear hS1 HP
         go_wp2_with fail
         refine HP1.out.mono ?_;clear HP1;rintro e w2 ⟨rfl,rfl⟩;have HG3:=hid (HG2.out _ HS1.out);clear HG2
         go_wp2_with fail
         refine HG3.out.mono ?_;clear HG3;rintro e w3 ⟨rfl,q3,rfl⟩;have hS3:=HS.out.drewN (q+q3);have t3:=(hS3.txt.cell 0).trans (show _=some (.string s)from rfl);have HQ3:=hid (HQu.out _ hS3);clear hS3 HQu HS1 t1
         go_wp2_with fail
         refine HQ3.out.mono ?_;clear HQ3;rintro e w4 ⟨rfl,hS4⟩;have HS4:=hid hS4;clear hS4 t3;rcases HEx.out with⟨rfl,hQn⟩|⟨t,ee,rfl,he1,he2,he3,he4,n',hQn,hn2⟩
         ·have HQn:=hid hQn;clear HEx hQn;unfold quoT;dsimp only
          go_wp2_with fail
          go_ret3
          exact⟨by rw[HQn.out];rfl,HS4.out.below⟩
         ·have HQn:=hid (And.intro hQn hn2);have HWs:Hid (Calls Tryz.prog 58 #[.pointer (some ⟨w.heap.size+2,0,none⟩),.string (str t)] w4 fun e w'=>e=.returned (.tuple #[.int .i64 (str t).size,.nilIface])∧BaSt w s mark (l++t) w'):=hid
           ((wstr_any _ _ l (str t) w4 HS4.out.bld (by rw[str_size];omega) HS4.out.size).mono fun e w' ⟨h1,h2,h3⟩=>⟨h1,HS4.out.on h3 h2⟩)
          have HLe:=hid (len_drop s ee);clear HEx hQn hn2;unfold quoT;dsimp only;rw[HLe.out,show s.size - (s.size - ee)=ee from by omega]
          go_wp2_with fail
          refine HWs.out.mono ?_;clear HWs;rintro e w5 ⟨rfl,hS5⟩;have HS5:=hid hS5;clear hS5
          go_wp2_with fail
          refine⟨⟨ee,l++t,n',he1,rfl,by rw[List.length_append];exact he3,HQn,HS5.out⟩,by simp[intOf];omega⟩
       | false=>
         rw[hs2]at HG2;have hn1:1≤n:=by have:=HI.out.2;omega
         obtain⟨n',rfl⟩:∃ n',n=n'+1:=⟨n - 1,by omega⟩
         have HI2:Hid (Q=(lexL mark (n'+1) ((bts s).drop (j+1))).map (appL (l++[s[j]]))∧s.size - (j+1)≤n'):=hid ⟨by rw[HI.out.1,hda,lexL_plain hs0 (fun _=>⟨hh,hs2⟩),appL_two,hc],by have:=HI.out.2;omega⟩
         have HC:Hid (∀ W,BaSt w s mark l W→Calls Tryz.prog 118 #[.pointer (some ⟨w.heap.size+2,0,none⟩),.int .u8 s[j].toNat] W fun e w'=>e=.returned .nilIface∧BaSt w s mark (l++[s[j]]) w'):=hid (HWr.out s[j]);clear HWr HI hda hc hh hs0 hs2
         go_wp2_with fail
         refine HG.out.mono ?_;clear HG;rintro e w1 ⟨rfl,q,rfl⟩;have hS1:=HS.out.drewN q;have t1:=(hS1.txt.cell 0).trans (show _=some (.string s)from rfl);have HP1:=hid (HP.out (wo.drewN q));have HS1:=hid hS1;clear hS1 HP
         go_wp2_with fail
         refine HP1.out.mono ?_;clear HP1;rintro e w2 ⟨rfl,rfl⟩;have HG3:=hid (HG2.out _ HS1.out);clear HG2
         go_wp2_with fail
         refine HG3.out.mono ?_;clear HG3;rintro e w3 ⟨rfl,q3,rfl⟩;have hS3:=HS.out.drewN (q+q3);have t3:=(hS3.txt.cell 0).trans (show _=some (.string s)from rfl);have HC3:=hid (HC.out _ hS3);clear hS3 HC HS1 t1
         go_wp2_with fail
         refine HC3.out.mono ?_;clear HC3;rintro e w4 ⟨rfl,hS4⟩;have HS4:=hid hS4;clear hS4 t3
         go_wp2_with fail
         refine⟨⟨j+1,l++[s[j]],n',by omega,by go_num,by simp;omega,HI2,HS4.out⟩,by simp[intOf];omega⟩
     ·rw[decide_eq_false hc]at h39;rw[hda,two_no hc]at HP;have hn1:1≤n:=by have:=HI.out.2;omega
      obtain⟨n',rfl⟩:∃ n',n=n'+1:=⟨n - 1,by omega⟩
      have HI2:Hid (Q=(lexL mark (n'+1) ((bts s).drop (j+1))).map (appL (l++[s[j]]))∧s.size - (j+1)≤n'):=hid ⟨by rw[HI.out.1,hda,lexL_plain hs0 (fun e=>absurd e hc),appL_two],by have:=HI.out.2;omega⟩
      have HC:Hid (∀ W,BaSt w s mark l W→Calls Tryz.prog 118 #[.pointer (some ⟨w.heap.size+2,0,none⟩),.int .u8 s[j].toNat] W fun e w'=>e=.returned .nilIface∧BaSt w s mark (l++[s[j]]) w'):=hid (HWr.out s[j]);clear HWr HI hda hc hs0
      go_wp2_with fail
      refine HG.out.mono ?_;clear HG;rintro e w1 ⟨rfl,q,rfl⟩;have hS1:=HS.out.drewN q;have t1:=(hS1.txt.cell 0).trans (show _=some (.string s)from rfl);have HP1:=hid (HP.out (wo.drewN q));have HC1:=hid (HC.out _ hS1);clear hS1 HP HC
      go_wp2_with fail
      refine HP1.out.mono ?_;clear HP1;rintro e w2 ⟨rfl,rfl⟩
      go_wp2_with fail
      refine HC1.out.mono ?_;clear HC1;rintro e w4 ⟨rfl,hS4⟩;have HS4:=hid hS4;clear hS4 t1
      go_wp2_with fail
      refine⟨⟨j+1,l++[s[j]],n',by omega,by go_num,by simp;omega,HI2,HS4.out⟩,by simp[intOf];omega⟩
  ·obtain rfl:j=s.size:=by omega
   have HE:Hid (Q=some (l,[])):=hid (by
    rw[HI.out.1,List.drop_of_length_le (by rw[bts_len];exact Nat.le_refl _),lexL_nil]
    show some _=some _;rw[appL,List.append_nil])
   have HK:Hid (∀ W,Below (w.heap.size+2) wo W→W.cell? ⟨w.heap.size,0,none⟩=some (.string s)):=hid fun W hW=>(hW.cell (p:=⟨w.heap.size,0,none⟩) (by show w.heap.size < _;omega)).trans t0
   have HS1:=hid HS.out.below;have hSd:=HS.out.drewN 1;have HTd:=hid (bld_text hSd.bld hSd.size);clear HI hSd HT
   go_wp2_with fail
   go_region_held3 (fun w'=>w'.cell? ⟨w.heap.size,0,none⟩=some (.string s))
    (first
      | exact HK.out _ (Below.refl _ _).drew
      | exact HK.out _ hbx
      | fail)
    (first
      | (go_at_call 51
         (refine HTd.out.mono ?_)
         rintro e wx ⟨rfl,hb⟩;have hbx:Below (w.heap.size+2) wo wx:=Below.trans (Below.refl _ _).drew hb;clear hb)
      | fail)
   all_goals
    have HBx:=hid (HS1.out.trans (hbx.mono (by omega)))
    clear hbx
    go_wp2_with fail
    go_ret3
    refine⟨?_,HBx.out⟩;rw[HE.out]
    rfl
def Rdr (W:World) (k:Nat) (l:List UInt8) (d:Int):Prop:=Blk W k 94 #[.string (str l),.int .i64 d]
def formP:List PanicEntry:=[{ v:=.iface 35 (.int .i64 3),recovered:=false }]
abbrev FrK (k:Nat) (w w':World):Prop:=Fr w w' (· =k)
theorem Rdr.lt {W:World} {k:Nat} {l:List UInt8} {d:Int} (h:Rdr W k l d):k < W.heap.size:=Blk.lt (t:=94) h
theorem Rdr.on {W W':World} {k:Nat} {l:List UInt8} {d:Int} (h:Rdr W k l d) (hb:Below W.heap.size W W'):Rdr W' k l d:=Blk.below (t:=94) h hb h.lt
theorem Rdr.put {W:World} {k:Nat} {l:List UInt8} {d:Int} (h:Rdr W k l d) (r:List UInt8):Rdr (W.setCell ⟨k,0,none⟩ (.string (str r))) k r d:=Blk.set_ (t:=94) h 0 (.string (str r))
theorem str_data (l:List UInt8):(str l).data.toList=l:=rfl
theorem str_of (l:List UInt8):(⟨l.toArray⟩:ByteArray)=str l:=rfl
theorem trim_cut {p l r:List UInt8} (h:cutL p l=some r):Lib.trimPrefix l p=r∧Lib.hasPrefix l p=true:=by
 unfold cutL at h;split at h
 ·rename_i h1
  injection h with h;refine⟨?_,h1⟩;unfold Lib.trimPrefix;rw[if_pos h1,h]
 ·cases h
theorem trim_no {p l:List UInt8} (h:cutL p l=none):Lib.hasPrefix l p=false:=by
 unfold cutL at h;split at h
 ·cases h
 ·rename_i h1;simpa using h1
theorem cut_any (k:Nat) (l:List UInt8) (d:Int) (head:ByteArray) (w:World) (h:Rdr w k l d):
 Calls Tryz.prog 75 #[.pointer (some ⟨k,0,none⟩),.string head] w fun e w'=>e=.returned (.bool (cutL (bts head) l).isSome)∧Rdr w' k ((cutL (bts head) l).getD l) d∧FrK k w w':=by
 have HC:=hid (Tryz.strings_CutPrefix (str l) head w);rw[str_data,str_of]at HC;have c0:=(Blk.cell (t:=94) h 0).trans (show _=some (.string (str l))from rfl);have f0:=Blk.frozen (t:=94) h 0;have H:=hid h;have HH:Hid (head.data.toList=bts head):=hid rfl;rw[HH.out]at HC;cases ho:cutL (bts head) l with
 | some r=>
   obtain⟨e1,e2⟩:=trim_cut ho;rw[e1,e2]at HC;clear h ho e1 e2;generalize str l=L at*
   go_enter Tryz.func75,Tryz.ntmps75
   go_wp2_with fail
   refine HC.out.mono ?_;clear HC;rintro e w1 ⟨rfl,rfl⟩
   go_wp2_with fail
   go_ret
   exact⟨rfl,H.out.put r,(Fr.refl w1 (· =k)).setCell (p:=⟨k,0,none⟩) (.inl rfl) _⟩
 | none=>
   have e2:=trim_no ho;rw[e2]at HC;generalize str (Lib.trimPrefix l (bts head))=T0 at *;clear h ho e2
   go_enter Tryz.func75,Tryz.ntmps75
   go_wp2_with fail
   refine HC.out.mono ?_;clear HC;rintro e w1 ⟨rfl,rfl⟩
   go_wp2_with fail
   go_ret
   exact⟨rfl,H.out,Fr.refl _ _⟩
def NeedR (k:Nat) (d:Int) (l:List UInt8) (o:Option (List UInt8)) (w:World) (e:Ending) (w':World):Prop:=
 FrK k w w'∧match o with
  | none=>e=.panicked formP∧Rdr w' k l d
  | some r=>e=.returned (.tuple #[])∧Rdr w' k r d
theorem need_any (k:Nat) (l:List UInt8) (d:Int) (head:ByteArray) (w:World) (h:Rdr w k l d):
 Calls Tryz.prog 123 #[.pointer (some ⟨k,0,none⟩),.string head] w fun e w'=>NeedR k d l (cutL (bts head) l) w e w':=by
 have HC:=hid (cut_any k l d head w h);clear h;cases ho:cutL (bts head) l with
 | some r=>
   rw[ho]at HC;clear ho
   go_enter Tryz.func123,Tryz.ntmps123
   go_wp2_with fail
   refine HC.out.mono ?_;clear HC;rintro e w1 ⟨rfl,hR,hF⟩;have HR:=hid (And.intro hR hF);clear hR hF
   go_wp2_with fail
   go_end0
   exact⟨HR.out.2,rfl,HR.out.1⟩
 | none=>
   rw[ho]at HC;clear ho
   go_enter Tryz.func123,Tryz.ntmps123
   go_wp2_with fail
   refine HC.out.mono ?_;clear HC;rintro e w1 ⟨rfl,hR,hF⟩;have HR:=hid (And.intro hR hF);clear hR hF
   go_wp2_with fail
   exact⟨rfl,HR.out.2,rfl,HR.out.1⟩
def WordR (k:Nat) (d:Int) (l:List UInt8) (o:Option (List UInt8×List UInt8)) (w:World) (e:Ending) (w':World):Prop:=
 FrK k w w'∧match o with
  | none=>e=.panicked formP∧Rdr w' k l d
  | some p=>e=.returned (.string (str p.1))∧Rdr w' k p.2 d
def IdxOk (ends:ByteArray):Prop:=∀(l:List UInt8) (W:World),l.length≤1000000000→Calls Tryz.prog 169 #[.string (str l),.string ends] W fun e w'=>e=.returned (.int .i64 (Lib.indexAny l (bts ends)))∧Below W.heap.size W w'
theorem idx_two (X:ByteArray) (hX:X.size=2) (hlo:∀ x∈X.data.toList,x.toNat < 128):IdxOk X:=fun l W hl=>by
 have h:=indexAny_two (str l) X hX hlo (by rw[str_size];omega) W
 rw[str_data]at h;exact h
theorem idx_one:IdxOk ⟨#[32]⟩:=fun l W _=>by
 have h:=Tryz.strings_IndexAny_one (str l) ⟨#[32]⟩ W rfl (fun j b hb=>by
  have:=List.mem_of_getElem? hb;simp at this;rw[this];decide)
 rw[str_data]at h;exact h.mono fun e w' ⟨h1,h2⟩=>⟨h1,h2 ▸ Below.refl _ _⟩
theorem idx_ends:IdxOk ⟨#[44,125]⟩:=idx_two _ rfl (by decide)
theorem idx_off:IdxOk ⟨#[32,125]⟩:=idx_two _ rfl (by decide)
theorem indexAny_lt {l e:List UInt8} (h:0≤Lib.indexAny l e):(Lib.indexAny l e).toNat≤l.length:=by
 induction l with
 | nil=>exact absurd h (by show ¬(0:Int)≤ -1;decide)
 | cons b l ih=>
   unfold Lib.indexAny at h ⊢;split
   ·exact Nat.zero_le _
   ·rename_i h1
    rw[if_neg h1]at h;split
    ·rename_i h2;rw[if_pos h2]at h;exact absurd h (by decide)
    ·rename_i h2
     rw[if_neg h2]at h;have h3:=Lib.indexAny_ge e l;have h4:Lib.indexAny l e≠ -1:=fun e1=>h2 (by rw[e1];rfl)
     have:=ih (by omega)
     rw[List.length_cons];omega
theorem word_any (k:Nat) (l:List UInt8) (d:Int) (ends:ByteArray) (w:World) (h:Rdr w k l d) (hl:l.length≤1000000000) (HX:IdxOk ends):
 Calls Tryz.prog 121 #[.pointer (some ⟨k,0,none⟩),.string ends] w fun e w'=>WordR k d l (wordL (bts ends) l) w e w':=by
 have HC:=hid (HX l w hl);have c0:=(Blk.cell (t:=94) h 0).trans (show _=some (.string (str l))from rfl);have H:=hid h;have hge:=Lib.indexAny_ge (bts ends) l;have hls:=str_size l
 by_cases h0:0≤Lib.indexAny l (bts ends)
 ·have hlt:=indexAny_lt h0;have HE:Hid (wordL (bts ends) l=some (l.take (Lib.indexAny l (bts ends)).toNat,l.drop (Lib.indexAny l (bts ends)).toNat)):=hid (if_pos h0);obtain⟨n,hn⟩:=Int.eq_ofNat_of_zero_le h0;rw[hn]at HC hlt HE;rw[Int.toNat_natCast]at hlt HE;have htk:(str l).extract 0 n=str (l.take n):=bts_inj (by rw[bts_extract,bts_str,bts_str,List.drop_zero])
  have hdr:(str l).extract n l.length=str (l.drop n):=bts_inj (by rw[bts_extract,bts_str,bts_str,List.take_length])
  have i1:(0:Int)≤(n:Int):=Int.natCast_nonneg n;have i2:(n:Int)≤((str l).size:Int):=by omega
  have i3:¬((n:Int) < 0):=by omega
  have i4:n≤(str l).size:=by omega
  unfold WordR;rw[HE.out];dsimp only;generalize str (l.take n)=T1 at *;clear h h0 hn hge;have HD:=hid hdr;have HW:Hid (∀ W,Below w.heap.size w W→FrK k w (W.setCell ⟨k,0,none⟩ (.string (str (l.drop n))))∧Rdr (W.setCell ⟨k,0,none⟩ (.string (str (l.drop n)))) k (l.drop n) d):=hid fun W hW=>
   ⟨(Fr.of_below hW (· =k)).setCell (p:=⟨k,0,none⟩) (.inl rfl) _,(H.out.on hW).put _⟩
  generalize str (l.drop n)=T2 at*
  go_enter Tryz.func121,Tryz.ntmps121
  go_wp2_with fail
  refine HC.out.mono ?_;clear HC;rintro e w1 ⟨rfl,hb⟩;have h1:=H.out.on hb;have c1:=(Blk.cell (t:=94) h1 0).trans (show _=some (.string (str l))from rfl);have f1:=Blk.frozen (t:=94) h1 0;have HW1:=hid (HW.out w1 hb);clear hb h1 c0
  go_wp2_with fail
  go_ret
  exact⟨HW1.out.1,rfl,HW1.out.2⟩
 ·have HE:Hid (wordL (bts ends) l=none):=hid (if_neg h0);have h1:Lib.indexAny l (bts ends)= -1:=by omega
  rw[h1]at HC;rw[HE.out];clear h hge h0 h1
  go_enter Tryz.func121,Tryz.ntmps121
  go_wp2_with fail
  refine HC.out.mono ?_;clear HC;rintro e w1 ⟨rfl,hb⟩;have HR:=hid (And.intro (H.out.on hb) (Fr.of_below hb (· =k)));clear hb
  go_wp2_with fail
  exact⟨rfl,HR.out.2,rfl,HR.out.1⟩
theorem step_append_ownN {P:Program} {w:World} {ops:Array Oper} {o:Oper} {a:Act} {K:Act→World→Prop} {Q:Exit→Act→World→Prop} {E:Prop} (hgd:o.guard=none) (s x:Operand) (t:TypeId)
 (ho:o.op=.call { callee:=.builtin .append,args:=#[s,x],argTypes:=#[t,t] })
 (base:Nat) (e:TypeId) {z:Value} {size bytes:Nat} (ht:P.underlying t=some (.slice e)) (hi:(P.info? e).map (fun i=>(i.zero,i.size,i.bytes))=some (some z,size,bytes))
 (hzs:z.cells.size=size) (hsz:0 < size)
 {v:Value} {n:Nat} (xs:List Value) (hs:a.eval s=v) (hown:w.ownsRow base e size v n xs)
 {A:Option Addr} {m c:Nat} (news:List Value) (hx:a.eval x=.slice A m c) (hl:news.length=m*size)
 (hnews:m=0∨∃ b o,A=some ⟨b,o,none⟩∧∀ j u,news[j]? =some u→w.cell? ⟨b,o+j,none⟩=some u) (h1:∀ u∈news,u.oneCell'=true)
 (h63:n+m≤maxLen) (hbytes:(n+m)*bytes≤140737488355328) (hbase:base≤w.heap.size)
 (h:∀ v' w',w'.ownsRow base e size v' (n+m) (xs++news)→w.grownBy w' v.ownBlock→(v'.ownBlock=v.ownBlock∨v'.ownBlock=some w.heap.size)→K (a.put o.dst v') w'):
 if Region.wanted o (yielded ops a.tmps)=true then Oper.wp P o a w K Q else E:=by
 have hw:Region.wanted o (yielded ops a.tmps)=true:=by simp[Region.wanted,hgd]
 rw[if_pos hw];obtain⟨i,hi,hz0,hz1,hz2⟩:=info_parts hi
 by_cases hm:m=0
 ·subst hm;have hnil:news=[]:=List.length_eq_zero_iff.1 (by omega)
  subst hnil;have hh:=h v w (by simpa using hown) (World.grownBy.refl _ _) (.inl rfl)
  obtain⟨B,cap,rfl,hcap⟩:=own_slice hown;have hS:Src P i.size t (.slice A 0 c) 0 [] w:=by
   cases A with
   | none=>exact Src.ofNil w ht c
   | some ad=>exact Src.ofSlice w ht ad 0 c [] (by simp) (fun j u hj=>by simp at hj) (fun u hu=>by cases hu)
  have hrun:=run_append_nothing (P:=P) w t t o.type e i ht hi B n cap hcap _ hS;unfold Oper.wp execOp;simp only[ho,resolve,invoke,builtin,Sem.run_bind,Sem.run_pure,Result.andThen_ok,List.map_toArray,List.map_cons,List.map_nil,hs,hx,hrun];exact hh
 ·rcases hnews with h0|⟨b,o',rfl,hc⟩
  ·exact absurd h0 hm
  obtain⟨v',w',hr,h2,h3,_,h5⟩:=run_append_own_at (P:=P) w base t o.type e i z size bytes ht hi hz0 hz1 hz2 hzs hsz v n xs hown ⟨b,o',none⟩ m c news hl (fun j u hj=>by
   have e1:((⟨b,o',none⟩:Addr).add j)=⟨b,o'+j,none⟩:=by
    unfold Addr.add
    by_cases h0:j=0
    ·rw[if_pos h0,h0];rfl
    ·rw[if_neg h0]
   rw[e1];exact hc j u hj) h1 h63 hbytes hbase
  unfold Oper.wp execOp;simp only[ho,resolve,invoke,builtin,Sem.run_bind,Sem.run_pure,Result.andThen_ok,List.map_toArray,List.map_cons,List.map_nil,hs,hx,hr];exact h v' w' h2 h3 h5
structure CB (β:Type) where
 key:ByteArray
 body:List β
 u:Value
 s:Nat
 e:Nat
structure CN (β:Type) where
 kind:Int
 text:ByteArray
 off:Int
 v:Value
 bods:List (CB β)
section
variable {β:Type}
def CB.row (c:CB β):List Value:=[.string c.key,c.u]
def flatC (l:List (CB β)):List Value:=l.flatMap CB.row
def CN.row (x:CN β):List Value:=[.int .i64 x.kind,.string x.text,.int .i64 x.off,x.v]
def flatM (l:List (CN β)):List Value:=l.flatMap CN.row
def CB.plain (c:CB β):ByteArray×List β:=(c.key,c.body)
def CN.plain (x:CN β):NdF β:=⟨x.kind,x.text,x.off,x.bods.map CB.plain⟩
theorem flatC_snoc (l:List (CB β)) (c:CB β):flatC (l++[c])=flatC l++CB.row c:=by simp[flatC]
theorem flatM_snoc (l:List (CN β)) (x:CN β):flatM (l++[x])=flatM l++CN.row x:=by simp[flatM]
theorem flatC_at:∀(l:List (CB β)) (i:Nat) (h:i < l.length),((flatC l).drop (i*2)).take 2=CB.row l[i]
 | [],i,h=>by cases h
 | p::l,0,_=>by show((CB.row p++flatC l).drop (0*2)).take 2=_;simp[CB.row]
 | p::l,i+1,h=>by
   have ih:=flatC_at l i (by simpa using h)
   show((CB.row p++flatC l).drop ((i+1)*2)).take 2=_;rw[show(i+1)*2=(CB.row p).length+i*2 from by simp[CB.row];omega,List.drop_append,List.drop_eq_nil_of_le (Nat.le_add_right _ _),Nat.add_sub_cancel_left]
   exact ih
theorem flatM_at:∀(l:List (CN β)) (i:Nat) (h:i < l.length),((flatM l).drop (i*4)).take 4=CN.row l[i]
 | [],i,h=>by cases h
 | p::l,0,_=>by show((CN.row p++flatM l).drop (0*4)).take 4=_;simp[CN.row]
 | p::l,i+1,h=>by
   have ih:=flatM_at l i (by simpa using h)
   show((CN.row p++flatM l).drop ((i+1)*4)).take 4=_;rw[show(i+1)*4=(CN.row p).length+i*4 from by simp[CN.row];omega,List.drop_append,List.drop_eq_nil_of_le (Nat.le_add_right _ _),Nat.add_sub_cancel_left]
   exact ih
def away (v:Value) (s e:Nat):Prop:=∀ r,v.ownBlock=some r→r < s∨e≤r
def BodOk (E:Enc β) (base:Nat) (W:World) (c:CB β):Prop:=base≤c.s∧ListOk E W c.s c.e c.u c.body∧c.e≤W.heap.size
theorem BodOk.below {E:Enc β} (hE:E.Laws) {base:Nat} {W W':World} {c:CB β} (h:BodOk E base W c) (hb:Below W.heap.size W W'):BodOk E base W' c:=
 ⟨h.1,h.2.1.keep hE ((Alk.of_below hb).mono (Nat.le_refl _) h.2.2),Nat.le_trans h.2.2 hb.size⟩
theorem BodOk.keep {E:Enc β} (hE:E.Laws) {base:Nat} {W W':World} {c:CB β} (h:BodOk E base W c) (hk:∀ g,c.s≤g→g < c.e→W'.heap[g]? =W.heap[g]?) (hs:W.heap.size≤W'.heap.size):BodOk E base W' c:=
 ⟨h.1,h.2.1.keep hE fun p h1 h2=>World.cell?_of_block (hk p.block h1 h2),Nat.le_trans h.2.2 hs⟩
structure Sep (E:Enc β) (base:Nat) (W:World) (out:Value) (xs:List (CN β)):Prop where
 row:W.ownsRow base 126 4 out xs.length (flatM xs)
 cas:∀ x∈xs,W.ownsRow base 189 2 x.v x.bods.length (flatC x.bods)
 apart:xs.Pairwise fun x y=>∀ r,x.v.ownBlock=some r→y.v.ownBlock≠some r
 bod:∀ x∈xs,∀ c∈x.bods,BodOk E base W c∧away out c.s c.e∧∀ y∈xs,away y.v c.s c.e
theorem Sep.nil {E:Enc β} {base:Nat} {W:World}:Sep E base W (.slice none 0 0) []:=⟨own_nil,(fun x hx=>(by cases hx)),List.Pairwise.nil,(fun x hx=>(by cases hx))⟩
theorem Sep.below {E:Enc β} (hE:E.Laws) {base:Nat} {W W':World} {out:Value} {xs:List (CN β)} (h:Sep E base W out xs) (hb:Below W.heap.size W W'):Sep E base W' out xs:=
 ⟨own_below h.row hb (Nat.le_refl _),fun x hx=>own_below (h.cas x hx) hb (Nat.le_refl _),h.apart,fun x hx c hc=>⟨(h.bod x hx c hc).1.below hE hb,(h.bod x hx c hc).2⟩⟩
theorem own_type {W:World} {b1 b2:Nat} {t1 t2:TypeId} {z1 z2 n1 n2:Nat} {v1 v2:Value} {l1 l2:List Value} (h1:W.ownsRow b1 t1 z1 v1 n1 l1) (h2:W.ownsRow b2 t2 z2 v2 n2 l2) (hne:t1≠t2) {r:Nat} (e1:v1.ownBlock=some r):v2.ownBlock≠some r:=by
 intro e2;obtain⟨_,⟨k,_⟩|⟨g,cap,cur,hv,hb,hh,_⟩⟩:=h1
 ·rw[k]at e1;cases e1
 obtain⟨_,⟨k',_⟩|⟨g',cap',cur',hv',hb',hh',_⟩⟩:=h2
 ·rw[k']at e2;cases e2
 rw[hv]at e1;rw[hv']at e2;injection e1 with e1;injection e2 with e2;subst e1;have e2:g'=g:=e2;subst e2;rw[hh]at hh';injection hh' with hh';injection hh' with _ hh';exact hne hh'
theorem Sep.list {E:Enc β} (hE:E.Laws) {base lo hi:Nat} {W:World} {out:Value} {xs:List (CN β)} (h:Sep E base W out xs) (hb:lo≤base) (hs:W.heap.size≤hi):ListOk (Enc.nodeF E) W lo hi out (xs.map CN.plain):=by
 have h1:=h.row;have e1:xs.length=(xs.map CN.plain).length:=by simp
 rw[e1]at h1;refine ListOk.of_own (E:=Enc.nodeF E) h1 hb hs fun i hl=> ?_;have hl':i < xs.length:=by simpa using hl
 have hm:=List.getElem_mem hl';refine⟨xs[i].v,?_,?_⟩
 ·rw[show(Enc.nodeF E).sz=4 from rfl,flatM_at xs i hl'];simp[CN.row,CN.plain]
 ·rw[List.getElem_map];have h2:=h.cas _ hm;have e2:xs[i].bods.length=(CN.plain xs[i]).cases.length:=by simp[CN.plain]
  rw[e2]at h2;refine ListOk.of_own (E:=Enc.cas E) h2 hb hs fun k hk=> ?_;have hk':k < xs[i].bods.length:=by rw[e2];exact hk
  obtain⟨⟨b1,b2,b3⟩,_⟩:=h.bod _ hm _ (List.getElem_mem hk');refine⟨xs[i].bods[k].u,?_,?_⟩
  ·rw[show(Enc.cas E).sz=2 from rfl,flatC_at _ k hk'];simp[CB.row,CN.plain,CB.plain]
  ·have e3:((CN.plain xs[i]).cases[k]).2=xs[i].bods[k].body:=by simp[CN.plain,CB.plain]
   rw[e3];exact b2.mono hE (by omega) (by omega)
structure NSt (E:Enc β) (W0:World) (Yb:Nat) (kind:Int) (text:ByteArray) (off:Int) (v:Value) (bods:List (CB β)) (W:World):Prop where
 below:Below W0.heap.size W0 W
 box:Blk W Yb 126 #[.int .i64 kind,.string text,.int .i64 off,v]
 row:W.ownsRow (Yb+1) 189 2 v bods.length (flatC bods)
 bod:∀ c∈bods,BodOk E (Yb+1) W c∧away v c.s c.e
 ge:W0.heap.size≤Yb
theorem NSt.on {E:Enc β} (hE:E.Laws) {W0 W W':World} {Yb:Nat} {kind:Int} {text:ByteArray} {off:Int} {v:Value} {bods:List (CB β)} (h:NSt E W0 Yb kind text off v bods W) (hb:Below W.heap.size W W'):NSt E W0 Yb kind text off v bods W':=
 ⟨h.below.trans (hb.mono h.below.size),h.box.below hb h.box.lt,own_below h.row hb (Nat.le_refl _),fun c hc=>⟨(h.bod c hc).1.below hE hb,(h.bod c hc).2⟩,h.ge⟩
theorem own_box {w:World} {base g:Nat} {e:TypeId} {size n:Nat} {v:Value} {xs:List Value} (h:w.ownsRow base e size v n xs) (hg:g < base):v.ownBlock≠some g:=fun e=>by have:=(own_lt h e).1;omega
theorem NSt.push {E:Enc β} (hE:E.Laws) {W0 W w7:World} {Yb:Nat} {kind:Int} {text:ByteArray} {off:Int} {v v7:Value} {bods:List (CB β)} {c:CB β} (h:NSt E W0 Yb kind text off v bods W) (hc:BodOk E (Yb+1) W c) (hv:away v c.s c.e)
 (hg:W.grownBy w7 v.ownBlock) (hown:w7.ownsRow (Yb+1) 189 2 v7 (bods.length+1) (flatC bods++CB.row c)) (ho:v7.ownBlock=v.ownBlock∨v7.ownBlock=some W.heap.size):
 NSt E W0 Yb kind text off v7 (bods++[c]) (w7.setCell ⟨Yb,3,none⟩ v7):=by
 have hr:∀ r,v.ownBlock=some r→Yb+1≤r:=fun r hr=>(own_lt h.row hr).1;have hlt:=h.box.lt;have hsz:(w7.setCell ⟨Yb,3,none⟩ v7).heap.size=w7.heap.size:=by simp[World.setCell]
 have b7:Blk w7 Yb 126 #[.int .i64 kind,.string text,.int .i64 off,v]:=(hg.block Yb hlt (fun e=>own_box h.row (Nat.lt_succ_self _) e.symm)).trans h.box;have aw:∀ d:CB β,BodOk E (Yb+1) W d→away v d.s d.e→BodOk E (Yb+1) (w7.setCell ⟨Yb,3,none⟩ v7) d∧away v7 d.s d.e:=fun d hd ha=>by
  refine⟨hd.keep hE (fun g h1 h2=> ?_) (by rw[hsz];exact hg.size),fun r hr7=> ?_⟩
  ·have hne:g≠Yb:=by have:=hd.1;omega
   rw[Below.heap_setCell _ _ _ _ (by exact hne)]
   refine hg.block g (by have:=hd.2.2;omega) fun e=> ?_
   have:=ha g e.symm;omega
  ·rcases ho with ho|ho
   ·exact ha r (by rw[←ho];exact hr7)
   ·rw[ho]at hr7;injection hr7 with hr7;have:=hd.2.2;omega
 refine⟨(h.below.grown hg h.below.size (fun r e=>by have:=hr r e;have:=h.ge;omega)).setCell (p:=⟨Yb,3,none⟩) h.ge _,b7.set_ 3 v7,?_,fun d hd=> ?_,h.ge⟩
 ·rw[flatC_snoc,List.length_append];exact own_keep hown fun g hg' _=>Below.heap_setCell _ _ _ _ (fun(e:g=Yb)=>own_box hown (Nat.lt_succ_self _) (by rw[hg',e]))
 ·rcases List.mem_append.1 hd with hd|hd
  ·exact aw d (h.bod d hd).1 (h.bod d hd).2
  ·obtain rfl:=List.mem_singleton.1 hd;exact aw d hc hv
theorem Sep.push {E:Enc β} (hE:E.Laws) {base:Nat} {W0 W w7:World} {Yb:Nat} {out out7:Value} {xs:List (CN β)} {x:CN β} (h:Sep E base W0 out xs) (hn:NSt E W0 Yb x.kind x.text x.off x.v x.bods W) (hbs:base≤W0.heap.size)
 (hg:W.grownBy w7 out.ownBlock) (hown:w7.ownsRow base 126 4 out7 (xs.length+1) (flatM xs++CN.row x)) (ho:out7.ownBlock=out.ownBlock∨out7.ownBlock=some W.heap.size):Sep E base w7 out7 (xs++[x]):=by
 have h1:Sep E base W out xs:=h.below hE hn.below;have hz:=hn.below.size;have hge:=hn.ge;have hout:∀ r,out.ownBlock=some r→r < W0.heap.size:=fun r e=>(own_lt h.row e).2;have hold:∀ y∈xs,∀ r,y.v.ownBlock=some r→r < W0.heap.size:=fun y hy r e=>(own_lt (h.cas y hy) e).2;have hnew:∀ r,x.v.ownBlock=some r→Yb+1≤r∧r < W.heap.size:=fun r e=>own_lt hn.row e;have ht7:∀ {v:Value} {b n:Nat} {l:List Value},W.ownsRow b 189 2 v n l→w7.ownsRow b 189 2 v n l:=fun hv=>own_keep hv fun g hg' hlt=>hg.block g hlt fun e=>own_type h1.row hv (by decide) e.symm hg'
 have bo:∀ d:CB β,BodOk E base W d→away out d.s d.e→BodOk E base w7 d∧away out7 d.s d.e:=fun d hd ha=>by
  refine⟨hd.keep hE (fun g k1 k2=>hg.block g (by have:=hd.2.2;omega) fun e=> ?_) hg.size,fun r hr7=> ?_⟩
  ·have:=ha g e.symm;omega
  ·rcases ho with ho|ho
   ·exact ha r (by rw[←ho];exact hr7)
   ·rw[ho]at hr7;injection hr7 with hr7;have:=hd.2.2;omega
 refine⟨?_,fun y hy=> ?_,?_,fun y hy c hc=> ?_⟩
 ·rw[flatM_snoc,List.length_append];exact hown
 ·rcases List.mem_append.1 hy with hy|hy
  ·exact ht7 (h1.cas y hy)
  ·obtain rfl:=List.mem_singleton.1 hy;exact ht7 (own_mono hn.row (by omega))
 ·rw[List.pairwise_append];refine⟨h.apart,List.pairwise_singleton _ _,fun y hy z hz' r e1 e2=> ?_⟩;obtain rfl:=List.mem_singleton.1 hz';have:=hold y hy r e1;have:=(hnew r e2).1;omega
 ·rcases List.mem_append.1 hy with hy|hy
  ·obtain⟨k1,k2,k3⟩:=h1.bod y hy c hc;have k0:=(h.bod y hy c hc).1.2.2;obtain⟨k4,k5⟩:=bo c k1 k2;refine⟨k4,k5,fun z hz'=> ?_⟩;rcases List.mem_append.1 hz' with hz'|hz'
   ·exact k3 z hz'
   ·obtain rfl:=List.mem_singleton.1 hz';intro r e;have:=(hnew r e).1;omega
  ·obtain rfl:=List.mem_singleton.1 hy;obtain⟨k1,k2⟩:=hn.bod c hc;have k0:=k1.1;obtain⟨k4,k5⟩:=bo c ⟨by omega,k1.2⟩ fun r e=>by have:=hout r e;omega
   refine⟨k4,k5,fun z hz'=> ?_⟩;rcases List.mem_append.1 hz' with hz'|hz'
   ·intro r e;have:=hold z hz' r e;omega
   ·obtain rfl:=List.mem_singleton.1 hz';exact k2
end
end Go.Proofs.YtpfmmbbggcghiaaGreatDoor
