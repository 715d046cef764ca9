/- The walk of package pick: names; of package chain: Within. -/
import Derived.Test.YtagfnpdoooachaaGreatDoorParse
set_option linter.unusedSimpArgs false
set_option linter.unusedVariables false
set_option maxHeartbeats 6400000
set_option maxRecDepth 100000
namespace Go.Proofs.YtagfnpdoooachaaGreatDoor
open Go.RowKit
open Lib (hid)
structure TagsIn (w:World) (v:Value) (l:List Tg):Prop where
 lo:∃ lo,ListOk Enc.tag w lo w.heap.size v l
 len:l.length*72≤140737488355328
 each:∀ t∈l,t.vars.length*16≤140737488355328∧(∀ s∈t.vars,s.size≤9223372036854775807)∧t.lang.size≤9223372036854775807∧t.script.size≤9223372036854775807∧t.region.size≤9223372036854775807
theorem TagsIn.below {w w':World} {v:Value} {l:List Tg} (h:TagsIn w v l) (hb:Below w.heap.size w w'):TagsIn w' v l:=
 ⟨let ⟨lo,hl⟩:=h.lo;⟨lo,(hl.below Enc.tag_laws hb).mono Enc.tag_laws (Nat.le_refl _) hb.size⟩,h.len,h.each⟩
theorem TagsIn.tagAt {w:World} {A:Option Addr} {n c:Nat} {l:List Tg} (h:TagsIn w (.slice A n c) l) (i:Nat) (hl:i < l.length):
 ∃ b o V,A=some ⟨b,o,none⟩∧b < w.heap.size∧w.cell? ⟨b,o+i*4,none⟩=some (.string l[i].lang)∧w.cell? ⟨b,o+i*4+1,none⟩=some (.string l[i].script)∧w.cell? ⟨b,o+i*4+2,none⟩=some (.string l[i].region)∧w.cell? ⟨b,o+i*4+3,none⟩=some V∧TagIn w (l[i],V):=by
 obtain⟨lo,hlo⟩:=h.lo;obtain⟨b,o,V,hA,_,h2,x0,x1,x2,x3,xl⟩:=hlo.tagAt i hl;have he:=h.each _ (List.getElem_mem hl);exact⟨b,o,V,hA,h2,x0,x1,x2,x3,⟨lo,xl⟩,by dsimp only;omega,he.2.1,he.2.2.1,he.2.2.2.1,he.2.2.2.2⟩
structure Small (t:Tg):Prop where
 lang:t.lang.size≤8
 script:t.script.size≤8
 region:t.region.size≤8
 len:t.vars.length≤3
 vars:∀ v∈t.vars,v.size≤8
theorem small_of {t:Tg} (h:tagFault t=0):Small t:=let ⟨a,b,c,d,e⟩:=tag_sizes h;⟨a,b,c,d,e⟩
theorem small_text {t:Tg} (h:Small t):(tagText t).size≤54:=by
 have hl:(parts t).length≤6:=by
  refine Nat.le_trans (List.length_filter_le _ _) ?_;have:=h.len;simp;omega
 have:=join_size ((parts t).map bts) (fun x hx=>by
  obtain⟨p,hp,rfl⟩:=List.mem_map.1 hx;rw[bts_len];have hm:=(List.mem_filter.1 hp).1;simp only[List.cons_append,List.nil_append,List.mem_cons]at hm;rcases hm with rfl|rfl|rfl|hm
  ·exact h.lang
  ·exact h.script
  ·exact h.region
  ·exact h.vars p hm)
 have e:(tagText t).size=(Lib.join ((parts t).map bts) [45]).length:=str_size _;rw[e];rw[List.length_map]at this;omega
theorem small_less {t u:Tg} (h:Small t) (hu:less t=some u):Small u:=by
 have h0:ByteArray.empty.size≤8:=Nat.zero_le _;unfold less at hu;split at hu
 ·injection hu with hu;rw[←hu];exact⟨h.lang,h.script,h.region,by have:=h.len;simp;omega,fun v hv=>h.vars v (List.mem_of_mem_take hv)⟩
 ·split at hu
  ·split at hu
   ·cases hu
   ·injection hu with hu;rw[←hu];exact⟨h.lang,h0,h.region,h.len,h.vars⟩
  ·injection hu with hu;rw[←hu];exact⟨h.lang,h.script,h0,h.len,h.vars⟩
theorem small_chainN:∀(n:Nat) (t:Tg),Small t→∀ u∈chainN n t,Small u
 | 0,t,h,u,hu=>by rw[List.mem_singleton.1 hu];exact h
 | n+1,t,h,u,hu=>by
   unfold chainN at hu;split at hu
   ·rename_i x hx
    rcases List.mem_cons.1 hu with rfl|hu
    ·exact h
    ·exact small_chainN n x (small_less h hx) u hu
   ·rw[List.mem_singleton.1 hu];exact h
theorem small_chain {t:Tg} (h:Small t):∀ u∈chainOf t,Small u:=small_chainN _ t h
theorem chain_six {t:Tg} (h:Small t):(chainOf t).length≤6:=by
 refine Nat.le_trans (chainOf_length t) ?_;have:=h.len;unfold deg;split <;> split <;> omega
theorem TagsIn.of_row {base:Nat} {w:World} {u:Value} {l:List Tg} (h:TagRow base w u l) (hs:∀ t∈l,Small t) (hn:l.length≤6):TagsIn w u l:=
 ⟨⟨base,h.list (Nat.le_refl _) (Nat.le_refl _)⟩,by omega,fun t ht=>
   have k:=hs t ht
   ⟨by have:=k.len;omega,fun s hs=>Nat.le_trans (k.vars s hs) (by decide),Nat.le_trans k.lang (by decide),Nat.le_trans k.script (by decide),Nat.le_trans k.region (by decide)⟩⟩
theorem chText_any (p:Tg×Value) (w:World) (h:TagIn w p) (hf:Small p.1):
 Calls Tryz.prog 42 #[.agg #[.string p.1.lang,.string p.1.script,.string p.1.region,p.2]] w fun e w'=>e=.returned (.string (tagText p.1))∧Below w.heap.size w w':=
 text_any p w h (by have:=hf.len;omega) (by have:=small_text hf;omega)
theorem chTail_len (k:Nat) (sep:List UInt8):∀ r:List (List UInt8),(∀ x∈r,x.length≤k)→(Lib.joinTail sep r).length≤r.length*(k+sep.length)
 | [],_=>Nat.zero_le _
 | y::r,h=>by
   have h1:=chTail_len k sep r fun z hz=>h z (List.mem_cons_of_mem _ hz);have h2:=h y (List.mem_cons_self ..);have e:(r.length+1)*(k+sep.length)=r.length*(k+sep.length)+(k+sep.length):=Nat.succ_mul _ _;show(sep++y++Lib.joinTail sep r).length≤_;rw[List.length_append,List.length_append,List.length_cons];omega
theorem chJoin_len (k:Nat) (sep:List UInt8) (l:List (List UInt8)) (h:∀ x∈l,x.length≤k):(Lib.join l sep).length≤l.length*(k+sep.length):=by
 cases l with
 | nil=>exact Nat.zero_le _
 | cons x r=>
   rw[Lib.join_cons,List.length_append,List.length_cons];have h1:=chTail_len k sep r fun z hz=>h z (List.mem_cons_of_mem _ hz);have h2:=h x (List.mem_cons_self ..);have e:(r.length+1)*(k+sep.length)=r.length*(k+sep.length)+(k+sep.length):=Nat.succ_mul _ _;omega
theorem form_chain (b o n c:Nat) (s:ByteArray) (w:World) (hn:0 < n) (hc:w.cell? ⟨b,o,none⟩=some (.string s)) (hs:s.size≤1000000000) (hv:EvV w):
 Calls Tryz.prog 37 #[.slice (some ⟨b,o,none⟩) n c] w fun e w'=>TellR (chainA s) w e w':=by
 have HP:=hid (parse_any s w hv.rv.max (by omega))
 have i1:(0:Int) < (n:Int):=by omega
 clear hv
 go_enter Tryz.func37,Tryz.ntmps37
 go_wp2_with fail
 refine HP.out.mono ?_;clear HP;rintro e w1 ⟨hb1,hres⟩;have HB1:=hid hb1;clear hc;rcases hres with⟨hd,rfl⟩|⟨t,v,ht,rfl,hlv⟩
 ·have HA:Hid (chainA s=([],3)):=hid (by unfold chainA;rw[hd])
  have HM:=hid (must_tag_no ⟨#[]⟩ ⟨#[]⟩ ⟨#[]⟩ none 0 0 3 w1);rw[errV_ne (by decide)]
  clear hd hb1
  go_wp2_with fail
  refine HM.out.mono ?_;clear HM;rintro e w2 ⟨rfl,hb2⟩;have HB2:=hid (HB1.out.trans (hb2.mono HB1.out.size));clear hb2
  go_wp2_with fail
  exact⟨rfl,HB2.out,.inr ⟨by rw[HA.out];decide,by rw[HA.out]⟩⟩
 ·have hf:=parse_fault ht;have hsm:=small_of hf;have HA:Hid (chainA s=(Lib.join ((chainOf t).map fun x=>bts (tagText x)) [32],0)):=hid (by
   unfold chainA;rw[ht];dsimp only;rw[if_neg (fun h=>h hf)])
  obtain⟨A,cv,rfl,_⟩:=hlv.form;have HTI:Hid (TagIn w1 (t,.slice A t.vars.length cv)):=hid ⟨⟨_,hlv⟩,by have:=hsm.len;dsimp only;omega,fun x hx=>Nat.le_trans (hsm.vars x hx) (by decide),Nat.le_trans hsm.lang (by decide),Nat.le_trans hsm.script (by decide),Nat.le_trans hsm.region (by decide)⟩
  have HCh:Hid (∀ W,Below w1.heap.size w1 W→Calls Tryz.prog 39 #[.agg #[.string t.lang,.string t.script,.string t.region,.slice A t.vars.length cv]] W fun e w'=>Below W.heap.size W w'∧∃ u,e=.returned (.tuple #[u,.nilIface])∧TagRow W.heap.size w' u (chainOf t)):=hid fun W hW=>chain_ok (t,.slice A t.vars.length cv) W (HTI.out.below hW) hf;have HSm:Hid (∀ x∈chainOf t,Small x):=hid (small_chain hsm);have h6:=chain_six hsm;have HM:=hid (must_tag t.lang t.script t.region A t.vars.length cv w1);generalize chainOf t=l at *;clear hlv ht hf hsm HTI hb1;generalize t.lang=tl at *;generalize t.script=ts at *;generalize t.region=tr at *;generalize t.vars.length=tv at*
  go_wp2_with fail
  refine HM.out.mono ?_;clear HM;rintro e w2 ⟨rfl,hb2⟩;have HC2:=hid (HCh.out w2 hb2);have HB2:=hid (HB1.out.trans (hb2.mono HB1.out.size));clear hb2 HCh HB1
  go_wp2_with fail
  refine HC2.out.mono ?_;clear HC2;rintro e w3 ⟨hb3,u,rfl,hrow⟩;have HT:=hid (TagsIn.of_row hrow HSm.out h6);obtain⟨A3,c3,rfl,_⟩:=(hrow.list (Nat.le_refl _) (Nat.le_refl _)).form;have HMt:=hid (must_tags (.slice A3 l.length c3) w3);have HB3:=hid (HB2.out.trans (hb3.mono HB2.out.size));clear hb3 hrow HB2
  go_wp2_with fail
  refine HMt.out.mono ?_;clear HMt;rintro e w4 ⟨rfl,rfl⟩;obtain⟨wo,rfl⟩:∃ wo:World,wo=w4:=⟨_,rfl⟩
  go_wp2_with fail
  go_loopw [3,5,18] (fun o _ i wr=>∃ j:Nat,j≤l.length∧i=.int .i64 (j:Int)∧wr.ownsRow wo.heap.size 9 1 o j (((l.take j).map tagText).map .string)∧Below wo.heap.size wo wr) (fun _ _ i _=>l.length - (intOf i).toNat)
  case atStart=>exact⟨0,Nat.zero_le _,rfl,own_nil,Below.refl _ _⟩
  case round=>
   obtain⟨j,hj,rfl,hown,hb⟩:=hrel;obtain⟨B,cc,rfl,_⟩:=own_slice hown;have hbs:=hb.size;have HO:=hid hown;have HB:=hid hb;clear hown hb
   by_cases hlt:j < l.length
   ·obtain⟨bk,ok,V,rfl,hbl,x0,x1,x2,x3,hin⟩:=(HT.out.below HB.out).tagAt j hlt;have HIn:=hid hin;have htk:Hid (l.take (j+1)=l.take j++[l[j]]):=hid (by rw[List.take_add_one,List.getElem?_eq_getElem hlt];rfl)
    have HSj:Hid (Small l[j]):=hid (HSm.out _ (List.getElem_mem hlt));generalize l[j]=t at *;obtain⟨A1,c1,hV,_⟩:=(Classical.choose_spec HIn.out.lo).form;dsimp only at hV;subst hV;obtain⟨el,es,er,ev⟩:=t;dsimp only at x0 x1 x2 x3;clear hin;have HX:Hid (∀ W,Below wr.heap.size wr W→Calls Tryz.prog 42 #[.agg #[.string el,.string es,.string er,.slice A1 ev.length c1]] W fun e w'=>e=.returned (.string (tagText ⟨el,es,er,ev⟩))∧Below W.heap.size W w'):=hid fun W hW=>chText_any (⟨el,es,er,ev⟩,.slice A1 ev.length c1) W (HIn.out.below hW) HSj.out;obtain⟨X,eX⟩:∃ X,X=tagText ⟨el,es,er,ev⟩:=⟨_,rfl⟩;have htk2:Hid ((l.take (j+1)).map tagText=(l.take j).map tagText++[X]):=hid (by rw[htk.out,List.map_append,eX];rfl)
    rw[←eX]at HX;clear eX htk HSj;obtain⟨W1,eW1⟩:∃ W,W=wr.alloc (.cells #[.string el,.string es,.string er,.slice A1 ev.length c1] 77):=⟨_,rfl⟩;have hb1w:Below wr.heap.size wr W1:=by rw[eW1];exact(Below.refl _ _).alloc (Nat.le_refl _) _
    have m:Blk W1 wr.heap.size 77 #[.string el,.string es,.string er,.slice A1 ev.length c1]:=by rw[eW1];exact Blk.new _ _ _
    have k0:=(m.cell 0).trans (show _=some (.string el)from rfl);have k1:=(m.cell 1).trans (show _=some (.string es)from rfl);have k2:=(m.cell 2).trans (show _=some (.string er)from rfl);have k3:=(m.cell 3).trans (show _=some (.slice A1 ev.length c1)from rfl);have HX1:=hid (HX.out W1 hb1w);have HB1:=hid hb1w;have EW1:=hid eW1;clear m hb1w eW1 HX
    go_upto_region 5 with fail
    rw[←EW1.out];clear EW1 x0 x1 x2 x3
    go_wp2_with fail
    refine HX1.out.mono ?_;clear HX1;rintro e w2 ⟨rfl,hb2⟩;have HB2:=hid (HB1.out.trans (hb2.mono HB1.out.size));clear hb2 HB1 k0 k1 k2 k3;have hs2:=HB2.out.size;have HO2:=hid (own_below HO.out HB2.out (Nat.le_refl _));have hnX:∀ q u,([Value.string X]:List Value)[q]? =some u→(w2.alloc (.cells #[.string X] 9)).cell? ⟨w2.heap.size,0+q,none⟩=some u:=fun q u hq=>by
     rw[Nat.zero_add,(Blk.new w2 9 #[.string X]).cell q];simpa using hq
    have hoX:=own_keep (w':=w2.alloc (.cells #[.string X] 9)) HO2.out (fun g _ hg=>Below.heap_alloc _ _ _ hg);have HnX:=hid hnX;have HoX:=hid hoX;clear hnX hoX HO HO2
    go_wp2_with (at_builtin;refine wpList_append_any rfl _ _ 23 rfl wo.heap.size 9 Tryz.underlying23 info_string rfl (by decide) (((l.take j).map tagText).map .string) rfl HoX.out [.string X] rfl rfl (.inr ⟨_,_,rfl,HnX.out⟩) (by simp[Value.oneCell']) (by unfold maxLen;omega) (by omega) (by simp;omega) ?_)
    intro v3 w3 hown3 hgrow3 _;have HO3:Hid (w3.ownsRow wo.heap.size 9 1 v3 (j+1) (((l.take (j+1)).map tagText).map .string)):=hid (by rw[htk2.out];simpa using hown3)
    have HB4:=hid (((HB.out.trans (HB2.out.mono hbs)).alloc (by omega) _).grown hgrow3 (by simp;omega) (fun k hk=>(own_lt HoX.out hk).1))
    clear hown3 hgrow3 HnX HoX htk2 HB2
    go_wp2_with fail
    go_roundw
    case rel=>exact⟨j+1,by omega,by go_num,HO3.out,HB4.out⟩
    case measure=>simp[intOf];omega
   ·obtain rfl:j=l.length:=by omega
    have hown:=HO.out;rw[List.take_length]at hown;have hlm:ListOk Enc.str wr wo.heap.size wr.heap.size (.slice B l.length cc) (l.map tagText):=ListOk.strs_of_own (by rw[List.length_map];exact hown) (Nat.le_refl _) (Nat.le_refl _)
    have hlen:(l.map tagText).length=l.length:=List.length_map _;have hjl:(Lib.join ((l.map tagText).map (·.data.toList)) [32]).length≤6*55:=by
     have h1:=chJoin_len 54 [32] ((l.map tagText).map (·.data.toList)) (fun x hx=>by
      obtain⟨y,hy,rfl⟩:=List.mem_map.1 hx;obtain⟨z,hz,rfl⟩:=List.mem_map.1 hy;have:=small_text (HSm.out z hz);rw[←bts_len]at this;exact this)
     rw[List.length_map,hlen]at h1;have h2:l.length*(54+[(32:UInt8)].length)≤6*55:=Nat.mul_le_mul h6 (Nat.le_refl _);omega
    have HZ:Hid (str (chainA s).1=⟨(Lib.join ((l.map tagText).map (·.data.toList)) [32]).toArray⟩∧(chainA s).2=0):=hid (by
     rw[HA.out];refine⟨?_,rfl⟩;rw[List.map_map]
     rfl)
    have HBw:=hid (HB3.out.trans (HB.out.mono HB3.out.size));have h63:(l.map tagText).length≤140737488355328:=by omega
    have HJ:Hid (Calls Tryz.prog 43 #[.slice B l.length cc,.string ⟨#[32]⟩] wr fun e w'=>e=.returned (.string ⟨(Lib.join ((l.map tagText).map (·.data.toList)) [32]).toArray⟩)∧Below wr.heap.size wr w'):=hid (by
     by_cases hz:(l.map tagText).length=0
     ·have hnil:l.map tagText=[]:=List.length_eq_zero_iff.1 hz;have hl0:l.length=0:=by omega
      rw[hl0,hnil];refine(Tryz.strings_Join_none B cc ⟨#[32]⟩ wr).mono ?_;rintro e w6 ⟨rfl,rfl⟩;exact⟨rfl,Below.refl _ _⟩
     ·rw[←hlen]at hlm ⊢;obtain⟨b5,o5,rfl,_,hb5,_⟩:=hlm.strAt 0 (by omega)
      obtain⟨_,_,hv,hcap,_⟩:=hlm;injection hv with _ _ hcc;subst hcc;exact Tryz.strings_Join b5 o5 cc (l.map tagText) ⟨#[32]⟩ wr (fun j x hj=>by
       obtain⟨hjl,rfl⟩:=List.getElem?_eq_some_iff.1 hj;obtain⟨b',o',he,_,_,hcell⟩:=(ListOk.strs_of_own (lo:=wo.heap.size) (hi:=wr.heap.size) (by rw[List.length_map]at *;exact hown) (Nat.le_refl _) (Nat.le_refl _)).strAt j hjl
       injection he with he;injection he with e1 e2;subst e1;subst e2;exact hcell) hb5 h63 hcap (by
        show(Lib.join ((l.map tagText).map (·.data.toList)) [32]).length≤_;omega))
    generalize (⟨(Lib.join ((l.map tagText).map (·.data.toList)) [32]).toArray⟩:ByteArray)=J at *;clear hown hlm hlen hjl h63 HO HA
    go_wp2_with fail
    refine HJ.out.mono ?_;clear HJ;rintro e w6 ⟨rfl,hb6⟩;have HB6:=hid (HBw.out.trans (hb6.mono HBw.out.size));clear hb6
    go_wp2_with fail
    go_ret
    exact⟨HB6.out,.inl ⟨HZ.out.2,by rw[HZ.out.1];rfl⟩⟩
theorem errText_any (n:Int) (w:World):Calls Tryz.prog 8 #[.int .i64 n] w fun e w'=>e=.returned (.string (str (errName n)))∧w'=w:=by
 by_cases h0:n=0
 ·subst h0
  go_enter Tryz.func8,Tryz.ntmps8
  go_wp2_with fail
  go_ret
  exact⟨rfl,rfl⟩
 ·skip
  by_cases h1:n=1
  ·subst h1
   go_enter Tryz.func8,Tryz.ntmps8
   go_wp2_with fail
   go_ret
   exact⟨rfl,rfl⟩
  ·skip
   by_cases h2:n=2
   ·subst h2
    go_enter Tryz.func8,Tryz.ntmps8
    go_wp2_with fail
    go_ret
    exact⟨rfl,rfl⟩
   ·skip
    by_cases h3:n=3
    ·subst h3
     go_enter Tryz.func8,Tryz.ntmps8
     go_wp2_with fail
     go_ret
     exact⟨rfl,rfl⟩
    ·skip
     by_cases h4:n=4
     ·subst h4
      go_enter Tryz.func8,Tryz.ntmps8
      go_wp2_with fail
      go_ret
      exact⟨rfl,rfl⟩
     ·skip
      by_cases h5:n=5
      ·subst h5
       go_enter Tryz.func8,Tryz.ntmps8
       go_wp2_with fail
       go_ret
       exact⟨rfl,rfl⟩
      ·skip
       by_cases h6:n=6
       ·subst h6
        go_enter Tryz.func8,Tryz.ntmps8
        go_wp2_with fail
        go_ret
        exact⟨rfl,rfl⟩
       ·skip
        by_cases h7:n=7
        ·subst h7
         go_enter Tryz.func8,Tryz.ntmps8
         go_wp2_with fail
         go_ret
         exact⟨rfl,rfl⟩
        ·skip
         by_cases h8:n=8
         ·subst h8
          go_enter Tryz.func8,Tryz.ntmps8
          go_wp2_with fail
          go_ret
          exact⟨rfl,rfl⟩
         ·skip
          by_cases h9:n=9
          ·subst h9
           go_enter Tryz.func8,Tryz.ntmps8
           go_wp2_with fail
           go_ret
           exact⟨rfl,rfl⟩
          ·have hE:Hid (errName n=[69,114,114,110,111]):=hid (by unfold errName;rw[if_neg h0,if_neg h1,if_neg h2,if_neg h3,if_neg h4,if_neg h5,if_neg h6,if_neg h7,if_neg h8,if_neg h9])
           have b0:decide (n=0)=false:=decide_eq_false h0;have b1:decide (n=1)=false:=decide_eq_false h1;have b2:decide (n=2)=false:=decide_eq_false h2;have b3:decide (n=3)=false:=decide_eq_false h3;have b4:decide (n=4)=false:=decide_eq_false h4;have b5:decide (n=5)=false:=decide_eq_false h5;have b6:decide (n=6)=false:=decide_eq_false h6;have b7:decide (n=7)=false:=decide_eq_false h7;have b8:decide (n=8)=false:=decide_eq_false h8;have b9:decide (n=9)=false:=decide_eq_false h9;generalize errName n=en at*
           go_enter Tryz.func8,Tryz.ntmps8
           go_wp2_with fail
           go_ret
           exact⟨by rw[hE.out];rfl,rfl⟩
theorem assert_errJ (v:Value) (w:World):(Instr.typeAssert (.iface 27 v) 20 27 true).run Tryz.prog w=.ok (.tuple #[v,.bool true]) w:=by
 simp[Instr.typeAssert,run_underlying Tryz.underlying27]
theorem rep16J:(Array.replicate 16 undef:Array Value)=#[undef,undef,undef,undef,undef,undef,undef,undef,undef,undef,undef,undef,undef,undef,undef,undef]:=rfl
theorem line_idle (pa:Addr) (w:World):CallsD Tryz.prog 11 #[.pointer (some pa)] .returning w fun e u' w'=>e=.returned (.tuple #[])∧u'=.returning∧w'=w:=by
 refine callsD_of_wpS Tryz.func11 rfl fun c₀ cs hu=> ?_;apply wpS_seq;apply wpS_region;simp[wpOpsS,go_sem,recoverD,hu,Tryz.ntmps11,Exit.thenS];rw[rep16J];simp only[List.setIfInBounds_toArray,List.set_cons_zero,List.set_cons_succ,List.append_toArray,List.cons_append,List.nil_append];refine wpS_of_wp ?_
 go_wp2_with fail
 cases c₀
 simp_all [bodyPostS,results,Tryz.results11]
theorem line_caught (B pa:Nat) (hB:B≤pa) (x:Int) (v:Value) (older:List PanicEntry) (w:World) (ho:Blk w pa 9 #[v]):
 CallsD Tryz.prog 11 #[.pointer (some ⟨pa,0,none⟩)] (.panicking ({ v:=.iface 27 (.int .i64 x),recovered:=false }::older)) w fun e u' w'=>
  e=.returned (.tuple #[])∧u'=.panicking ({ v:=.iface 27 (.int .i64 x),recovered:=true }::older)∧Below B w w'∧Blk w' pa 9 #[.string (str (errName x))]:=by
 refine callsD_of_wpS Tryz.func11 rfl fun c₀ cs hu=> ?_;apply wpS_seq;apply wpS_region;simp[wpOpsS,go_sem,recoverD,hu,Tryz.ntmps11,Exit.thenS];rw[rep16J];simp only[List.setIfInBounds_toArray,List.set_cons_zero,List.set_cons_succ,List.append_toArray,List.cons_append,List.nil_append];have o0:=ho.cell 0;have f0:=ho.frozen 0;simp at o0;have ha:=assert_errJ (.int .i64 x);have HO:=hid ho;have HE:=hid (errText_any x w);clear ho;refine wpS_of_wp ?_
 go_wp2_with fail
 refine HE.out.mono ?_;rintro e w2 ⟨rfl,rfl⟩
 go_wp2_with fail
 have h1:=HO.out.set_ 0 (.string (str (errName x)));have h3:Below B w2 (w2.setCell ⟨pa,0,none⟩ (.string (str (errName x)))):=(Below.refl B w2).setCell (p:=⟨pa,0,none⟩) hB _;exact⟨rfl,_,rfl,.tuple #[],by simp[results,Tryz.results11],rfl,rfl,h3,h1⟩
def lineD (B:Nat):List Deferred:=[{ target:=.fn (.func 11) #[.pointer (some ⟨B,0,none⟩)],args:=#[] }]
theorem line_thrown (B:Nat) (x:Int) (tmps:Array Value) (R:Ending→World→Prop) (v:Value) (w:World) (h2:tmps.getD 2 undef=.pointer (some ⟨B,0,none⟩))
 (k0:Blk w B 9 #[v]) (hR:∀ W,Below B w W→R (.returned (.string (str (errName x)))) W):
 Leaves Tryz.prog Tryz.f9 tmps R (lineD B) (.panicking (thrown x)) w:=by
 refine leaves_cons (f:=11) (args:=#[.pointer (some ⟨B,0,none⟩)]) (by simp) (by simp[go_sem]) ?_
 refine(line_caught B B (Nat.le_refl _) x v [] w k0).mono ?_;rintro e u' w2 ⟨rfl,rfl,hb2,q0⟩;have c0:=q0.cell 0;simp at c0;have HR:=hid (hR w2 hb2);clear hR;simp at h2;simp[Leaves,settle,results,Tryz.results9,go_sem,h2,c0];exact HR.out
theorem line_told (B:Nat) (tmps:Array Value) (R:Ending→World→Prop) (z:ByteArray) (w:World) (h2:tmps.getD 2 undef=.pointer (some ⟨B,0,none⟩))
 (k0:Blk w B 9 #[.string z]) (hR:R (.returned (.string z)) w):
 Leaves Tryz.prog Tryz.f9 tmps R (lineD B) .returning w:=by
 refine leaves_cons (f:=11) (args:=#[.pointer (some ⟨B,0,none⟩)]) (by simp) (by simp[go_sem]) ?_
 refine(line_idle _ w).mono ?_;rintro e u' w2 ⟨rfl,rfl,rfl⟩;have c0:=k0.cell 0;simp at c0;have HR:=hid hR;clear hR;simp at h2;simp[Leaves,settle,results,Tryz.results9,go_sem,h2,c0];exact HR.out
end Go.Proofs.YtagfnpdoooachaaGreatDoor
