/- Two lists of tags that are the same are told so (S.Tag, S.Tags). -/
import Derived.Test.YtpfmmbbggcghiaaGreatDoorParse
set_option linter.unusedSimpArgs false
set_option linter.unusedVariables false
set_option maxHeartbeats 3200000
set_option maxRecDepth 100000
namespace Go.Proofs.YtpfmmbbggcghiaaGreatDoor
open Go.RowKit
open Lib (hid)
theorem ListOk.tagAt {w:World} {lo hi:Nat} {A:Option Addr} {n c:Nat} {l:List Tg} (h:ListOk Enc.tag w lo hi (.slice A n c) l) (i:Nat) (hl:i < l.length):
 ∃ b o V,A=some ⟨b,o,none⟩∧lo≤b∧b < hi∧w.cell? ⟨b,o+i*4,none⟩=some (.string l[i].lang)∧w.cell? ⟨b,o+i*4+1,none⟩=some (.string l[i].script)∧w.cell? ⟨b,o+i*4+2,none⟩=some (.string l[i].region)∧w.cell? ⟨b,o+i*4+3,none⟩=some V∧ListOk Enc.str w lo hi V l[i].vars:=by
 obtain⟨A',c',hv,_,hi⟩:=h;obtain⟨b,o,cs,hA,h1,h2,h3,V,h4,h5⟩:=hi i hl;injection hv with hv1;refine⟨b,o,V,hv1.trans hA,h1,h2,?_,?_,?_,?_,h5⟩
 ·exact h3 0 _ (by rw[h4];rfl)
 ·exact h3 1 _ (by rw[h4];rfl)
 ·exact h3 2 _ (by rw[h4];rfl)
 ·exact h3 3 _ (by rw[h4];rfl)
theorem below_drawn {B:Nat} {w w':World} (h:Below B w w') (n:Nat):Below B w (w'.drewN n):=⟨h.os,h.tape,h.output,h.size,h.block⟩
theorem below_undrew {B:Nat} {w w':World} (h:Below B w.drew w'):Below B w w':=⟨h.os,h.tape,h.output,h.size,h.block⟩
structure Small (t:Tg):Prop where
 lang:t.lang.size≤8
 script:t.script.size≤8
 region:t.region.size≤8
 len:t.vars.length≤3
 vars:∀ v∈t.vars,v.size≤8
theorem small_of {t:Tg} (h:tagFault t=0):Small t:=let ⟨a,b,c,d,e⟩:=tag_sizes h;⟨a,b,c,d,e⟩
theorem small_text {t:Tg} (h:Small t):(tagText t).size≤54:=by
 have hl:(parts t).length≤6:=by
  refine Nat.le_trans (List.length_filter_le _ _) ?_;have:=h.len;simp;omega
 have:=join_size ((parts t).map bts) (fun x hx=>by
  obtain⟨p,hp,rfl⟩:=List.mem_map.1 hx;rw[bts_len];have hm:=(List.mem_filter.1 hp).1;simp only[List.cons_append,List.nil_append,List.mem_cons]at hm;rcases hm with rfl|rfl|rfl|hm
  ·exact h.lang
  ·exact h.script
  ·exact h.region
  ·exact h.vars p hm)
 have e:(tagText t).size=(Lib.join ((parts t).map bts) [45]).length:=str_size _;rw[e];rw[List.length_map]at this;omega
theorem small_less {t u:Tg} (h:Small t) (hu:less t=some u):Small u:=by
 have h0:ByteArray.empty.size≤8:=Nat.zero_le _;unfold less at hu;split at hu
 ·injection hu with hu;rw[←hu];exact⟨h.lang,h.script,h.region,by have:=h.len;simp;omega,fun v hv=>h.vars v (List.mem_of_mem_take hv)⟩
 ·split at hu
  ·split at hu
   ·cases hu
   ·injection hu with hu;rw[←hu];exact⟨h.lang,h0,h.region,h.len,h.vars⟩
  ·injection hu with hu;rw[←hu];exact⟨h.lang,h.script,h0,h.len,h.vars⟩
theorem small_chainN:∀(n:Nat) (t:Tg),Small t→∀ u∈chainN n t,Small u
 | 0,t,h,u,hu=>by rw[List.mem_singleton.1 hu];exact h
 | n+1,t,h,u,hu=>by
   unfold chainN at hu;split at hu
   ·rename_i x hx
    rcases List.mem_cons.1 hu with rfl|hu
    ·exact h
    ·exact small_chainN n x (small_less h hx) u hu
   ·rw[List.mem_singleton.1 hu];exact h
theorem small_chain {t:Tg} (h:Small t):∀ u∈chainOf t,Small u:=small_chainN _ t h
theorem chain_six {t:Tg} (h:Small t):(chainOf t).length≤6:=by
 refine Nat.le_trans (chainOf_length t) ?_;have:=h.len;unfold deg;split <;> split <;> omega
theorem small_in {w:World} {p:Tg×Value} (h:Small p.1) {lo:Nat} (hl:ListOk Enc.str w lo w.heap.size p.2 p.1.vars):TagIn w p:=
 ⟨⟨lo,hl⟩,by have:=h.len;omega,fun s hs=>Nat.le_trans (h.vars s hs) (by omega),Nat.le_trans h.lang (by omega),Nat.le_trans h.script (by omega),Nat.le_trans h.region (by omega)⟩
theorem text_small (p:Tg×Value) (w:World) (h:Small p.1) {lo:Nat} (hl:ListOk Enc.str w lo w.heap.size p.2 p.1.vars):
 Calls Tryz.prog 36 #[.agg #[.string p.1.lang,.string p.1.script,.string p.1.region,p.2]] w fun e w'=>e=.returned (.string (tagText p.1))∧Below w.heap.size w w':=
 text_any p w (small_in h hl) (by have:=h.len;omega) (by have:=small_text h;omega)
theorem pkey_any (s:ByteArray) (w:World) (hs:s.size≤9223372036854775807):Calls Tryz.prog 66 #[.string s] w fun e w'=>e=.returned (.bool (keyOk s))∧Below w.heap.size w w':=by
 have HT:Hid (∀ W,Calls Tryz.prog 110 #[.string s,.string keySigns] W fun e w'=>e=.returned (.string ⟨(Lib.trimS (bts s) (bts keySigns)).toArray⟩)∧Below W.heap.size W w'):=hid fun W=>trim_any s keySigns W hs (by decide) (ascii_of_all (by decide +kernel))
 have HK:Hid (keyOk s=(decide (s.size≠0) && (decide (s.size≤40) && (bts s).all isKey))):=hid rfl;have HTr:Hid ((⟨(Lib.trimS (bts s) (bts keySigns)).toArray⟩:ByteArray).toList=[]↔(bts s).all isKey=true):=hid (by
  rw[←trim_key,ByteArray.toList_eq])
 generalize (⟨(Lib.trimS (bts s) (bts keySigns)).toArray⟩:ByteArray)=r at HT HTr;generalize (bts s).all isKey=al at HK HTr;have hsz:s.toList=[]↔s.size=0:=by
  rw[ByteArray.toList_eq]
  constructor
  ·intro h;have:=congrArg List.length h;simpa using this
  ·intro h;exact List.length_eq_zero_iff.1 (by simpa using h)
 by_cases h0:s.toList=[]
 ·have hz:=hsz.1 h0;have HZ:Hid (keyOk s=false):=hid (by rw[HK.out];simp[hz])
  clear hsz HK hz
  go_enter Tryz.func66,Tryz.ntmps66
  go_wp2_with fail
  go_ret
  exact⟨by rw[HZ.out];simp,Below.refl _ _⟩
 ·have hz:s.size≠0:=fun h=>h0 (hsz.2 h)
  by_cases h40:s.size≤40
  ·have HZ:Hid (keyOk s=al):=hid (by rw[HK.out];simp[hz,h40])
   clear hsz HK hz
   go_enter Tryz.func66,Tryz.ntmps66
   go_wp2_with fail
   refine(HT.out _).mono ?_;rintro e w1 ⟨rfl,hb1⟩;have HB1:=hid hb1;clear hb1
   by_cases hr:r.toList=[]
   ·have HA:Hid (al=true):=hid (HTr.out.1 hr);clear HTr
    go_wp2_with fail
    go_ret
    exact⟨by rw[HZ.out,HA.out];simp[h0],HB1.out⟩
   ·have HA:Hid (al=false):=hid (by cases al with|false=>rfl|true=>exact absurd (HTr.out.2 rfl) hr)
    clear HTr
    go_wp2_with fail
    go_ret
    exact⟨by rw[HZ.out,HA.out];simp[h0,hr],HB1.out⟩
  ·have HZ:Hid (keyOk s=false):=hid (by rw[HK.out];simp[h40])
   clear hsz HK hz
   go_enter Tryz.func66,Tryz.ntmps66
   go_wp2_with fail
   go_ret
   exact⟨by rw[HZ.out];rfl,Below.refl _ _⟩
theorem propTag_any (s:ByteArray) (w:World) (hm:MaxVar w) (hs:s.size < 4294967281):Calls Tryz.prog 34 #[.string s] w fun e w'=>e=.returned (.bool (isTag s))∧Below w.heap.size w w':=by
 have HP:=hid (parse_any s w hm hs);have HI:Hid (isTag s=match parseTag s with|some t=>eqs (tagText t) s|none=>false):=hid rfl
 have HF:Hid (∀ t,parseTag s=some t→tagFault t=0):=hid fun t h=>parse_fault h
 go_enter Tryz.func34,Tryz.ntmps34
 go_wp2_with fail
 refine HP.out.mono ?_;clear HP;rintro e w1 ⟨hb1,⟨hn,rfl⟩|⟨t,v,hsm,rfl,hl⟩⟩
 ·have HB1:=hid hb1;have hE:errV 3=.iface 35 (.int .i64 3):=errV_ne (by decide)
  have HZ:Hid (isTag s=false):=hid (by rw[HI.out,hn])
  have hs1:=hb1.size;rw[hE];clear hn hb1 hE HI HF
  go_wp2_with fail
  go_ret
  exact⟨by rw[HZ.out];rfl,HB1.out.alloc hs1 _⟩
 ·have HB1:=hid hb1;have hs1:=hb1.size;have hf:=HF.out t hsm;have HZ:Hid (isTag s=eqs (tagText t) s):=hid (by rw[HI.out,hsm])
  obtain⟨A,c,rfl,_⟩:=hl.form;have HX:Hid (∀ W,Below w1.heap.size w1 W→Calls Tryz.prog 36 #[.agg #[.string t.lang,.string t.script,.string t.region,.slice A t.vars.length c]] W fun e w'=>e=.returned (.string (tagText t))∧Below W.heap.size W w'):=hid fun W hW=>
   text_small (t,.slice A t.vars.length c) W (small_of hf) (lo:=w.heap.size) ((hl.below Enc.str_laws hW).mono Enc.str_laws (Nat.le_refl _) hW.size)
  clear hsm hb1 HI HF hl hf;have heq:Hid (eqs (tagText t) s=((tagText t).toList == s.toList)):=hid rfl;generalize tagText t=X at*
  go_wp2_with fail
  refine(HX.out _ ((Below.refl _ _).alloc (Nat.le_refl _) _)).mono ?_;rintro e w2 ⟨rfl,hb2⟩;have HB2:=hid (HB1.out.trans ((((Below.refl w1.heap.size w1).alloc (Nat.le_refl _) _).trans (hb2.mono (by simp))).mono hs1))
  clear hb2 HX
  by_cases he:(X.toList == s.toList)=true
  ·go_wp2_with fail
   go_ret
   exact⟨by rw[HZ.out,heq.out];simp_all,HB2.out⟩
  ·have he':(X.toList == s.toList)=false:=by simpa using he
   clear he
   go_wp2_with fail
   go_ret
   exact⟨by rw[HZ.out,heq.out];simp_all,HB2.out⟩
end Go.Proofs.YtpfmmbbggcghiaaGreatDoor
namespace Go.Proofs.YtpfmmbbggcghiaaGreatDoor
open Go.RowKit Go.Maps
open Lib (hid)
def keySet (l:List Ent) (j:Nat):DataW Unit:=setOf (.agg []) ((l.take j).map fun e=>Lit.string (bts e.key))
theorem keySet_zero (l:List Ent):keySet l 0=.map []:=by simp[keySet,setOf]
theorem keySet_succ {l:List Ent} (j:Nat) (hj:j < l.length):keySet l (j+1)=(keySet l j).put (.string (bts l[j].key)) (.agg []):=by
 unfold keySet;have e:l.take (j+1)=l.take j++[l[j]]:=by rw[List.take_add_one,List.getElem?_eq_getElem hj];rfl
 rw[e,List.map_append];exact setOf_snoc _ _ _
theorem any_key (s:ByteArray):∀ l:List Ent,(l.map fun e=>Lit.string (bts e.key)).any (fun x=>x.sameKey (.string (bts s)))=l.any (fun e=>eqs e.key s)
 | []=>rfl
 | a::r=>by
   rw[List.map_cons,List.any_cons,List.any_cons,any_key s r]
   congr 1
   rw[eqs_bts];rfl
theorem has_keySet (l:List Ent) (j:Nat) (s:ByteArray):Maps.has (keySet l j) (.string (bts s))=(l.take j).any (fun e=>eqs e.key s):=by
 unfold keySet;rw[has_setOf _ _ _ (fun y hy=>by obtain⟨_,_,rfl⟩:=List.mem_map.1 hy;trivial)]
 exact any_key s _
theorem ListOk.entAt {w:World} {lo hi:Nat} {A:Option Addr} {n c:Nat} {l:List Ent} (h:ListOk Enc.ent w lo hi (.slice A n c) l) (i:Nat) (hl:i < l.length):
 ∃ b o,A=some ⟨b,o,none⟩∧lo≤b∧b < hi∧w.cell? ⟨b,o+i*2,none⟩=some (.string l[i].key)∧w.cell? ⟨b,o+i*2+1,none⟩=some (.string l[i].text):=by
 obtain⟨A',c',hv,_,hi⟩:=h;obtain⟨b,o,cs,hA,h1,h2,h3,h4⟩:=hi i hl;injection hv with hv1;have h4':cs=[.string l[i].key,.string l[i].text]:=h4;refine⟨b,o,hv1.trans hA,h1,h2,?_,?_⟩
 ·exact h3 0 _ (by rw[h4'];rfl)
 ·exact h3 1 _ (by rw[h4'];rfl)
theorem entAt_is {l:List Ent} (j:Nat) (hj:j < l.length):entAt l j=if keyOk l[j].key then(if(l.take j).any (fun e=>eqs e.key l[j].key)then 5 else if 2000 < l[j].text.size then 4 else 0)else 3:=by
 have:l.getD j noEnt=l[j]:=by rw[List.getD_eq_getElem?_getD,List.getElem?_eq_getElem hj];rfl
 unfold entAt;rw[this]
theorem bun_bad {b:Bun} (ht:isTag b.tag=true) (hn:b.ents.length≤100) (j:Nat) (hj:j < b.ents.length) (h0:∀ q,q < j→Go.Proofs.YtpfmmbbggcghiaaGreatDoor.entAt b.ents q=0) (h:Go.Proofs.YtpfmmbbggcghiaaGreatDoor.entAt b.ents j≠0):bunFault b=Go.Proofs.YtpfmmbbggcghiaaGreatDoor.entAt b.ents j:=by
 unfold bunFault;rw[if_pos ht,if_neg (by omega)]
 exact firstN_at _ j h0 h _ hj
theorem bun_good {b:Bun} (ht:isTag b.tag=true) (hn:b.ents.length≤100) (h0:∀ q,q < b.ents.length→Go.Proofs.YtpfmmbbggcghiaaGreatDoor.entAt b.ents q=0):bunFault b=0:=by
 unfold bunFault;rw[if_pos ht,if_neg (by omega)]
 exact firstN_zero _ _ h0
theorem ownsMap_below {P:Program} {k:TypeId} {R:Value→Option (DataW Unit×List MemPlace)} {b n B:Nat} {D:DataW Unit} {w w':World} (h:w.ownsMap P k R b n D) (hb:Below B w w') (hB:b < B):w'.ownsMap P k R b n D:=by
 obtain⟨es,clock,hh,r⟩:=h;exact⟨es,clock,(hb.block b hB).trans hh,r⟩
theorem lawS:Keyed Tryz.prog 9:=string_keyed Tryz.underlying9
theorem zero_unit (w:World):(zeroValue 155).run Tryz.prog w=.ok (.agg #[]) w:=by kernel_rfl
structure BunIn (w:World) (b:Bun) (v:Value):Prop where
 lo:∃ lo,ListOk Enc.ent w lo w.heap.size v b.ents
 tag:b.tag.size < 4294967281
 len:b.ents.length≤4398046511104
 each:∀ e∈b.ents,e.key.size≤9223372036854775807∧e.text.size≤9223372036854775807
theorem BunIn.below {w w':World} {b:Bun} {v:Value} (h:BunIn w b v) (hb:Below w.heap.size w w'):BunIn w' b v:=
 ⟨let ⟨lo,hl⟩:=h.lo;⟨lo,(hl.below Enc.ent_laws hb).mono Enc.ent_laws (Nat.le_refl _) hb.size⟩,h.tag,h.len,h.each⟩
theorem bunCheck_any (b:Bun) (v:Value) (w:World) (h:BunIn w b v) (hm:MaxVar w):
 Calls Tryz.prog 31 #[.agg #[.string b.tag,v]] w fun e w'=>e=.returned (errV (bunFault b))∧Below w.heap.size w w':=by
 have hmm:=@run_makeMap Tryz.prog;have HT:Hid (∀ W,Below w.heap.size w W→Calls Tryz.prog 34 #[.string b.tag] W fun e w'=>e=.returned (.bool (isTag b.tag))∧Below W.heap.size W w'):=hid fun W hW=>propTag_any b.tag W (hm.below hW) h.tag;have HL:Hid (∀ W,Below w.heap.size w W→ListOk Enc.ent W (Classical.choose h.lo) w.heap.size v b.ents):=hid fun W hW=>(Classical.choose_spec h.lo).keep Enc.ent_laws (Alk.mono (Alk.of_below hW) (Nat.zero_le _) (Nat.le_refl _));have HE:=hid h.each;have hlen:=h.len;obtain⟨A,c,hv,_⟩:=(Classical.choose_spec h.lo).form;subst hv;generalize Classical.choose h.lo=lo at HL;have HB0:Hid (isTag b.tag=false→bunFault b=3):=hid fun h=>by unfold bunFault;rw[h];rfl
 have HB4:Hid (isTag b.tag=true→100 < b.ents.length→bunFault b=4):=hid fun h h2=>by unfold bunFault;rw[if_pos h,if_pos h2]
 have HBad:Hid (isTag b.tag=true→b.ents.length≤100→∀ j,j < b.ents.length→(∀ q,q < j→entAt b.ents q=0)→entAt b.ents j≠0→bunFault b=entAt b.ents j):=hid fun h1 h2 j hj h0 h=>bun_bad h1 h2 j hj h0 h;have HGood:Hid (isTag b.tag=true→b.ents.length≤100→(∀ q,q < b.ents.length→entAt b.ents q=0)→bunFault b=0):=hid fun h1 h2 h=>bun_good h1 h2 h;obtain⟨bt,l⟩:=b;dsimp only at HT HL HE hlen HB0 HB4 HBad HGood ⊢;generalize bunFault ⟨bt,l⟩=F at *;generalize isTag bt=tg at *;clear h hm
 go_enter Tryz.func31,Tryz.ntmps31
 go_wp2_with fail
 refine(HT.out _ ((Below.refl _ _).alloc (Nat.le_refl _) _)).mono ?_;clear HT;rintro e w1 ⟨rfl,hb1⟩;have m1:Blk w1 w.heap.size 49 #[.string bt,.slice A l.length c]:=(Blk.new _ _ _).below hb1 (by simp)
 have HB1:=hid (((Below.refl w.heap.size w).alloc (Nat.le_refl _) _).trans (hb1.mono (by simp)))
 have hw1:=m1.lt;have k0:=m1.cell 0;have k1:=m1.cell 1;simp at k0 k1;clear hb1 m1;cases tg with
 | false=>
   have HF:=hid (HB0.out rfl)
   go_wp2_with fail
   go_ret
   exact⟨by rw[HF.out];rfl,HB1.out⟩
 | true=>
   by_cases h100:100 < l.length
   ·have HF:=hid (HB4.out rfl h100)
    go_wp2_with fail
    go_ret
    exact⟨by rw[HF.out];rfl,HB1.out⟩
   ·have hle:l.length≤100:=by omega
    have HBad':=hid (HBad.out rfl hle);have HGood':=hid (HGood.out rfl hle);clear HB0 HB4 HBad HGood
    go_wp2_with fail
    go_loopw [5,6,7,22] (fun _ _ _ i wr=>∃ j:Nat,j≤l.length∧i=.int .i64 j∧(∀ q,q < j→entAt l q=0)∧wr.ownsMap Tryz.prog 9 unitElem w1.heap.size j (keySet l j)∧Below w1.heap.size w1 wr∧w1.heap.size+1≤wr.heap.size) (fun _ _ _ i _=>l.length - (intOf i).toNat)
    case atStart=>exact⟨0,Nat.zero_le _,rfl,fun _ h=>absurd h (by omega),by rw[keySet_zero];exact World.ownsMap_made _ _ _ _,(Below.refl _ _).alloc (Nat.le_refl _) _,by simp⟩
    case round=>
     obtain⟨j,hj,rfl,hno,hown,hbr,hsz⟩:=hrel;have HNo:=hid hno;have HO:=hid hown;have HBr:=hid hbr;have hbs:=hbr.size;clear hno hown hbr
     by_cases hlt:j < l.length
     ·have hlw:=HL.out wr (HB1.out.trans (HBr.out.mono HB1.out.size));obtain⟨eb,eo,rfl,p1,p2,x0,x1⟩:=hlw.entAt j hlt;have hes:=HE.out _ (List.getElem_mem hlt);have HEt:=hid (entAt_is j hlt);have HAt:=hid (HBad'.out j hlt HNo.out);have HHas:=hid (has_keySet l j l[j].key);have HSucc:=hid (keySet_succ j hlt);generalize l[j]=e at *;obtain⟨ky,tx⟩:=e;dsimp only at x0 x1 hes HEt HHas HSucc;have HK:=hid (fun W=>pkey_any ky W hes.1);have hkey:keyOf Tryz.prog 9 (.string ky)=some (.string (bts ky)):=Go.WideMaps.keyOf_string_mk Tryz.underlying9 (by unfold maxLen;omega)
      have HKey:=hid hkey;have hebl:eb < wr.heap.size:=by omega
      clear hlw hkey;generalize keyOk ky=ko at*
      go_wp2_with fail
      refine(HK.out _).mono ?_;rintro e w3 ⟨rfl,hb3⟩;have hb3w:Below wr.heap.size wr w3:=((Below.refl wr.heap.size wr).alloc (Nat.le_refl _) _).trans (hb3.mono (by simp))
      have HB3:=hid hb3w;have hs3:=hb3w.size;have me:Blk w3 wr.heap.size 70 #[.string ky,.string tx]:=(Blk.new _ _ _).below hb3 (by simp)
      have he3:=me.lt;have e0:=me.cell 0;have e1:=me.cell 1;simp at e0 e1;have HO3:=hid (ownsMap_below HO.out hb3w (by omega))
      have HMe:=hid me;clear hb3 hb3w me HO HK x0 x1;cases ko with
      | false=>
        have HF:=hid (HAt.out (by rw[HEt.out];simp))
        rw[HEt.out]at HF
        go_wp2_with fail
        go_ret
        exact⟨by rw[HF.out];rfl,HB1.out.trans ((HBr.out.trans (HB3.out.mono hbs)).mono HB1.out.size)⟩
      | true=>
        cases hh:Maps.has (keySet l j) (Lit.string (bts ky))with
        | true=>
          have HF:=hid (HAt.out (by rw[HEt.out,←HHas.out,hh];simp))
          rw[HEt.out,←HHas.out,hh]at HF
          go_wp2_with (at_lookup;refine wpList_lookup_own_unit _ rfl _ _ 154 rfl 9 155 lawS Tryz.underlying154 (zero_unit _) w1.heap.size j _ rfl HO3.out _ _ rfl HKey.out ?_)
          go_ret
          exact⟨by rw[HF.out];rfl,HB1.out.trans (((HBr.out.trans (HB3.out.mono hbs)).alloc (by omega) _).mono HB1.out.size)⟩
        | false=>
          rw[←HHas.out,hh]at HEt;simp only[if_true,Bool.false_eq_true,if_false]at HEt
          go_wp2_with (first
           | (at_lookup;refine wpList_lookup_own_unit _ rfl _ _ 154 rfl 9 155 lawS Tryz.underlying154 (zero_unit _) w1.heap.size j _ rfl HO3.out _ _ rfl HKey.out ?_)
           | (at_mapUpdate;refine wpList_mapUpdate_own _ rfl _ _ _ 154 rfl 9 155 lawS Tryz.underlying154 (unitElem (H:=Unit)) w1.heap.size j _ rfl (HO3.out.alloc _) (by unfold maxLen;omega) _ _ _ rfl rfl HKey.out _ [] unitElem_mk ?_))
          intro w4 hown4 hgrow4;have hb4:Below w1.heap.size w1 w4:=((HBr.out.trans (HB3.out.mono hbs)).alloc (by omega) _).grown hgrow4 (by simp;omega) (fun k hk=>by cases hk;exact Nat.le_refl _)
          have m4:Blk w4 wr.heap.size 70 #[.string ky,.string tx]:=(hgrow4.block _ (by simp;omega) (fun e=>by injection e with e;omega)).trans (HMe.out.alloc _)
          have HO4:Hid (w4.ownsMap Tryz.prog 9 unitElem w1.heap.size (j+1) (keySet l (j+1))):=hid (by rw[HSucc.out];exact hown4)
          have HB4:=hid hb4;have g0:=m4.cell 0;have g1:=m4.cell 1;simp at g0 g1;have hs4:=hgrow4.size;simp only[World.size_alloc]at hs4;clear hown4 hgrow4 hb4 m4 HO3 HMe e0 e1 hh HHas HSucc
          by_cases h2:2000 < tx.size
          ·rw[if_pos h2]at HEt;have HF:=hid (HAt.out (by rw[HEt.out];decide))
           rw[HEt.out]at HF
           go_wp2_with fail
           go_ret
           exact⟨by rw[HF.out];rfl,HB1.out.trans (HB4.out.mono HB1.out.size)⟩
          ·rw[if_neg h2]at HEt;have h2':tx.size≤2000:=by omega
           go_wp2_with fail
           exact⟨⟨j+1,by omega,by go_num,fun q hq=>by
            rcases Nat.lt_or_eq_of_le (Nat.le_of_lt_succ hq)with h|h
            ·exact HNo.out q h
            ·subst h;exact HEt.out,HO4.out,HB4.out,by omega⟩,by simp[intOf];omega⟩
     ·obtain rfl:j=l.length:=by omega
      have HF:=hid (HGood'.out HNo.out)
      go_wp2_with fail
      go_ret
      exact⟨by rw[HF.out];rfl,HB1.out.trans (HBr.out.mono HB1.out.size)⟩
end Go.Proofs.YtpfmmbbggcghiaaGreatDoor
namespace Go.Proofs.YtpfmmbbggcghiaaGreatDoor
open Go.RowKit
open Lib (hid)
def cf_ren:Go.Shelf.Ren:=⟨fun|8=>32|6=>67|n=>n,fun|22=>22|23=>49|25=>85|4=>4|3=>3|0=>0|n=>n,fun|n=>n⟩
theorem cf_lays:Go.Proofs.SlLaysH0.n8 Tryz.prog cf_ren:= {
 mixed:=by kernel_rfl
 f6:=⟨ "slices.IndexFunc[[]linguister/api.Bundle,linguister/api.Bundle]",by decide,Tryz.func67.trans (congrArg some (by kernel_rfl))⟩
 f8:=⟨ "slices.ContainsFunc[[]linguister/api.Bundle,linguister/api.Bundle]",by decide,Tryz.func32.trans (congrArg some (by kernel_rfl))⟩
 t0:=Tryz.underlying0
 a0:=Tryz.isAgg0
 z0:=Tryz.sizeOf0
 v0:=Tryz.zeroValue0
 t3:=Tryz.underlying3
 a3:=Tryz.isAgg3
 z3:=Tryz.sizeOf3
 v3:=Tryz.zeroValue3
 t4:=Tryz.underlying4
 a4:=Tryz.isAgg4
 z4:=Tryz.sizeOf4
 v4:=Tryz.zeroValue4
 t22:=Tryz.underlying22
 a22:=Tryz.isAgg22
 z22:=Tryz.sizeOf22
 v22:=Tryz.zeroValue22
 t25:=Tryz.underlying85
 a25:=Tryz.isAgg85
 z25:=Tryz.sizeOf85
 v25:=Tryz.zeroValue85 }
theorem inClosure_any (bt tg:ByteArray) (v _V:Value) (b:Nat) (W:World) (hc:W.cell? ⟨b,0,none⟩=some (.string tg)) (hb:b < W.heap.size):
 Calls Tryz.prog 33 #[.agg #[.string bt,v],.pointer (some ⟨b,0,none⟩)] W fun e w'=>e=.returned (.bool (eqs bt tg))∧Below W.heap.size W w':=by
 have h:Hid (eqs bt tg=(bt.toList == tg.toList)):=hid rfl
 go_enter Tryz.func33,Tryz.ntmps33
 go_wp2_with fail
 all_goals
  go_ret
  exact⟨ret_bool (by rw[h.out]),(Below.refl _ _).alloc (Nat.le_refl _) _⟩
theorem enters_inClosure:∀ args w,(callFunc 33 args).run Tryz.prog w=.ok (.enter 33 args) w:=enters_of Tryz.func33 (by kernel_rfl) rfl
structure BunsIn (w:World) (v:Value) (l:List Bun):Prop where
 lo:∃ lo,ListOk Enc.bun w lo w.heap.size v l
 len:l.length*40≤140737488355328
 each:∀ b∈l,b.tag.size < 4294967281∧b.ents.length≤4398046511104∧∀ e∈b.ents,e.key.size≤9223372036854775807∧e.text.size≤9223372036854775807
theorem BunsIn.below {w w':World} {v:Value} {l:List Bun} (h:BunsIn w v l) (hb:Below w.heap.size w w'):BunsIn w' v l:=
 ⟨let ⟨lo,hl⟩:=h.lo;⟨lo,(hl.below Enc.bun_laws hb).mono Enc.bun_laws (Nat.le_refl _) hb.size⟩,h.len,h.each⟩
theorem BunsIn.bunAt {w:World} {A:Option Addr} {n c:Nat} {l:List Bun} (h:BunsIn w (.slice A n c) l) (i:Nat) (hl:i < l.length):
 ∃ b o V,A=some ⟨b,o,none⟩∧b < w.heap.size∧w.cell? ⟨b,o+i*2,none⟩=some (.string l[i].tag)∧w.cell? ⟨b,o+i*2+1,none⟩=some V∧BunIn w l[i] V:=by
 obtain⟨lo,A',c',hv,_,hi⟩:=h.lo;obtain⟨b,o,cs,hA,h1,h2,h3,V,h4,h5⟩:=hi i hl;injection hv with hv1;have he:=h.each _ (List.getElem_mem hl);refine⟨b,o,V,hv1.trans hA,h2,?_,?_,⟨⟨lo,h5⟩,he.1,he.2.1,he.2.2⟩⟩
 ·exact h3 0 _ (by rw[h4];rfl)
 ·exact h3 1 _ (by rw[h4];rfl)
theorem contains_any (l:List Bun) (A:Option Addr) (n c:Nat) (w:World) (h:BunsIn w (.slice A n c) l) (j:Nat) (hj:j < l.length) (tg:ByteArray) (bb:Nat) (hc:w.cell? ⟨bb,0,none⟩=some (.string tg)) (hbb:bb < w.heap.size):
 Calls Tryz.prog 32 #[.slice A j c,.func (.func 33) #[] #[.pointer (some ⟨bb,0,none⟩)]] w fun e w'=>e=.returned (.bool ((l.take j).any (fun b=>eqs b.tag tg)))∧Below w.heap.size w w':=by
 have hlen:=h.len;obtain⟨b,o,V0,rfl,hb,_⟩:=h.bunAt j hj;obtain⟨vs,hvl,hvs⟩:=choose_list (α:=Value) l.length (fun i V=>∀(hi:i < l.length),w.cell? ⟨b,o+i*2,none⟩=some (.string l[i].tag)∧w.cell? ⟨b,o+i*2+1,none⟩=some V) (fun i hi=>by
  obtain⟨b',o',V,he,_,x0,x1,_⟩:=h.bunAt i hi;injection he with he;injection he with e1 e2;subst e1;subst e2;exact⟨V,fun _=>⟨x0,x1⟩⟩)
 have hz:((l.map Bun.tag).zip vs).length=l.length:=by simp[hvl]
 have hcon:=AnyQ.slices_ContainsFunc (α:=ByteArray×Value) cf_lays 2 Tryz.isAgg49 Tryz.sizeOf49 (fun p=>[.string p.1,p.2]) (fun _=>rfl) (fun p=>eqs p.1 tg) 33 #[.pointer (some ⟨bb,0,none⟩)] enters_inClosure b o j c ((l.map Bun.tag).zip vs) w
  (fun W x hW=>(inClosure_any x.1 tg x.2 x.2 bb W ((hW.cell (p:=⟨bb,0,none⟩) hbb).trans hc) (Nat.lt_of_lt_of_le hbb hW.size)).mono fun e w' h=>⟨h.1,hW.trans (h.2.mono hW.size)⟩)
  (by rw[hz];omega) (by omega) hb (fun q hq i v hi=>by
    have hql:q < l.length:=by rw[hz]at hq;exact hq
    have hx:((l.map Bun.tag).zip vs)[q]! =(l[q].tag,vs[q]):=by rw[getElem!_pos _ q hq];simp
    rw[hx]at hi;obtain⟨y0,y1⟩:=hvs q (by omega) hql
    match i,hi with
    | 0,hi=>injection hi with hi;rw[←hi];exact y0
    | 1,hi=>injection hi with hi;rw[←hi];exact y1
    | i+2,hi=>cases hi)
 have ha:((((l.map Bun.tag).zip vs).take j).any fun p=>eqs p.1 tg)=(l.take j).any (fun b=>eqs b.tag tg):=by
  have e1:(((l.map Bun.tag).zip vs).take j).map Prod.fst=(l.take j).map Bun.tag:=by
   rw[List.map_take,List.map_fst_zip (by simp[hvl]),List.map_take]
  have e2:((((l.map Bun.tag).zip vs).take j).any fun p=>eqs p.1 tg)=((((l.map Bun.tag).zip vs).take j).map Prod.fst).any (eqs · tg):=by rw[List.any_map];rfl
  rw[e2,e1,List.any_map];rfl
 rw[ha]at hcon;exact hcon
end Go.Proofs.YtpfmmbbggcghiaaGreatDoor
