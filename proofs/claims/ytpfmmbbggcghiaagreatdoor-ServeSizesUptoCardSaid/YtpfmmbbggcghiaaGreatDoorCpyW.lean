/- The walk of package find: In. -/
import Derived.Test.YtpfmmbbggcghiaaGreatDoorFindC
import Derived.BigQuiet
import Derived.Deep.QuietTactic
import Derived.Deep.RegionHeld3
import Derived.Test.YtpfmmbbggcghiaaGreatDoorDecC
import Derived.Test.YtpfmmbbggcghiaaGreatDoorChainW
import Derived.Test.YtpfmmbbggcghiaaGreatDoorRdC
import Derived.Test.YtpfmmbbggcghiaaGreatDoorLexP
import Derived.Deep.DeepCutAuto
import Derived.Test.YtpfmmbbggcghiaaGreatDoorNamesP
import Derived.Test.YtpfmmbbggcghiaaGreatDoorNamesA
namespace Go.Proofs.YtpfmmbbggcghiaaGreatDoor
open Go.RowKit
theorem getD_bun {l:List Bun} {q:Nat} (h:q < l.length):l.getD q noBun=l[q]:=by rw[List.getD_eq_getElem?_getD,List.getElem?_eq_getElem h];rfl
theorem loadAt_is {l:List Bun} (j:Nat) (hj:j < l.length):loadAt l j=if bunFault l[j]=0 then(if(l.take j).any (fun b=>eqs b.tag l[j].tag)then 5 else 0)else bunFault l[j]:=by
 unfold loadAt;rw[getD_bun hj]
theorem find_load {l:List Bun} (name key:ByteArray) (j:Nat) (hj:j < l.length) (h0:∀ q,q < j→loadAt l q=0) (h:loadAt l j≠0):findIn l name key=⟨loadAt l j,0,ByteArray.empty⟩:=by
 have:loadFault l=loadAt l j:=firstN_at _ j h0 h _ hj;unfold findIn;rw[this,if_neg h]
theorem find_bare {l:List Bun} (name key:ByteArray) (h0:∀ q,q < l.length→loadAt l q=0) (h:isTag name=false):findIn l name key=⟨3,0,ByteArray.empty⟩:=by
 have:loadFault l=0:=firstN_zero _ _ h0;unfold findIn;rw[if_pos this,h];rfl
theorem find_chain {l:List Bun} (name key:ByteArray) (h0:∀ q,q < l.length→loadAt l q=0) (h:isTag name=true) {t:Tg} (ht:parseTag name=some t):
 findIn l name key=match findChain l t key with|some (_,i,s)=>⟨0,i,s⟩|none=>⟨2,0,ByteArray.empty⟩:=by
 have:loadFault l=0:=firstN_zero _ _ h0;unfold findIn;rw[if_pos this,if_pos h,ht]
 rfl
theorem tagAt_is {l:List Bun} {c:List Tg} {key:ByteArray} (k:Nat) (hk:k < c.length):tagAt l c key k=findTag l (tagText c[k]) key:=by
 unfold tagAt;rw[List.getElem?_eq_getElem hk];rfl
theorem hitAt_is {l:List Bun} {nm key:ByteArray} (i:Nat) (hi:i < l.length):hitAt l nm key i=if eqs l[i].tag nm then(l[i].ents.find? (fun e=>eqs e.key key)).map (·.text)else none:=by
 unfold hitAt;rw[List.getElem?_eq_getElem hi];rfl
theorem find_at {l:List Ent} {key:ByteArray}:∀(m:Nat) (hm:m < l.length),(∀ q (h:q < l.length),q < m→eqs l[q].key key=false)→eqs l[m].key key=true→l.find? (fun e=>eqs e.key key)=some l[m]:=by
 induction l with
 | nil=>intro m hm;cases hm
 | cons a r ih=>
   intro m hm h0 h1;cases m with
   | zero=>rw[List.find?_cons];have:eqs a.key key=true:=h1;rw[this];rfl
   | succ m=>
     have ha:eqs a.key key=false:=h0 0 (by simp) (by omega)
     rw[List.find?_cons,ha];exact ih m (by simpa using hm) (fun q hq hqm=>h0 (q+1) (by simpa using hq) (by omega)) h1
theorem find_no {l:List Ent} {key:ByteArray} (h:∀ q (h:q < l.length),eqs l[q].key key=false):l.find? (fun e=>eqs e.key key)=none:=by
 rw[List.find?_eq_none];intro x hx;obtain⟨q,hq,rfl⟩:=List.getElem_of_mem hx;rw[h q hq];simp
structure Seeks (l:List Bun) (key:ByteArray) (C:List Tg) (R:Found):Prop where
 hit:∀ k (hk:k < C.length),(∀ q,q < k→tagAt l C key q=none)→∀ i,i < l.length→(∀ q,q < i→hitAt l (tagText C[k]) key q=none)→∀ s,hitAt l (tagText C[k]) key i=some s→R=⟨0,i,s⟩
 miss:∀ k (hk:k < C.length),(∀ q,q < l.length→hitAt l (tagText C[k]) key q=none)→tagAt l C key k=none
 none:(∀ k,k < C.length→tagAt l C key k=none)→R=⟨2,0,ByteArray.empty⟩
theorem seeks_chain {l:List Bun} {t:Tg} {key:ByteArray} {R:Found} (hR:R=match findChain l t key with|some (_,i,s)=>⟨0,i,s⟩|none=>⟨2,0,ByteArray.empty⟩):Seeks l key (chainEn t) R:=by
 refine⟨fun k hk h0 i hi h1 s hs=> ?_,fun k hk h0=> ?_,fun h=> ?_⟩
 ·have h2:tagAt l (chainEn t) key k=some (i,s):=by
   rw[tagAt_is k hk];exact firstS_at _ i s h1 hs _ hi
  have h3:findChain l t key=some (k,i,s):=firstS_at _ k _ h0 h2 _ hk;rw[hR,h3]
 ·rw[tagAt_is k hk];exact firstS_none _ _ h0
 ·have h3:findChain l t key=Option.none:=firstS_none _ _ h;rw[hR,h3]
theorem small_en:Small enTg:=⟨by decide +kernel,by decide +kernel,by decide +kernel,by decide +kernel,fun v hv=>by cases hv⟩
set_option maxHeartbeats 6400000 in
set_option maxRecDepth 100000 in
theorem find_any (l:List Bun) (vl:Value) (name key:ByteArray) (w:World) (h:BunsIn w vl l) (hn:name.size < 4294967281) (hm:MaxVar w):
 Calls Tryz.prog 12 #[vl,.string name,.string key] w fun e w'=>Below w.heap.size w w'∧e=.returned (.tuple #[.int .i64 (findIn l name key).at_,.string (findIn l name key).text,errV (findIn l name key).err]):=by
 have HL:=Lib.hid h;have HM:=Lib.hid hm;have hlen:l.length*40≤140737488355328:=h.len;obtain⟨lo,hlo⟩:=h.lo;obtain⟨A,c,rfl,hlc⟩:=hlo.form;obtain⟨R,hR⟩:∃ R,R=findIn l name key:=⟨_,rfl⟩;have HLoad:Hid (∀ j,j < l.length→(∀ q,q < j→loadAt l q=0)→loadAt l j≠0→R=⟨loadAt l j,0,ByteArray.empty⟩):=Lib.hid fun j hj h0 h=>by rw[hR];exact find_load name key j hj h0 h
 have HBare:Hid ((∀ q,q < l.length→loadAt l q=0)→isTag name=false→R=⟨3,0,ByteArray.empty⟩):=Lib.hid fun h0 h=>by rw[hR];exact find_bare name key h0 h
 have HChain:Hid ((∀ q,q < l.length→loadAt l q=0)→isTag name=true→∀ t,parseTag name=some t→R=match findChain l t key with|some (_,i,s)=>⟨0,i,s⟩|none=>⟨2,0,ByteArray.empty⟩):=Lib.hid fun h0 h t ht=>by rw[hR];exact find_chain name key h0 h ht
 rw[←hR];have HTg:Hid (∀ W,Below w.heap.size w W→Calls Tryz.prog 34 #[.string name] W fun e w'=>e=.returned (.bool (isTag name))∧Below W.heap.size W w'):=Lib.hid fun W hW=>propTag_any name W (hm.below hW) hn;have HPa:Hid (∀ W,Below w.heap.size w W→Calls Tryz.prog 15 #[.string name] W fun e w'=>Below W.heap.size W w'∧
    ((parseTag name=none∧e=.returned (.tuple #[.agg #[.string ⟨#[]⟩,.string ⟨#[]⟩,.string ⟨#[]⟩,.slice none 0 0],errV 3]))∨
      ∃ t v,parseTag name=some t∧e=.returned (.tuple #[.agg #[.string t.lang,.string t.script,.string t.region,v],.nilIface])∧ListOk Enc.str w' W.heap.size w'.heap.size v t.vars)):=Lib.hid fun W hW=>parse_any name W (hm.below hW) hn
 have HIs:Hid (isTag name=true→∃ t,parseTag name=some t∧tagFault t=0):=Lib.hid fun h=>let ⟨t,h1,_⟩:=isTag_some h;⟨t,h1,parse_fault h1⟩
 clear h hm hR hlo hn;generalize isTag name=it at*
 go_enter Tryz.func12,Tryz.ntmps12
 go_wp2_with fail
 go_loopw [9,10,11,23] (fun _ _ _ i wr=>∃ j:Nat,j≤l.length∧i=.int .i64 j∧(∀ q,q < j→loadAt l q=0)∧Below w.heap.size w wr) (fun _ _ _ i _=>l.length - (intOf i).toNat)
 case atStart=>exact⟨0,Nat.zero_le _,rfl,fun _ h=>absurd h (by omega),Below.refl _ _⟩
 case round=>
  obtain⟨j,hj,rfl,hno,hbr⟩:=hrel;have HNo:=Lib.hid hno;have HBr:=Lib.hid hbr;have hbs:=hbr.size;clear hno hbr
  by_cases hlt:j < l.length
  ·have hbw:=HL.out.below HBr.out;have HBw:=Lib.hid hbw;obtain⟨b,o,V,rfl,hbl,x0,x1,hin⟩:=hbw.bunAt j hlt;have HIn:=Lib.hid hin;have HLd:=Lib.hid (loadAt_is j hlt);have HRj:=Lib.hid (HLoad.out j hlt HNo.out);have HCf:Hid (∀ W,Below wr.heap.size wr W→W.cell? ⟨wr.heap.size,0,none⟩=some (.string l[j].tag)→wr.heap.size < W.heap.size→Calls Tryz.prog 32 #[.slice (some ⟨b,o,none⟩) j c,.func (.func 33) #[] #[.pointer (some ⟨wr.heap.size,0,none⟩)]] W fun e w'=>e=.returned (.bool ((l.take j).any (fun b=>eqs b.tag l[j].tag)))∧Below W.heap.size W w'):=Lib.hid fun W hW hc hlt'=>
    contains_any l _ _ c W (HBw.out.below hW) j hlt l[j].tag wr.heap.size hc hlt'
   have HCk:Hid (∀ W,Below wr.heap.size wr W→Calls Tryz.prog 31 #[.agg #[.string l[j].tag,V]] W fun e w'=>e=.returned (errV (bunFault l[j]))∧Below W.heap.size W w'):=Lib.hid fun W hW=>bunCheck_any l[j] V W (HIn.out.below hW) ((HM.out.below HBr.out).below hW);obtain⟨A4,c4,hV,_⟩:=(Classical.choose_spec hin.lo).form;subst hV;have hjl:(j:Int)≤(l.length:Int):=by omega
   generalize (l.take j).any (fun b=>eqs b.tag l[j].tag)=dup at *;generalize l[j]=B at *;clear hbw hin HIn;obtain⟨bt,bl⟩:=B;dsimp only at x0 x1 HCf HCk HLd;generalize bunFault ⟨bt,bl⟩=bf at*
   go_wp2_with fail
   refine(HCk.out _ ((Below.refl _ _).alloc (Nat.le_refl _) _)).mono ?_;clear HCk;rintro e w1 ⟨rfl,hb1⟩;have hb1w:Below wr.heap.size wr w1:=((Below.refl wr.heap.size wr).alloc (Nat.le_refl _) _).trans (hb1.mono (by simp))
   have HB1:=Lib.hid hb1w;have m1:Blk w1 wr.heap.size 49 #[.string bt,.slice A4 bl.length c4]:=(Blk.new _ _ _).below hb1 (by simp)
   have HCf1:=Lib.hid (HCf.out w1 hb1w (by simpa using m1.cell 0) m1.lt)
   have hs1:=hb1w.size;clear hb1 hb1w m1 HCf x0 x1
   by_cases hf:bf=0
   ·rw[if_pos hf]at HLd;subst hf;rw[errV_zero]
    go_wp2_with fail
    refine HCf1.out.mono ?_;clear HCf1;rintro e w2 ⟨rfl,hb2⟩;have HB2:=Lib.hid (HBr.out.trans ((HB1.out.trans (hb2.mono hs1)).mono hbs));clear hb2;cases dup with
    | true=>
      have HR:=Lib.hid (HRj.out (by rw[HLd.out];decide))
      rw[HLd.out]at HR
      go_wp2_with fail
      go_ret3
      exact⟨HB2.out,by rw[HR.out];rfl⟩
    | false=>
      go_wp2_with fail
      exact⟨⟨j+1,by omega,by go_num,fun q hq=>by
       rcases Nat.lt_or_eq_of_le (Nat.le_of_lt_succ hq)with h|h
       ·exact HNo.out q h
       ·subst h;rw[HLd.out];rfl,HB2.out⟩,by simp[intOf];omega⟩
   ·rw[if_neg hf]at HLd;have HR:=Lib.hid (HRj.out (by rw[HLd.out];exact hf))
    rw[HLd.out]at HR;have HE:=Lib.hid (errV_ne hf);rw[errV_ne hf];clear hf HLd HRj HCf1
    go_wp2_with fail
    go_ret3
    exact⟨HBr.out.trans (HB1.out.mono hbs),by rw[HR.out,HE.out];rfl⟩
  ·obtain rfl:j=l.length:=by omega
   have HBare':=Lib.hid (HBare.out HNo.out);have HChain':=Lib.hid (HChain.out HNo.out);clear HBare HChain HLoad HNo
   go_wp2_with fail
   refine(HTg.out _ HBr.out).mono ?_;clear HTg;rintro e w1 ⟨rfl,hb1⟩;have HB1:=Lib.hid (HBr.out.trans (hb1.mono hbs));have hs1:=HB1.out.size;clear hb1;cases it with
   | false=>
     have HR:=Lib.hid (HBare'.out rfl)
     go_wp2_with fail
     go_ret3
     exact⟨HB1.out,by rw[HR.out];rfl⟩
   | true=>
     have HCh:=Lib.hid (HChain'.out rfl);obtain⟨t,ht,hf⟩:=HIs.out rfl;have HR:=Lib.hid (HCh.out t ht);clear HCh HChain' HBare' HIs
     go_wp2_with fail
     refine(HPa.out _ HB1.out).mono ?_;clear HPa;rintro e w2 ⟨hb2,⟨hn,_⟩|⟨t',v,ht',rfl,hvl⟩⟩
     ·rw[ht]at hn;cases hn
     ·obtain rfl:t=t':=by rw[ht]at ht';injection ht'
      have HSk:=Lib.hid (seeks_chain HR.out);have hsm:=small_of hf;have HSm:Hid (∀ x∈chainEn t,Small x):=Lib.hid fun x hx=>by
       rcases List.mem_append.1 hx with h|h
       ·exact small_chain hsm x h
       ·rw[List.mem_singleton.1 h];exact small_en
      have hc6:=chain_six hsm;have HCE:Hid (chainEn t=chainOf t++[enTg]):=Lib.hid rfl;have HC:Hid (∀ W,Below w2.heap.size w2 W→Calls Tryz.prog 35 #[.agg #[.string t.lang,.string t.script,.string t.region,v]] W fun e w'=>Below W.heap.size W w'∧∃ u,e=.returned (.tuple #[u,.nilIface])∧TagRow W.heap.size w' u (chainOf t)):=Lib.hid fun W hW=>
       chain_ok (t,v) W (small_in hsm ((hvl.below Enc.str_laws hW).mono Enc.str_laws (Nat.le_refl _) hW.size)) hf
      have HB2:=Lib.hid (HB1.out.trans (hb2.mono hs1));have hs2:=HB2.out.size;obtain⟨A7,c7,rfl,_⟩:=hvl.form;generalize chainEn t=CE at *;generalize chainOf t=CO at *;obtain⟨tl,ts,tr,tv⟩:=t;dsimp only at HC ⊢;clear hb2 hvl ht hf hsm HR
      go_wp2_with fail
      refine(HC.out _ ((Below.refl _ _).alloc (Nat.le_refl _) _)).mono ?_;clear HC;rintro e w3 ⟨hb3,u,rfl,ps,hps,hrow⟩;have hb3w:Below w2.heap.size w2 w3:=((Below.refl w2.heap.size w2).alloc (Nat.le_refl _) _).trans (hb3.mono (by simp))
      have HB3:=Lib.hid (HB2.out.trans (hb3w.mono hs2));have hs3:=HB3.out.size;simp only[World.size_alloc]at hrow;have hbase3:w2.heap.size+1≤w3.heap.size:=by have:=hb3.size;simpa using this
      obtain⟨B7,d7,rfl,_⟩:=own_slice hrow.own;have hpl:ps.length≤6:=by have:=congrArg List.length hps;simp at this;omega
      have hr3:=hrow.keep (w':=w3.alloc (.cells #[.string ⟨#[101,110]⟩,.string ⟨#[]⟩,.string ⟨#[]⟩,.slice none 0 0] 44)) fun g _ hg=>Below.heap_alloc _ _ _ hg;have hnX:∀ q u,([Value.string ⟨#[101,110]⟩,.string ⟨#[]⟩,.string ⟨#[]⟩,.slice none 0 0]:List Value)[q]? =some u→(w3.alloc (.cells #[.string ⟨#[101,110]⟩,.string ⟨#[]⟩,.string ⟨#[]⟩,.slice none 0 0] 44)).cell? ⟨w3.heap.size,0+q,none⟩=some u:=fun q u hq=>by
       rw[Nat.zero_add,(Blk.new w3 44 #[.string ⟨#[101,110]⟩,.string ⟨#[]⟩,.string ⟨#[]⟩,.slice none 0 0]).cell q];simpa using hq
      have HR3:=Lib.hid hr3;have HnX:=Lib.hid hnX;have HPs:=Lib.hid hps;clear hb3 hb3w hrow hr3 hnX hps
      go_wp2_with (at_builtin;refine wpList_append_any rfl _ _ 87 rfl (w2.heap.size+1) 44 Tryz.underlying87 info_tag rfl (by decide) (flatT ps) rfl HR3.out.own [.string ⟨#[101,110]⟩,.string ⟨#[]⟩,.string ⟨#[]⟩,.slice none 0 0] rfl rfl (.inr ⟨_,_,rfl,HnX.out⟩) (by simp[Value.oneCell']) (by unfold maxLen;omega) (by omega) (by simp;omega) ?_)
      intro v4 w4 hown hgrow _;have hq1:VarRow (w2.heap.size+1) (w3.alloc (.cells #[.string ⟨#[101,110]⟩,.string ⟨#[]⟩,.string ⟨#[]⟩,.slice none 0 0] 44)) (enTg,.slice none 0 0):=own_nil;have hr4:=Rowed.push HR3.out hq1 (fun p _ h=>absurd h (by simp[enTg])) hgrow hown
      have hl4:=hr4.list (lo:=0) (hi:=w4.heap.size) (Nat.zero_le _) (Nat.le_refl _);have hce:(ps++[(enTg,Value.slice none 0 0)]).map Prod.fst=CE:=by rw[List.map_append,HPs.out,HCE.out];rfl
      rw[hce]at hl4;obtain⟨B8,d8,rfl,_⟩:=hl4.form;have HL4:=Lib.hid hl4;have HB4:=Lib.hid ((HB3.out.alloc hs3 _).grown hgrow (by simp;omega) (fun k hk=>by have:=(own_lt HR3.out.own hk).1;omega))
      have hs4:=HB4.out.size;have hcel:CE.length≤7:=by rw[HCE.out];simp;omega
      clear hown hgrow hq1 hr4 hl4 hce HR3 HnX HPs HCE
      go_wp2_with fail
      go_loopw [16,17,18,20,65] (fun _ _ _ _ i wr=>∃ k:Nat,k≤CE.length∧i=.int .i64 k∧(∀ q,q < k→tagAt l CE key q=none)∧Below w4.heap.size w4 wr) (fun _ _ _ _ i _=>CE.length - (intOf i).toNat)
      case atStart=>exact⟨0,Nat.zero_le _,rfl,fun _ h=>absurd h (by omega),Below.refl _ _⟩
      case round=>
       obtain⟨k,hk,rfl,hno,hbr⟩:=hrel;have HNo2:=Lib.hid hno;have HBr2:=Lib.hid hbr;have hbs2:=hbr.size;clear hno hbr
       by_cases hkl:k < CE.length
       ·obtain⟨b8,o8,V8,rfl,_,p8,x0,x1,x2,x3,xl8⟩:=(HL4.out.below Enc.tag_laws HBr2.out).tagAt k hkl;have hsx:=HSm.out _ (List.getElem_mem hkl);have HHit:=Lib.hid (HSk.out.hit k hkl HNo2.out);have HMiss:=Lib.hid (HSk.out.miss k hkl);generalize CE[k]=X at *;obtain⟨A9,c9,rfl,_⟩:=xl8.form;have HTx:Hid (∀ W,Below wr.heap.size wr W→Calls Tryz.prog 36 #[.agg #[.string X.lang,.string X.script,.string X.region,.slice A9 X.vars.length c9]] W fun e w'=>e=.returned (.string (tagText X))∧Below W.heap.size W w'):=Lib.hid fun W hW=>
         text_small (X,.slice A9 X.vars.length c9) W hsx (lo:=0) ((xl8.keep Enc.str_laws (Alk.mono (Alk.of_below hW) (Nat.zero_le _) hbs2)).mono Enc.str_laws (Nat.le_refl _) (by have:=hW.size;omega))
        generalize tagText X=TX at *;obtain⟨xl,xs,xr,xv⟩:=X;dsimp only at x0 x1 x2 x3 HTx;have h8l:b8 < wr.heap.size:=by omega
        clear xl8 hsx;obtain⟨wo,rfl⟩:∃ wo:World,wo=wr:=⟨_,rfl⟩
        go_wp2_with fail
        obtain⟨wm,hwm⟩:∃ wm,wm=wo.alloc (.cells #[.string xl,.string xs,.string xr,.slice A9 xv.length c9] 44):=⟨_,rfl⟩;obtain⟨n16,hn16⟩:∃ n16,n16=wo.heap.size:=⟨_,rfl⟩;have mm:Blk wm n16 44 #[.string xl,.string xs,.string xr,.slice A9 xv.length c9]:=by rw[hwm,hn16];exact Blk.new _ _ _
        have HBm:=Lib.hid (show Below n16 wo wm by rw[hwm,hn16];exact(Below.refl _ _).alloc (Nat.le_refl _) _)
        have hn16l:n16 < wm.heap.size:=mm.lt;have hn16e:n16≤wo.heap.size:=Nat.le_of_eq hn16;have hn16g:w4.heap.size≤n16:=by omega
        rw[←hwm,←hn16];rw[←hn16]at HTx;have HMm:=Lib.hid mm;have HBmw:=Lib.hid (show Below w4.heap.size w4 wm from HBr2.out.trans (HBm.out.mono hn16g));have hsm:=HBmw.out.size;clear mm hwm hn16 x0 x1 x2 x3
        go_loopw [17,18,20,71] (fun _ _ _ i wr=>∃ j:Nat,j≤l.length∧i=.int .i64 j∧(∀ q,q < j→hitAt l TX key q=none)∧Below wm.heap.size wm wr) (fun _ _ _ i _=>l.length - (intOf i).toNat)
        case atStart=>exact⟨0,Nat.zero_le _,rfl,fun _ h=>absurd h (by omega),Below.refl _ _⟩
        case round=>
         obtain⟨j,hj,rfl,hno,hbr⟩:=hrel;have HNo3:=Lib.hid hno;have HBr3:=Lib.hid hbr;have hbs3:=hbr.size;clear hno hbr
         by_cases hjl:j < l.length
         ·have HBw3:=Lib.hid (HB4.out.trans ((HBmw.out.trans (HBr3.out.mono hsm)).mono hs4));obtain⟨b,o,V,rfl,hbl,y0,y1,hin⟩:=(HL.out.below HBw3.out).bunAt j hjl;have HHj:=Lib.hid (hitAt_is (nm:=TX) (key:=key) j hjl);have HHitj:=Lib.hid (HHit.out j hjl HNo3.out);generalize l[j]=B at *;obtain⟨elo,hel⟩:=hin.lo;obtain⟨A10,c10,hV,_⟩:=hel.form;subst hV;have HEl:=Lib.hid hel;have hbll:=hin.len;clear hel;obtain⟨bt,bl⟩:=B;dsimp only at y0 y1 HHj HEl hbll;clear hin
          go_wp2_with fail
          obtain⟨wn,hwn⟩:∃ wn,wn=wr.alloc (.cells #[.string bt,.slice A10 bl.length c10] 49):=⟨_,rfl⟩;obtain⟨n18,hn18⟩:∃ n18,n18=wr.heap.size:=⟨_,rfl⟩;have mn:Blk wn n18 49 #[.string bt,.slice A10 bl.length c10]:=by rw[hwn,hn18];exact Blk.new _ _ _
          have HBn:=Lib.hid (show Below wr.heap.size wr wn by rw[hwn];exact(Below.refl _ _).alloc (Nat.le_refl _) _)
          have m16:Blk wn n16 44 #[.string xl,.string xs,.string xr,.slice A9 xv.length c9]:=(HMm.out.below HBr3.out hn16l).below HBn.out (by omega)
          have hS:wn.cell? ⟨n18,0,none⟩=some (.string bt)∧wn.cell? ⟨n16,0,none⟩=some (.string xl)∧wn.cell? ⟨n16,1,none⟩=some (.string xs)∧wn.cell? ⟨n16,2,none⟩=some (.string xr)∧wn.cell? ⟨n16,3,none⟩=some (.slice A9 xv.length c9):=by
           have z:=mn.cell 0;have z0:=m16.cell 0;have z1:=m16.cell 1;have z2:=m16.cell 2;have z3:=m16.cell 3;simp at z z0 z1 z2 z3;exact⟨z,z0,z1,z2,z3⟩
          have hbwn:Below n16 wo wn:=HBm.out.trans ((HBr3.out.trans (HBn.out.mono hbs3)).mono (Nat.le_of_lt hn16l));have hn18l:=mn.lt;have hn16n:=m16.lt;have hn18g:wr.heap.size≤n18:=Nat.le_of_eq hn18.symm;have hn18h:n18≤wr.heap.size:=Nat.le_of_eq hn18;rw[←hwn,←hn18];have HMn:=Lib.hid mn;have HTn:=Lib.hid (HTx.out _ hbwn.drew);clear mn m16 hwn hn18 y0 y1 hbwn
          go_region_held3 (fun w'=>w'.cell? ⟨n18,0,none⟩=some (.string bt)∧w'.cell? ⟨n16,0,none⟩=some (.string xl)∧w'.cell? ⟨n16,1,none⟩=some (.string xs)∧w'.cell? ⟨n16,2,none⟩=some (.string xr)∧w'.cell? ⟨n16,3,none⟩=some (.slice A9 xv.length c9)) (first|exact hS|exact hS5)
           (first
             | (go_at_call 36
                refine HTn.out.mono ?_;rintro e w5 ⟨rfl,hb5⟩;have hS5:w5.cell? ⟨n18,0,none⟩=some (.string bt)∧w5.cell? ⟨n16,0,none⟩=some (.string xl)∧w5.cell? ⟨n16,1,none⟩=some (.string xs)∧w5.cell? ⟨n16,2,none⟩=some (.string xr)∧w5.cell? ⟨n16,3,none⟩=some (.slice A9 xv.length c9):=⟨(hb5.cell (p:=⟨n18,0,none⟩) hn18l).trans hS.1,(hb5.cell (p:=⟨n16,0,none⟩) hn16n).trans hS.2.1,(hb5.cell (p:=⟨n16,1,none⟩) hn16n).trans hS.2.2.1,(hb5.cell (p:=⟨n16,2,none⟩) hn16n).trans hS.2.2.2.1,(hb5.cell (p:=⟨n16,3,none⟩) hn16n).trans hS.2.2.2.2⟩))
          have HBn5:=Lib.hid (HBn.out.trans ((below_undrew hb5).mono HBn.out.size));have HBm5:=Lib.hid (HBr3.out.trans (HBn5.out.mono hbs3));have mn5:=HMn.out.below (below_undrew hb5) hn18l;have z1:=mn5.cell 1;simp at z1;have hs5:=HBm5.out.size;have hs5r:=HBn5.out.size;clear hS hS5 hb5 HTn mn5;obtain⟨wo5,rfl⟩:∃ wo5:World,wo5=wr:=⟨_,rfl⟩
          go_wp2_with fail
          ·have hbt':(bt.toList == TX.toList)=false:=by
            have h:(!bt.toList == TX.toList)=true:=by assumption
            simpa using h
           have HHn:Hid (hitAt l TX key j=none):=Lib.hid (by
            have h1:eqs bt TX=false:=hbt';rw[HHj.out,h1];rfl)
           exact⟨⟨j+1,by omega,by go_num,fun q hq=>by
            rcases Nat.lt_or_eq_of_le (Nat.le_of_lt_succ hq)with h|h
            ·exact HNo3.out q h
            ·subst h;exact HHn.out,HBm5.out⟩,by simp[intOf];omega⟩
          ·have hbt:(bt.toList == TX.toList)=true:=by
            have h:(!bt.toList == TX.toList)=false:=by assumption
            simpa using h
           have HHj2:Hid (hitAt l TX key j=(bl.find? (fun e=>eqs e.key key)).map (·.text)):=Lib.hid (by
            have h1:eqs bt TX=true:=hbt;rw[HHj.out,if_pos h1])
           clear hbt
           go_loopw [20,84] (fun _ i wr=>∃ m:Nat,m≤bl.length∧i=.int .i64 m∧(∀ q (h:q < bl.length),q < m→eqs bl[q].key key=false)∧Below w5.heap.size w5 wr) (fun _ i _=>bl.length - (intOf i).toNat)
           case atStart=>exact⟨0,Nat.zero_le _,rfl,fun _ _ h=>absurd h (by omega),Below.refl _ _⟩
           case round=>
            obtain⟨m,hm,rfl,hno,hbr⟩:=hrel;have HNo4:=Lib.hid hno;have HBr4:=Lib.hid hbr;have hbs4:=hbr.size;clear hno hbr
            by_cases hml:m < bl.length
            ·have hel:=HEl.out.below Enc.ent_laws (HBn5.out.trans (HBr4.out.mono hs5r));obtain⟨eb,eo,rfl,_,q2,e0,e1⟩:=hel.entAt m hml;have HFa:=Lib.hid (find_at (key:=key) m hml HNo4.out);have HNx:Hid (eqs bl[m].key key=false→∀ q (h:q < bl.length),q < m+1→eqs bl[q].key key=false):=Lib.hid fun h0 q hq hq2=>by
              rcases Nat.lt_or_eq_of_le (Nat.le_of_lt_succ hq2)with h|h
              ·exact HNo4.out q hq h
              ·subst h;exact h0
             generalize bl[m]=E at *;obtain⟨ky,tx⟩:=E;dsimp only at e0 e1 HFa HNx;have hebl:eb < wr.heap.size:=by omega
             clear hel z1
             by_cases hke:(ky.toList == key.toList)=true
             ·have HRf:=Lib.hid (HHitj.out tx (by rw[HHj2.out,HFa.out hke];rfl))
              go_wp2_with fail
              have HBall:Hid (∀ nq:Nat,Below w.heap.size w ((wr.alloc (.cells #[.string ky,.string tx] 70)).drewN nq)):=Lib.hid fun nq=>below_drawn ((HB4.out.trans ((HBmw.out.trans ((HBm5.out.trans (HBr4.out.mono hs5)).mono hsm)).mono hs4)).alloc (by omega) _) nq
              go_quiet (fail)
              go_wp2
              go_ret3
              exact⟨HBall.out _,by rw[HRf.out];rfl⟩
             ·have hke':(ky.toList == key.toList)=false:=by simpa using hke
              have HNx2:=Lib.hid (HNx.out hke');clear hke HNx HFa
              go_wp2_with fail
              exact⟨⟨m+1,by omega,by go_num,HNx2.out,HBr4.out.alloc hbs4 _⟩,by simp[intOf];omega⟩
            ·obtain rfl:m=bl.length:=by omega
             have HHn:Hid (hitAt l TX key j=none):=Lib.hid (by rw[HHj2.out,find_no (fun q h=>HNo4.out q h h)];rfl)
             have HBx:=Lib.hid (HBm5.out.trans (HBr4.out.mono hs5))
             go_wp2_with fail
             exact⟨⟨j+1,by omega,by go_num,fun q hq=>by
              rcases Nat.lt_or_eq_of_le (Nat.le_of_lt_succ hq)with h|h
              ·exact HNo3.out q h
              ·subst h;exact HHn.out,HBx.out⟩,by simp[intOf];omega⟩
         ·obtain rfl:j=l.length:=by omega
          have HMs:=Lib.hid (HMiss.out HNo3.out);have HBx:=Lib.hid (HBmw.out.trans (HBr3.out.mono hsm))
          go_wp2_with fail
          exact⟨⟨k+1,by omega,by go_num,fun q hq=>by
           rcases Nat.lt_or_eq_of_le (Nat.le_of_lt_succ hq)with h|h
           ·exact HNo2.out q h
           ·subst h;exact HMs.out,HBx.out⟩,by simp[intOf];omega⟩
       ·obtain rfl:k=CE.length:=by omega
        have HRn:=Lib.hid (HSk.out.none HNo2.out)
        go_wp2_with fail
        go_ret3
        exact⟨HB4.out.trans (HBr2.out.mono hs4),by rw[HRn.out];rfl⟩
end Go.Proofs.YtpfmmbbggcghiaaGreatDoor
/- What a server says, plainly; the names of its messages. -/

namespace Go.Proofs.YtpfmmbbggcghiaaGreatDoor
open Go.RowKit
def textAt (l:List Bun) (i:Nat) (key:ByteArray):Option ByteArray:=(l[i]?).bind fun b=>(b.ents.find? (fun e=>eqs e.key key)).map (·.text)
theorem hit_text {l:List Bun} {nm key s:ByteArray} {i:Nat} (h:hitAt l nm key i=some s):textAt l i key=some s:=by
 unfold hitAt at h;unfold textAt;cases hb:l[i]? with
 | none=>rw[hb]at h;cases h
 | some b=>
   rw[hb]at h;have h:hitOf b nm key=some s:=h;unfold hitOf at h;split at h
   ·exact h
   ·cases h
theorem find_text {l:List Bun} {name key:ByteArray} (h:(findIn l name key).err=0):(findIn l name key).at_ < l.length∧textAt l (findIn l name key).at_ key=some (findIn l name key).text:=by
 unfold findIn at h ⊢;split at h
 ·rename_i h0
  rw[if_pos h0];split at h
  ·rename_i h1
   rw[if_pos h1];cases ht:parseTag name with
   | none=>
     rw[ht]at h;have h:(3:Int)=0:=h;exact absurd h (by decide)
   | some t=>
     rw[ht]at h;dsimp only at h ⊢;cases hc:findChain l t key with
     | none=>
       rw[hc]at h;exact absurd h (by decide)
     | some q=>
       obtain⟨k,i,s⟩:=q;dsimp only;have h2:=(firstS_some hc).2.2;unfold tagAt at h2;cases hk:(chainEn t)[k]? with
       | none=>rw[hk]at h2;cases h2
       | some x=>
         rw[hk]at h2;have h3:findTag l (tagText x) key=some (i,s):=h2;obtain⟨h4,_,h5⟩:=firstS_some h3;exact⟨h4,hit_text h5⟩
  ·exact absurd h (by decide)
 ·rename_i h0
  exact absurd h h0
def nmL (i:Nat) (key:ByteArray):List UInt8:=Lib.itoa (i:Int)++32::bts key
theorem app_inj {a a' b b':List UInt8} (h1:(32:UInt8)∉a) (h2:(32:UInt8)∉a') (h:a++32::b=a'++32::b'):a=a'∧b=b':=by
 induction a generalizing a' with
 | nil=>
   cases a' with
   | nil=>exact⟨rfl,by injection h⟩
   | cons c r=>
     injection h with h3 _;exact absurd (List.mem_cons.2 (.inl h3)) h2
 | cons c r ih=>
   cases a' with
   | nil=>
     injection h with h3 _;exact absurd (List.mem_cons.2 (.inl h3.symm)) h1
   | cons c' r'=>
     injection h with h3 h4;obtain⟨h5,h6⟩:=ih (fun hh=>h1 (List.mem_cons_of_mem _ hh)) (fun hh=>h2 (List.mem_cons_of_mem _ hh)) h4;exact⟨by rw[h3,h5],h6⟩
theorem itoa_space:∀ i,i < 20→(32:UInt8)∉Lib.itoa ((i:Nat):Int):=by decide +kernel
theorem itoa_inj:∀ i,i < 20→∀ j,j < 20→Lib.itoa ((i:Nat):Int)=Lib.itoa ((j:Nat):Int)→i=j:=by decide +kernel
theorem itoa_short:∀ i,i < 20→(Lib.itoa ((i:Nat):Int)).length≤2:=by decide +kernel
theorem nm_inj {i j:Nat} {k k':ByteArray} (hi:i < 20) (hj:j < 20) (h:nmL i k=nmL j k'):i=j∧k=k':=by
 obtain⟨h1,h2⟩:=app_inj (itoa_space i hi) (itoa_space j hj) h;refine⟨itoa_inj i hi j hj h1,?_⟩;have h3:=congrArg str h2;rwa[str_bts,str_bts]at h3
end Go.Proofs.YtpfmmbbggcghiaaGreatDoor
/- Nodes and cases that are made. -/

namespace Go.Proofs.YtpfmmbbggcghiaaGreatDoor
open Go.RowKit
theorem info_node:(Tryz.prog.info? 126).map (fun i=>(i.zero,i.size,i.bytes))=some (some (.agg #[.int .i64 0,.string ByteArray.empty,.int .i64 0,.slice none 0 0]),4,56):=by kernel_rfl
theorem info_case:(Tryz.prog.info? 189).map (fun i=>(i.zero,i.size,i.bytes))=some (some (.agg #[.string ByteArray.empty,.slice none 0 0]),2,40):=by kernel_rfl
theorem two_newsC (W:World) (a b:Value) (t:TypeId):∀ q u,([a,b]:List Value)[q]? =some u→(W.alloc (.cells #[a,b] t)).cell? ⟨W.heap.size,0+q,none⟩=some u:=fun q u hq=>by
 rw[Nat.zero_add,(Blk.new W t #[a,b]).cell q];simpa using hq
theorem four_newsC (W:World) (a b c d:Value) (t:TypeId):∀ q u,([a,b,c,d]:List Value)[q]? =some u→(W.alloc (.cells #[a,b,c,d] t)).cell? ⟨W.heap.size,0+q,none⟩=some u:=fun q u hq=>by
 rw[Nat.zero_add,(Blk.new W t #[a,b,c,d]).cell q];simpa using hq
theorem casesR_len {β:Type} (x:NdF β):(casesR x).length≤x.cases.length:=by
 unfold casesR;split
 ·exact Nat.le_refl _
 ·exact Nat.zero_le _
end Go.Proofs.YtpfmmbbggcghiaaGreatDoor
/- code.copied: the walk; at any depth. -/

namespace Go.Proofs.YtpfmmbbggcghiaaGreatDoor
open Go.RowKit
def cpyX {β:Type} (g:List β→List β) (x:NdF β):NdF β:=⟨x.kind,x.text,x.off,(casesR x).map fun c=>(c.1,g c.2)⟩
def cpyN:(n:Nat)→List (Nd n)→List (Nd n)
 | 0,_=>[]
 | n+1,m=>((m:List (NdF (Nd n))).map (cpyX (cpyN n)):List (NdF (Nd n)))
set_option maxHeartbeats 12800000 in
set_option maxRecDepth 100000 in
theorem cpy_walk {β:Type} {E:Enc β} (hE:E.Laws) (g:List β→List β) (m:List (NdF β)) (v:Value) (lo:Nat) (w:World) (hv:ListOk (Enc.nodeF E) w lo w.heap.size v m) (hl:m.length≤10000000) (hcl:Hid (∀ x∈m,x.cases.length≤10000000))
 (IH:Hid (∀ x∈m,∀ c∈casesR x,∀ W U,Below w.heap.size w W→ListOk E W lo W.heap.size U c.2→Calls Tryz.prog 53 #[U] W fun e w'=>Below W.heap.size W w'∧∃ u,e=.returned u∧ListOk E w' W.heap.size w'.heap.size u (g c.2))):
 Calls Tryz.prog 53 #[v] w fun e w'=>Below w.heap.size w w'∧∃ out xs,e=.returned out∧xs.map CN.plain=m.map (cpyX g)∧Sep E w.heap.size w' out xs:=by
 obtain⟨A,c,rfl,hcap⟩:=hv.form;have HV:Hid (∀ W,Below w.heap.size w W→ListOk (Enc.nodeF E) W lo w.heap.size (.slice A m.length c) m):=Lib.hid fun W hW=>hv.below (Enc.nodeF_laws hE) hW;clear hv
 go_enter Tryz.func53,Tryz.ntmps53
 go_wp2_with fail
 go_loopw [3,11] (fun o i wr=>∃(j:Nat) (xs:List (CN β)),j≤m.length∧i=.int .i64 (j:Int)∧Hid (xs.map CN.plain=(m.take j).map (cpyX g))∧Sep E w.heap.size wr o xs∧Below w.heap.size w wr) (fun _ i _=>m.length - (intOf i).toNat)
 case atStart=>exact⟨0,[],Nat.zero_le _,rfl,Lib.hid rfl,Sep.nil,Below.refl _ _⟩
 case round=>
  obtain⟨j,xs,hj,rfl,HX,hsep,hb⟩:=hrel;obtain⟨wo,rfl⟩:∃ wo:World,wo=wr:=⟨_,rfl⟩;have HS:=Lib.hid hsep;have HB:=Lib.hid hb;have hbs:=hb.size;obtain⟨OA,Oc,rfl,_⟩:=own_slice hsep.row
  by_cases hlt:j < m.length
  ·have i1:(0:Int)≤(j:Int):=Int.natCast_nonneg j;have i2:(j:Int) < (m.length:Int):=by omega
   have hmem:m[j]∈m:=List.getElem_mem hlt;have HTk:Hid ((m.take (j+1)).map (cpyX g)=(m.take j).map (cpyX g)++[cpyX g m[j]]):=Lib.hid (by rw[List.take_succ_eq_append_getElem hlt,List.map_append];rfl)
   have hxl:xs.length=j:=by
    have:=congrArg List.length HX.out;rw[List.length_map,List.length_map,List.length_take]at this;omega
   have hxl2:xs.length≤10000000:=by omega
   obtain⟨b0,o0,V,rfl,hb0,hb0',x0,x1,x2,x3,hV⟩:=(HV.out _ hb).nodeAt j hlt;obtain⟨VA,Vc,rfl,_⟩:=hV.form;have HXc:Hid (∀ W,Below wo.heap.size wo W→W.cell? ⟨b0,o0+j*4,none⟩=some (.int .i64 m[j].kind)∧W.cell? ⟨b0,o0+j*4+1,none⟩=some (.string m[j].text)∧W.cell? ⟨b0,o0+j*4+2,none⟩=some (.int .i64 m[j].off)∧W.cell? ⟨b0,o0+j*4+3,none⟩=some (.slice VA m[j].cases.length Vc)):=Lib.hid fun W hW=>
    ⟨(hW.cell (p:=⟨b0,_,none⟩) (by show b0 < _;omega)).trans x0,(hW.cell (p:=⟨b0,_,none⟩) (by show b0 < _;omega)).trans x1,(hW.cell (p:=⟨b0,_,none⟩) (by show b0 < _;omega)).trans x2,(hW.cell (p:=⟨b0,_,none⟩) (by show b0 < _;omega)).trans x3⟩
   have HCs:Hid (∀ W,Below w.heap.size w W→Calls Tryz.prog 91 #[.agg #[.int .i64 m[j].kind,.string m[j].text,.int .i64 m[j].off,.slice VA m[j].cases.length Vc]] W fun e w'=>(∃ V',e=.returned V'∧(V'=.slice VA m[j].cases.length Vc∨V'=.slice none 0 0)∧ListOk (Enc.cas E) W lo w.heap.size V' (casesR m[j]))∧Below W.heap.size W w'):=Lib.hid fun W hW=>
    Cases_any (E:=E) m[j] (.slice VA m[j].cases.length Vc) lo w.heap.size W (hV.keep (Enc.cas_laws hE) fun p h1 h2=>(hW.cell h2).trans (HB.out.cell h2).symm)
   have HI:Hid (∀ c∈casesR m[j],∀ W U,Below w.heap.size w W→ListOk E W lo W.heap.size U c.2→Calls Tryz.prog 53 #[U] W fun e w'=>Below W.heap.size W w'∧∃ u,e=.returned u∧ListOk E w' W.heap.size w'.heap.size u (g c.2)):=Lib.hid (IH.out _ hmem);have hcj:(casesR m[j]).length≤10000000:=Nat.le_trans (casesR_len _) (hcl.out _ hmem);have HCx:Hid (cpyX g m[j]=⟨m[j].kind,m[j].text,m[j].off,(casesR m[j]).map fun c=>(c.1,g c.2)⟩):=Lib.hid rfl;clear hV hmem hb hsep IH hcl hxl;generalize cpyX g m[j]=cx at *;generalize casesR m[j]=cs at *;generalize m[j]=x at *;obtain⟨y0,y1,y2,y3⟩:=x;dsimp only at x0 x1 x2 x3 HXc HTk HCs HI hcj HCx;obtain⟨W1,eW1⟩:∃ W1,W1=wo.alloc (.cells #[.int .i64 y0,.string y1,.int .i64 y2,.slice VA y3.length Vc] 126):=⟨_,rfl⟩;obtain⟨W2,eW2⟩:∃ W2,W2=W1.alloc (.cells #[.int .i64 y0,.string y1,.int .i64 y2,.slice none 0 0] 126):=⟨_,rfl⟩;have hs1:W1.heap.size=wo.heap.size+1:=by rw[eW1,World.size_alloc]
   have hb1':Below wo.heap.size wo W1:=by rw[eW1];exact(Below.refl _ _).alloc (Nat.le_refl _) _
   have hm1:Blk W1 wo.heap.size 126 #[.int .i64 y0,.string y1,.int .i64 y2,.slice VA y3.length Vc]:=by rw[eW1];exact Blk.new wo _ _
   have hb2':Below wo.heap.size wo W2:=by rw[eW2];exact hb1'.alloc (by omega) _
   have hm2:Blk W2 wo.heap.size 126 #[.int .i64 y0,.string y1,.int .i64 y2,.slice VA y3.length Vc]:=by rw[eW2];exact hm1.alloc _
   have hbk:Blk W2 (wo.heap.size+1) 126 #[.int .i64 y0,.string y1,.int .i64 y2,.slice none 0 0]:=by rw[eW2,←hs1];exact Blk.new W1 _ _
   have hs2:W2.heap.size=wo.heap.size+2:=by rw[eW2,World.size_alloc,hs1]
   have u0:=(hm1.cell 0).trans (show _=some (.int .i64 y0)from rfl);have u1:=(hm1.cell 1).trans (show _=some (.string y1)from rfl);have u2:=(hm1.cell 2).trans (show _=some (.int .i64 y2)from rfl);have v0:=(hm2.cell 0).trans (show _=some (.int .i64 y0)from rfl);have v1:=(hm2.cell 1).trans (show _=some (.string y1)from rfl);have v2:=(hm2.cell 2).trans (show _=some (.int .i64 y2)from rfl);have v3:=(hm2.cell 3).trans (show _=some (.slice VA y3.length Vc)from rfl);have HBc:=Lib.hid hb2';have HBk:=Lib.hid hbk;have HBw:=Lib.hid (HB.out.trans (hb2'.mono hbs));have HCl:=Lib.hid (HCs.out _ HBw.out);have HW1:=Lib.hid eW1;have HW2:=Lib.hid eW2;have hbs2:=hb2'.size;clear HXc HCs hb1' hb2' hbk hm1 hm2 eW1 eW2
   go_upto_region 5 with fail
   rw[←HW1.out]
   go_upto_region 6 with fail
   try rw[←hs1]
   rw[←HW2.out]
   go_wp2_with fail
   refine HCl.out.mono ?_;clear HCl;rintro e w1 ⟨⟨V',rfl,_,hV'⟩,hb1⟩;have hV1:ListOk (Enc.cas E) w1 lo w.heap.size V' cs:=hV'.keep (Enc.cas_laws hE) ((Alk.of_below hb1).mono (Nat.le_refl _) HBw.out.size);have HN0:Hid (NSt E wo (wo.heap.size+1) y0 y1 y2 (.slice none 0 0) [] w1):=Lib.hid ⟨HBc.out.trans (hb1.mono hbs2),HBk.out.below hb1 HBk.out.lt,own_nil,(fun c hc=>nomatch hc),Nat.le_succ _⟩;obtain⟨CA,Cc,rfl,_⟩:=hV1.form;have HV1:Hid (∀ W,Below wo.heap.size w1 W→ListOk (Enc.cas E) W lo w.heap.size (.slice CA cs.length Cc) cs):=Lib.hid fun W hW=>hV1.keep (Enc.cas_laws hE) ((Alk.of_below hW).mono (Nat.le_refl _) hbs);clear hV' hV1 hb1 x0 x1 x2 x3 HBc HBk HBw
   go_wp2_with fail
   go_loopw [25] (fun k wq=>∃(q:Nat) (VV:Value) (bods:List (CB β)),q≤cs.length∧k=.int .i64 (q:Int)∧Hid (bods.map CB.plain=(cs.take q).map fun c=>(c.1,g c.2))∧NSt E wo (wo.heap.size+1) y0 y1 y2 VV bods wq∧Below wo.heap.size w1 wq) (fun k _=>cs.length - (intOf k).toNat)
   case atStart=>exact⟨0,_,[],Nat.zero_le _,rfl,Lib.hid rfl,HN0.out,Below.refl _ _⟩
   case round=>
    obtain⟨q,VV,bods,hq,rfl,HBp,hN,hbq⟩:=hrel;have HN:=Lib.hid hN;have HBq:=Lib.hid hbq;have hwo:=hN.below.size;have hyl:=hN.box.lt
    by_cases hlq:q < cs.length
    ·have i3:(0:Int)≤(q:Int):=Int.natCast_nonneg q;have i4:(q:Int) < (cs.length:Int):=by omega
     have hmq:cs[q]∈cs:=List.getElem_mem hlq;have hbl:bods.length=q:=by
      have:=congrArg List.length HBp.out;rw[List.length_map,List.length_map,List.length_take]at this;omega
     have HPl:Hid ((cs.take (q+1)).map (fun c=>(c.1,g c.2))=(cs.take q).map (fun c=>(c.1,g c.2))++[(cs[q].1,g cs[q].2)]):=Lib.hid (by rw[List.take_succ_eq_append_getElem hlq,List.map_append];rfl)
     obtain⟨b1,o1,U,rfl,r1,r2,z0,z1,hU⟩:=(HV1.out _ hbq).casAt q hlq;obtain⟨UA,Uc,rfl,_⟩:=hU.form;obtain⟨W3,eW3⟩:∃ W3,W3=wr.alloc (.cells #[.string cs[q].1,.slice UA cs[q].2.length Uc] 189):=⟨_,rfl⟩;have hs3:W3.heap.size=wr.heap.size+1:=by rw[eW3,World.size_alloc]
     have hb3:Below wr.heap.size wr W3:=by rw[eW3];exact(Below.refl _ _).alloc (Nat.le_refl _) _
     have hk3:Blk W3 wr.heap.size 189 #[.string cs[q].1,.slice UA cs[q].2.length Uc]:=by rw[eW3];exact Blk.new wr _ _
     have kc0:=(hk3.cell 0).trans (show _=some (.string cs[q].1)from rfl);have kc1:=(hk3.cell 1).trans (show _=some (.slice UA cs[q].2.length Uc)from rfl);have hN3:=hN.on hE hb3;have HN3:=Lib.hid hN3;have HBq3:Hid (Below wo.heap.size w1 W3):=Lib.hid (hbq.trans (hb3.mono (by omega)))
     have hkl:wr.heap.size < W3.heap.size:=by omega
     have hyl3:=hN3.box.lt;have hwo3:=hN3.below.size;have HCl:Hid (Calls Tryz.prog 53 #[.slice UA cs[q].2.length Uc] W3.drew fun e w'=>Below W3.drew.heap.size W3.drew w'∧∃ u,e=.returned u∧ListOk E w' W3.drew.heap.size w'.heap.size u (g cs[q].2)):=Lib.hid
      (HI.out _ hmq W3.drew _ (HB.out.trans (hN3.below.mono hbs)).drew ((ListOk.keep (w':=W3.drew) hE hU fun p _ h2=>hb3.cell (p:=p) (by omega)).mono hE (Nat.le_refl _) (by show _≤W3.heap.size;omega)))
     have d3:W3.cell? ⟨wo.heap.size+1,3,none⟩=some VV:=(hN3.box.cell 3).trans rfl;have hbl2:bods.length≤10000000:=by omega
     have HW3:=Lib.hid eW3;clear hU hmq hbq hN hbl hb3 hk3 hN3 eW3 HN HBq;generalize cs[q]=cc at *;obtain⟨ck,cb⟩:=cc;dsimp only at z0 z1 HCl HPl kc0 kc1 HW3;have hb1l:b1 < wr.heap.size:=by omega
     go_upto_region 9 with fail
     rw[←HW3.out]
     go_region_law
      (first
        | (refine step_append_ownN (by rfl) _ _ 124 (by rfl) (wo.heap.size+1+1) 189 Tryz.underlying124 info_case rfl (by decide) (flatC bods) (by rfl) HN6.out.row [.string ck,.slice A5 (g cb).length c5] (by rfl) (by rfl) (.inr ⟨_,_,rfl,two_newsC w5 _ _ _⟩) (by simp[Value.oneCell']) (by unfold maxLen;omega) (by omega) (by simp;omega) ?_
           intro v7 w7 hown7 hgrow7 ho7;obtain⟨A7,c7,hv7,_⟩:=own_slice hown7;subst hv7;have e3:w7.cell? ⟨wo.heap.size+1,3,none⟩=some VV:=((Blk.cell (t:=126) ((hgrow7.block (wo.heap.size+1) HN6.out.box.lt (fun e=>own_box HN6.out.row (Nat.lt_succ_self _) e.symm)).trans HN6.out.box) 3)).trans rfl;have f3:w7.frozen? ⟨wo.heap.size+1,3,none⟩=false:=Blk.frozen (t:=126) ((hgrow7.block (wo.heap.size+1) HN6.out.box.lt (fun e=>own_box HN6.out.row (Nat.lt_succ_self _) e.symm)).trans HN6.out.box) 3;have HN8:=Lib.hid (HN6.out.push hE (c:=⟨ck,g cb,.slice A5 (g cb).length c5,W3.heap.size,w5.heap.size⟩) HBd.out HAw.out hgrow7 hown7 ho7);have HB8:=Lib.hid (((((HBq3.out.trans (HB5.out.mono hwo3)).alloc (by omega) (.cells #[.string ck,.slice A5 (g cb).length c5] 189)).grown hgrow7 (by simp;omega) (fun r e=>by have:=(own_lt HN6.out.row e).1;omega))).setCell (p:=⟨wo.heap.size+1,3,none⟩) (Nat.le_succ _) (.slice A7 (bods.length+1) c7))
           clear hown7 hgrow7 ho7)
        | (go_simp
           go_at_call 53
           refine HCl.out.mono ?_;rintro e w5 ⟨hb5,u5,rfl,hl5⟩;obtain⟨A5,c5,hu5,_⟩:=hl5.form;subst hu5;have hb6:Below W3.heap.size W3 w5:=below_undrewC hb5;have hz5:=hb6.size;have HN6:Hid (NSt E wo (wo.heap.size+1) y0 y1 y2 VV bods (w5.alloc (.cells #[.string ck,.slice A5 (g cb).length c5] 189))):=Lib.hid ((HN3.out.on hE hb6).on hE ((Below.refl _ _).alloc (Nat.le_refl _) _));have HBd:Hid (BodOk E (wo.heap.size+1+1) (w5.alloc (.cells #[.string ck,.slice A5 (g cb).length c5] 189)) ⟨ck,g cb,.slice A5 (g cb).length c5,W3.heap.size,w5.heap.size⟩):=Lib.hid (BodOk.below hE (W:=w5) ⟨by show _≤W3.heap.size;omega,hl5,Nat.le_refl _⟩ ((Below.refl _ _).alloc (Nat.le_refl _) _))
           have HAw:Hid (away VV W3.heap.size w5.heap.size):=Lib.hid fun r hr=>.inl (own_lt HN3.out.row hr).2;have HB5:=Lib.hid hb6;have d5:w5.cell? ⟨wo.heap.size+1,3,none⟩=some VV:=(hb6.cell (p:=⟨wo.heap.size+1,3,none⟩) hyl3).trans d3;have z5:w5.cell? ⟨wr.heap.size,0,none⟩=some (.string ck):=(hb6.cell (p:=⟨wr.heap.size,_,none⟩) hkl).trans kc0;have d6:(w5.alloc (.cells #[.string ck,.slice A5 (g cb).length c5] 189)).cell? ⟨wo.heap.size+1,3,none⟩=some VV:=(HN6.out.box.cell 3).trans rfl;clear hb5 hb6 hl5))
     all_goals
      go_wp2_with fail
      go_roundw
      case rel=>
       refine⟨q+1,_,_,by omega,by go_num,?_,HN8.out,HB8.out⟩
       exact Lib.hid (by rw[List.map_append,HBp.out,HPl.out];rfl)
      case measure=>simp[intOf];omega
    ·obtain rfl:q=cs.length:=by omega
     have et:cs.take cs.length=cs:=List.take_length;rw[et]at HBp;obtain⟨XA,Xc,hvv,_⟩:=own_slice hN.row;subst hvv;have c0:=(hN.box.cell 0).trans (show _=some (.int .i64 y0)from rfl);have c1:=(hN.box.cell 1).trans (show _=some (.string y1)from rfl);have c2:=(hN.box.cell 2).trans (show _=some (.int .i64 y2)from rfl);have c3:=(hN.box.cell 3).trans (show _=some (.slice XA bods.length Xc)from rfl);have HN2:Hid (NSt E wo (wo.heap.size+1) y0 y1 y2 (.slice XA bods.length Xc) bods (wr.alloc (.cells #[.int .i64 y0,.string y1,.int .i64 y2,.slice XA bods.length Xc] 126))):=Lib.hid (hN.on hE ((Below.refl _ _).alloc (Nat.le_refl _) _));have HS2:Hid (Sep E w.heap.size (wr.alloc (.cells #[.int .i64 y0,.string y1,.int .i64 y2,.slice XA bods.length Xc] 126)) (.slice OA xs.length Oc) xs):=Lib.hid (HS.out.below hE HN2.out.below);have HBo:Hid (Below w.heap.size w (wr.alloc (.cells #[.int .i64 y0,.string y1,.int .i64 y2,.slice XA bods.length Xc] 126))):=Lib.hid (HB.out.trans (HN2.out.below.mono hbs));clear et hN hbq HV1 HI HN0
     go_wp2_with (at_builtin;refine wpList_append_any rfl _ _ 39 rfl w.heap.size 126 Tryz.underlying39 info_node rfl (by decide) (flatM xs) rfl HS2.out.row [.int .i64 y0,.string y1,.int .i64 y2,.slice XA bods.length Xc] rfl rfl (.inr ⟨_,_,rfl,four_newsC wr _ _ _ _ _⟩) (by simp[Value.oneCell']) (by unfold maxLen;omega) (by omega) (by simp;omega) ?_)
     intro v7 w7 hown7 hgrow7 ho7;obtain⟨A7,c7,hv7,_⟩:=own_slice hown7;subst hv7;have HS8:=Lib.hid (HS.out.push hE (x:=⟨y0,y1,y2,.slice XA bods.length Xc,bods⟩) HN2.out hbs hgrow7 hown7 (by rw[World.size_alloc];exact ho7))
     have HB8:=Lib.hid (HBo.out.grown hgrow7 (by simp;omega) (fun r e=>(own_lt HS2.out.row e).1))
     have HX8:Hid ((xs++[(⟨y0,y1,y2,.slice XA bods.length Xc,bods⟩:CN β)]).map CN.plain=(m.take (j+1)).map (cpyX g)):=Lib.hid (by rw[List.map_append,HX.out,HTk.out,HCx.out,←HBp.out];rfl)
     clear hown7 hgrow7 ho7 HBo HS2 HN2 c0 c1 c2 c3
     go_wp2_with fail
     go_roundw
     case rel=>exact⟨j+1,_,by omega,by go_num,HX8,HS8.out,HB8.out⟩
     case measure=>simp[intOf];omega
  ·obtain rfl:j=m.length:=by omega
   have et:m.take m.length=m:=List.take_length;rw[et]at HX;clear et hb hsep
   go_wp2_with fail
   go_ret
   exact⟨HB.out,_,xs,rfl,HX.out,HS.out⟩
theorem cpy_any:(n:Nat)→(m:List (Nd n))→(v:Value)→(lo:Nat)→(w:World)→MsgIn n m→ListOk (Enc.node n) w lo w.heap.size v m→
 Calls Tryz.prog 53 #[v] w fun e w'=>Below w.heap.size w w'∧∃ u,e=.returned u∧ListOk (Enc.node n) w' w.heap.size w'.heap.size u (cpyN n m)
 | 0,m,v,lo,w,hm,hv=>by
   obtain rfl:=empty_list m;obtain⟨A,c,rfl,_⟩:=hv.form;have h:=cpy_walk (E:=Enc.none_) Enc.none_laws (fun l=>l) ([]:List (NdF Empty)) (.slice A 0 c) lo w (ListOk.nil c A) (Nat.zero_le _) (Lib.hid fun x hx=>by cases hx) (Lib.hid fun x hx=>by cases hx)
   refine h.mono ?_;rintro e w' ⟨hb,out,xs,rfl,hx,hs⟩;obtain rfl:xs=[]:=by simpa using hx
   obtain⟨B,d,hv',_⟩:=own_slice hs.row;exact⟨hb,_,rfl,by rw[hv'];exact ListOk.nil d B⟩
 | n+1,m,v,lo,w,hm,hv=>by
   have h:=cpy_walk (E:=Enc.node n) (Enc.node_laws n) (cpyN n) (m:List (NdF (Nd n))) v lo w hv hm.len
    (Lib.hid fun x hx=>by have h1:smallF (SmallN n) x:=hm.each x hx;exact h1.2.1)
    (Lib.hid fun x hx c hc W U _ hU=>cpy_any n c.2 U lo W (hm.body hx (casesR_sub hc)) hU)
   refine h.mono ?_;rintro e w' ⟨hb,out,xs,rfl,hx,hs⟩;refine⟨hb,_,rfl,?_⟩;have h:=hs.list (Enc.node_laws n) (Nat.le_refl _) (Nat.le_refl _);rw[hx]at h;exact h
end Go.Proofs.YtpfmmbbggcghiaaGreatDoor
