/- The walk of package find: In. -/
import Derived.Test.YtpfmmbbggcghiaaGreatDoorFindC
set_option linter.unusedSimpArgs false
set_option linter.unusedVariables false
namespace Go.Proofs.YtpfmmbbggcghiaaGreatDoor
open Go.RowKit
open Lib (hid)
theorem getD_bun {l:List Bun} {q:Nat} (h:q < l.length):l.getD q noBun=l[q]:=by rw[List.getD_eq_getElem?_getD,List.getElem?_eq_getElem h];rfl
theorem loadAt_is {l:List Bun} (j:Nat) (hj:j < l.length):loadAt l j=if bunFault l[j]=0 then(if(l.take j).any (fun b=>eqs b.tag l[j].tag)then 5 else 0)else bunFault l[j]:=by
 unfold loadAt;rw[getD_bun hj]
theorem find_load {l:List Bun} (name key:ByteArray) (j:Nat) (hj:j < l.length) (h0:∀ q,q < j→loadAt l q=0) (h:loadAt l j≠0):findIn l name key=⟨loadAt l j,0,ByteArray.empty⟩:=by
 have:loadFault l=loadAt l j:=firstN_at _ j h0 h _ hj;unfold findIn;rw[this,if_neg h]
theorem find_bare {l:List Bun} (name key:ByteArray) (h0:∀ q,q < l.length→loadAt l q=0) (h:isTag name=false):findIn l name key=⟨3,0,ByteArray.empty⟩:=by
 have:loadFault l=0:=firstN_zero _ _ h0;unfold findIn;rw[if_pos this,h];rfl
theorem find_chain {l:List Bun} (name key:ByteArray) (h0:∀ q,q < l.length→loadAt l q=0) (h:isTag name=true) {t:Tg} (ht:parseTag name=some t):
 findIn l name key=match findChain l t key with|some (_,i,s)=>⟨0,i,s⟩|none=>⟨2,0,ByteArray.empty⟩:=by
 have:loadFault l=0:=firstN_zero _ _ h0;unfold findIn;rw[if_pos this,if_pos h,ht]
 rfl
theorem tagAt_is {l:List Bun} {c:List Tg} {key:ByteArray} (k:Nat) (hk:k < c.length):tagAt l c key k=findTag l (tagText c[k]) key:=by
 unfold tagAt;rw[List.getElem?_eq_getElem hk];rfl
theorem hitAt_is {l:List Bun} {nm key:ByteArray} (i:Nat) (hi:i < l.length):hitAt l nm key i=if eqs l[i].tag nm then(l[i].ents.find? (fun e=>eqs e.key key)).map (·.text)else none:=by
 unfold hitAt;rw[List.getElem?_eq_getElem hi];rfl
theorem find_at {l:List Ent} {key:ByteArray}:∀(m:Nat) (hm:m < l.length),(∀ q (h:q < l.length),q < m→eqs l[q].key key=false)→eqs l[m].key key=true→l.find? (fun e=>eqs e.key key)=some l[m]:=by
 induction l with
 | nil=>intro m hm;cases hm
 | cons a r ih=>
   intro m hm h0 h1;cases m with
   | zero=>rw[List.find?_cons];have:eqs a.key key=true:=h1;rw[this];rfl
   | succ m=>
     have ha:eqs a.key key=false:=h0 0 (by simp) (by omega)
     rw[List.find?_cons,ha];exact ih m (by simpa using hm) (fun q hq hqm=>h0 (q+1) (by simpa using hq) (by omega)) h1
theorem find_no {l:List Ent} {key:ByteArray} (h:∀ q (h:q < l.length),eqs l[q].key key=false):l.find? (fun e=>eqs e.key key)=none:=by
 rw[List.find?_eq_none];intro x hx;obtain⟨q,hq,rfl⟩:=List.getElem_of_mem hx;rw[h q hq];simp
structure Seeks (l:List Bun) (key:ByteArray) (C:List Tg) (R:Found):Prop where
 hit:∀ k (hk:k < C.length),(∀ q,q < k→tagAt l C key q=none)→∀ i,i < l.length→(∀ q,q < i→hitAt l (tagText C[k]) key q=none)→∀ s,hitAt l (tagText C[k]) key i=some s→R=⟨0,i,s⟩
 miss:∀ k (hk:k < C.length),(∀ q,q < l.length→hitAt l (tagText C[k]) key q=none)→tagAt l C key k=none
 none:(∀ k,k < C.length→tagAt l C key k=none)→R=⟨2,0,ByteArray.empty⟩
theorem seeks_chain {l:List Bun} {t:Tg} {key:ByteArray} {R:Found} (hR:R=match findChain l t key with|some (_,i,s)=>⟨0,i,s⟩|none=>⟨2,0,ByteArray.empty⟩):Seeks l key (chainEn t) R:=by
 refine⟨fun k hk h0 i hi h1 s hs=> ?_,fun k hk h0=> ?_,fun h=> ?_⟩
 ·have h2:tagAt l (chainEn t) key k=some (i,s):=by
   rw[tagAt_is k hk];exact firstS_at _ i s h1 hs _ hi
  have h3:findChain l t key=some (k,i,s):=firstS_at _ k _ h0 h2 _ hk;rw[hR,h3]
 ·rw[tagAt_is k hk];exact firstS_none _ _ h0
 ·have h3:findChain l t key=Option.none:=firstS_none _ _ h;rw[hR,h3]
theorem small_en:Small enTg:=⟨by decide +kernel,by decide +kernel,by decide +kernel,by decide +kernel,fun v hv=>by cases hv⟩
set_option maxHeartbeats 6400000 in
set_option maxRecDepth 100000 in
theorem find_any (l:List Bun) (vl:Value) (name key:ByteArray) (w:World) (h:BunsIn w vl l) (hn:name.size < 4294967281) (hm:MaxVar w):
 Calls Tryz.prog 12 #[vl,.string name,.string key] w fun e w'=>Below w.heap.size w w'∧e=.returned (.tuple #[.int .i64 (findIn l name key).at_,.string (findIn l name key).text,errV (findIn l name key).err]):=by
 have HL:=hid h;have HM:=hid hm;have hlen:l.length*40≤140737488355328:=h.len;obtain⟨lo,hlo⟩:=h.lo;obtain⟨A,c,rfl,hlc⟩:=hlo.form;obtain⟨R,hR⟩:∃ R,R=findIn l name key:=⟨_,rfl⟩;have HLoad:Hid (∀ j,j < l.length→(∀ q,q < j→loadAt l q=0)→loadAt l j≠0→R=⟨loadAt l j,0,ByteArray.empty⟩):=hid fun j hj h0 h=>by rw[hR];exact find_load name key j hj h0 h
 have HBare:Hid ((∀ q,q < l.length→loadAt l q=0)→isTag name=false→R=⟨3,0,ByteArray.empty⟩):=hid fun h0 h=>by rw[hR];exact find_bare name key h0 h
 have HChain:Hid ((∀ q,q < l.length→loadAt l q=0)→isTag name=true→∀ t,parseTag name=some t→R=match findChain l t key with|some (_,i,s)=>⟨0,i,s⟩|none=>⟨2,0,ByteArray.empty⟩):=hid fun h0 h t ht=>by rw[hR];exact find_chain name key h0 h ht
 rw[←hR];have HTg:Hid (∀ W,Below w.heap.size w W→Calls Tryz.prog 34 #[.string name] W fun e w'=>e=.returned (.bool (isTag name))∧Below W.heap.size W w'):=hid fun W hW=>propTag_any name W (hm.below hW) hn;have HPa:Hid (∀ W,Below w.heap.size w W→Calls Tryz.prog 15 #[.string name] W fun e w'=>Below W.heap.size W w'∧
    ((parseTag name=none∧e=.returned (.tuple #[.agg #[.string ⟨#[]⟩,.string ⟨#[]⟩,.string ⟨#[]⟩,.slice none 0 0],errV 3]))∨
      ∃ t v,parseTag name=some t∧e=.returned (.tuple #[.agg #[.string t.lang,.string t.script,.string t.region,v],.nilIface])∧ListOk Enc.str w' W.heap.size w'.heap.size v t.vars)):=hid fun W hW=>parse_any name W (hm.below hW) hn
 have HIs:Hid (isTag name=true→∃ t,parseTag name=some t∧tagFault t=0):=hid fun h=>let ⟨t,h1,_⟩:=isTag_some h;⟨t,h1,parse_fault h1⟩
 clear h hm hR hlo hn;generalize isTag name=it at*
 go_enter Tryz.func12,Tryz.ntmps12
 go_wp2_with fail
 go_loopw [9,10,11,23] (fun _ _ _ i wr=>∃ j:Nat,j≤l.length∧i=.int .i64 j∧(∀ q,q < j→loadAt l q=0)∧Below w.heap.size w wr) (fun _ _ _ i _=>l.length - (intOf i).toNat)
 case atStart=>exact⟨0,Nat.zero_le _,rfl,fun _ h=>absurd h (by omega),Below.refl _ _⟩
 case round=>
  obtain⟨j,hj,rfl,hno,hbr⟩:=hrel;have HNo:=hid hno;have HBr:=hid hbr;have hbs:=hbr.size;clear hno hbr
  by_cases hlt:j < l.length
  ·have hbw:=HL.out.below HBr.out;have HBw:=hid hbw;obtain⟨b,o,V,rfl,hbl,x0,x1,hin⟩:=hbw.bunAt j hlt;have HIn:=hid hin;have HLd:=hid (loadAt_is j hlt);have HRj:=hid (HLoad.out j hlt HNo.out);have HCf:Hid (∀ W,Below wr.heap.size wr W→W.cell? ⟨wr.heap.size,0,none⟩=some (.string l[j].tag)→wr.heap.size < W.heap.size→Calls Tryz.prog 32 #[.slice (some ⟨b,o,none⟩) j c,.func (.func 33) #[] #[.pointer (some ⟨wr.heap.size,0,none⟩)]] W fun e w'=>e=.returned (.bool ((l.take j).any (fun b=>eqs b.tag l[j].tag)))∧Below W.heap.size W w'):=hid fun W hW hc hlt'=>
    contains_any l _ _ c W (HBw.out.below hW) j hlt l[j].tag wr.heap.size hc hlt'
   have HCk:Hid (∀ W,Below wr.heap.size wr W→Calls Tryz.prog 31 #[.agg #[.string l[j].tag,V]] W fun e w'=>e=.returned (errV (bunFault l[j]))∧Below W.heap.size W w'):=hid fun W hW=>bunCheck_any l[j] V W (HIn.out.below hW) ((HM.out.below HBr.out).below hW);obtain⟨A4,c4,hV,_⟩:=(Classical.choose_spec hin.lo).form;subst hV;have hjl:(j:Int)≤(l.length:Int):=by omega
   generalize (l.take j).any (fun b=>eqs b.tag l[j].tag)=dup at *;generalize l[j]=B at *;clear hbw hin HIn;obtain⟨bt,bl⟩:=B;dsimp only at x0 x1 HCf HCk HLd;generalize bunFault ⟨bt,bl⟩=bf at*
   go_wp2_with fail
   refine(HCk.out _ ((Below.refl _ _).alloc (Nat.le_refl _) _)).mono ?_;clear HCk;rintro e w1 ⟨rfl,hb1⟩;have hb1w:Below wr.heap.size wr w1:=((Below.refl wr.heap.size wr).alloc (Nat.le_refl _) _).trans (hb1.mono (by simp))
   have HB1:=hid hb1w;have m1:Blk w1 wr.heap.size 49 #[.string bt,.slice A4 bl.length c4]:=(Blk.new _ _ _).below hb1 (by simp)
   have HCf1:=hid (HCf.out w1 hb1w (by simpa using m1.cell 0) m1.lt)
   have hs1:=hb1w.size;clear hb1 hb1w m1 HCf x0 x1
   by_cases hf:bf=0
   ·rw[if_pos hf]at HLd;subst hf;rw[errV_zero]
    go_wp2_with fail
    refine HCf1.out.mono ?_;clear HCf1;rintro e w2 ⟨rfl,hb2⟩;have HB2:=hid (HBr.out.trans ((HB1.out.trans (hb2.mono hs1)).mono hbs));clear hb2;cases dup with
    | true=>
      have HR:=hid (HRj.out (by rw[HLd.out];decide))
      rw[HLd.out]at HR
      go_wp2_with fail
      go_ret3
      exact⟨HB2.out,by rw[HR.out];rfl⟩
    | false=>
      go_wp2_with fail
      exact⟨⟨j+1,by omega,by go_num,fun q hq=>by
       rcases Nat.lt_or_eq_of_le (Nat.le_of_lt_succ hq)with h|h
       ·exact HNo.out q h
       ·subst h;rw[HLd.out];rfl,HB2.out⟩,by simp[intOf];omega⟩
   ·rw[if_neg hf]at HLd;have HR:=hid (HRj.out (by rw[HLd.out];exact hf))
    rw[HLd.out]at HR;have HE:=hid (errV_ne hf);rw[errV_ne hf];clear hf HLd HRj HCf1
    go_wp2_with fail
    go_ret3
    exact⟨HBr.out.trans (HB1.out.mono hbs),by rw[HR.out,HE.out];rfl⟩
  ·obtain rfl:j=l.length:=by omega
   have HBare':=hid (HBare.out HNo.out);have HChain':=hid (HChain.out HNo.out);clear HBare HChain HLoad HNo
   go_wp2_with fail
   refine(HTg.out _ HBr.out).mono ?_;clear HTg;rintro e w1 ⟨rfl,hb1⟩;have HB1:=hid (HBr.out.trans (hb1.mono hbs));have hs1:=HB1.out.size;clear hb1;cases it with
   | false=>
     have HR:=hid (HBare'.out rfl)
     go_wp2_with fail
     go_ret3
     exact⟨HB1.out,by rw[HR.out];rfl⟩
   | true=>
     have HCh:=hid (HChain'.out rfl);obtain⟨t,ht,hf⟩:=HIs.out rfl;have HR:=hid (HCh.out t ht);clear HCh HChain' HBare' HIs
     go_wp2_with fail
     refine(HPa.out _ HB1.out).mono ?_;clear HPa;rintro e w2 ⟨hb2,⟨hn,_⟩|⟨t',v,ht',rfl,hvl⟩⟩
     ·rw[ht]at hn;cases hn
     ·obtain rfl:t=t':=by rw[ht]at ht';injection ht'
      have HSk:=hid (seeks_chain HR.out);have hsm:=small_of hf;have HSm:Hid (∀ x∈chainEn t,Small x):=hid fun x hx=>by
       rcases List.mem_append.1 hx with h|h
       ·exact small_chain hsm x h
       ·rw[List.mem_singleton.1 h];exact small_en
      have hc6:=chain_six hsm;have HCE:Hid (chainEn t=chainOf t++[enTg]):=hid rfl;have HC:Hid (∀ W,Below w2.heap.size w2 W→Calls Tryz.prog 35 #[.agg #[.string t.lang,.string t.script,.string t.region,v]] W fun e w'=>Below W.heap.size W w'∧∃ u,e=.returned (.tuple #[u,.nilIface])∧TagRow W.heap.size w' u (chainOf t)):=hid fun W hW=>
       chain_ok (t,v) W (small_in hsm ((hvl.below Enc.str_laws hW).mono Enc.str_laws (Nat.le_refl _) hW.size)) hf
      have HB2:=hid (HB1.out.trans (hb2.mono hs1));have hs2:=HB2.out.size;obtain⟨A7,c7,rfl,_⟩:=hvl.form;generalize chainEn t=CE at *;generalize chainOf t=CO at *;obtain⟨tl,ts,tr,tv⟩:=t;dsimp only at HC ⊢;clear hb2 hvl ht hf hsm HR
      go_wp2_with fail
      refine(HC.out _ ((Below.refl _ _).alloc (Nat.le_refl _) _)).mono ?_;clear HC;rintro e w3 ⟨hb3,u,rfl,ps,hps,hrow⟩;have hb3w:Below w2.heap.size w2 w3:=((Below.refl w2.heap.size w2).alloc (Nat.le_refl _) _).trans (hb3.mono (by simp))
      have HB3:=hid (HB2.out.trans (hb3w.mono hs2));have hs3:=HB3.out.size;simp only[World.size_alloc]at hrow;have hbase3:w2.heap.size+1≤w3.heap.size:=by have:=hb3.size;simpa using this
      obtain⟨B7,d7,rfl,_⟩:=own_slice hrow.own;have hpl:ps.length≤6:=by have:=congrArg List.length hps;simp at this;omega
      have hr3:=hrow.keep (w':=w3.alloc (.cells #[.string ⟨#[101,110]⟩,.string ⟨#[]⟩,.string ⟨#[]⟩,.slice none 0 0] 44)) fun g _ hg=>Below.heap_alloc _ _ _ hg;have hnX:∀ q u,([Value.string ⟨#[101,110]⟩,.string ⟨#[]⟩,.string ⟨#[]⟩,.slice none 0 0]:List Value)[q]? =some u→(w3.alloc (.cells #[.string ⟨#[101,110]⟩,.string ⟨#[]⟩,.string ⟨#[]⟩,.slice none 0 0] 44)).cell? ⟨w3.heap.size,0+q,none⟩=some u:=fun q u hq=>by
       rw[Nat.zero_add,(Blk.new w3 44 #[.string ⟨#[101,110]⟩,.string ⟨#[]⟩,.string ⟨#[]⟩,.slice none 0 0]).cell q];simpa using hq
      have HR3:=hid hr3;have HnX:=hid hnX;have HPs:=hid hps;clear hb3 hb3w hrow hr3 hnX hps
      go_wp2_with (at_builtin;refine wpList_append_any rfl _ _ 87 rfl (w2.heap.size+1) 44 Tryz.underlying87 info_tag rfl (by decide) (flatT ps) rfl HR3.out.own [.string ⟨#[101,110]⟩,.string ⟨#[]⟩,.string ⟨#[]⟩,.slice none 0 0] rfl rfl (.inr ⟨_,_,rfl,HnX.out⟩) (by simp[Value.oneCell']) (by unfold maxLen;omega) (by omega) (by simp;omega) ?_)
      intro v4 w4 hown hgrow _;have hq1:VarRow (w2.heap.size+1) (w3.alloc (.cells #[.string ⟨#[101,110]⟩,.string ⟨#[]⟩,.string ⟨#[]⟩,.slice none 0 0] 44)) (enTg,.slice none 0 0):=own_nil;have hr4:=Rowed.push HR3.out hq1 (fun p _ h=>absurd h (by simp[enTg])) hgrow hown
      have hl4:=hr4.list (lo:=0) (hi:=w4.heap.size) (Nat.zero_le _) (Nat.le_refl _);have hce:(ps++[(enTg,Value.slice none 0 0)]).map Prod.fst=CE:=by rw[List.map_append,HPs.out,HCE.out];rfl
      rw[hce]at hl4;obtain⟨B8,d8,rfl,_⟩:=hl4.form;have HL4:=hid hl4;have HB4:=hid ((HB3.out.alloc hs3 _).grown hgrow (by simp;omega) (fun k hk=>by have:=(own_lt HR3.out.own hk).1;omega))
      have hs4:=HB4.out.size;have hcel:CE.length≤7:=by rw[HCE.out];simp;omega
      clear hown hgrow hq1 hr4 hl4 hce HR3 HnX HPs HCE
      go_wp2_with fail
      go_loopw [16,17,18,20,65] (fun _ _ _ _ i wr=>∃ k:Nat,k≤CE.length∧i=.int .i64 k∧(∀ q,q < k→tagAt l CE key q=none)∧Below w4.heap.size w4 wr) (fun _ _ _ _ i _=>CE.length - (intOf i).toNat)
      case atStart=>exact⟨0,Nat.zero_le _,rfl,fun _ h=>absurd h (by omega),Below.refl _ _⟩
      case round=>
       obtain⟨k,hk,rfl,hno,hbr⟩:=hrel;have HNo2:=hid hno;have HBr2:=hid hbr;have hbs2:=hbr.size;clear hno hbr
       by_cases hkl:k < CE.length
       ·obtain⟨b8,o8,V8,rfl,_,p8,x0,x1,x2,x3,xl8⟩:=(HL4.out.below Enc.tag_laws HBr2.out).tagAt k hkl;have hsx:=HSm.out _ (List.getElem_mem hkl);have HHit:=hid (HSk.out.hit k hkl HNo2.out);have HMiss:=hid (HSk.out.miss k hkl);generalize CE[k]=X at *;obtain⟨A9,c9,rfl,_⟩:=xl8.form;have HTx:Hid (∀ W,Below wr.heap.size wr W→Calls Tryz.prog 36 #[.agg #[.string X.lang,.string X.script,.string X.region,.slice A9 X.vars.length c9]] W fun e w'=>e=.returned (.string (tagText X))∧Below W.heap.size W w'):=hid fun W hW=>
         text_small (X,.slice A9 X.vars.length c9) W hsx (lo:=0) ((xl8.keep Enc.str_laws (Alk.mono (Alk.of_below hW) (Nat.zero_le _) hbs2)).mono Enc.str_laws (Nat.le_refl _) (by have:=hW.size;omega))
        generalize tagText X=TX at *;obtain⟨xl,xs,xr,xv⟩:=X;dsimp only at x0 x1 x2 x3 HTx;have h8l:b8 < wr.heap.size:=by omega
        clear xl8 hsx;obtain⟨wo,rfl⟩:∃ wo:World,wo=wr:=⟨_,rfl⟩
        go_wp2_with fail
        obtain⟨wm,hwm⟩:∃ wm,wm=wo.alloc (.cells #[.string xl,.string xs,.string xr,.slice A9 xv.length c9] 44):=⟨_,rfl⟩;obtain⟨n16,hn16⟩:∃ n16,n16=wo.heap.size:=⟨_,rfl⟩;have mm:Blk wm n16 44 #[.string xl,.string xs,.string xr,.slice A9 xv.length c9]:=by rw[hwm,hn16];exact Blk.new _ _ _
        have HBm:=hid (show Below n16 wo wm by rw[hwm,hn16];exact(Below.refl _ _).alloc (Nat.le_refl _) _)
        have hn16l:n16 < wm.heap.size:=mm.lt;have hn16e:n16≤wo.heap.size:=Nat.le_of_eq hn16;have hn16g:w4.heap.size≤n16:=by omega
        rw[←hwm,←hn16];rw[←hn16]at HTx;have HMm:=hid mm;have HBmw:=hid (show Below w4.heap.size w4 wm from HBr2.out.trans (HBm.out.mono hn16g));have hsm:=HBmw.out.size;clear mm hwm hn16 x0 x1 x2 x3
        go_loopw [17,18,20,71] (fun _ _ _ i wr=>∃ j:Nat,j≤l.length∧i=.int .i64 j∧(∀ q,q < j→hitAt l TX key q=none)∧Below wm.heap.size wm wr) (fun _ _ _ i _=>l.length - (intOf i).toNat)
        case atStart=>exact⟨0,Nat.zero_le _,rfl,fun _ h=>absurd h (by omega),Below.refl _ _⟩
        case round=>
         obtain⟨j,hj,rfl,hno,hbr⟩:=hrel;have HNo3:=hid hno;have HBr3:=hid hbr;have hbs3:=hbr.size;clear hno hbr
         by_cases hjl:j < l.length
         ·have HBw3:=hid (HB4.out.trans ((HBmw.out.trans (HBr3.out.mono hsm)).mono hs4));obtain⟨b,o,V,rfl,hbl,y0,y1,hin⟩:=(HL.out.below HBw3.out).bunAt j hjl;have HHj:=hid (hitAt_is (nm:=TX) (key:=key) j hjl);have HHitj:=hid (HHit.out j hjl HNo3.out);generalize l[j]=B at *;obtain⟨elo,hel⟩:=hin.lo;obtain⟨A10,c10,hV,_⟩:=hel.form;subst hV;have HEl:=hid hel;have hbll:=hin.len;clear hel;obtain⟨bt,bl⟩:=B;dsimp only at y0 y1 HHj HEl hbll;clear hin
          go_wp2_with fail
          obtain⟨wn,hwn⟩:∃ wn,wn=wr.alloc (.cells #[.string bt,.slice A10 bl.length c10] 49):=⟨_,rfl⟩;obtain⟨n18,hn18⟩:∃ n18,n18=wr.heap.size:=⟨_,rfl⟩;have mn:Blk wn n18 49 #[.string bt,.slice A10 bl.length c10]:=by rw[hwn,hn18];exact Blk.new _ _ _
          have HBn:=hid (show Below wr.heap.size wr wn by rw[hwn];exact(Below.refl _ _).alloc (Nat.le_refl _) _)
          have m16:Blk wn n16 44 #[.string xl,.string xs,.string xr,.slice A9 xv.length c9]:=(HMm.out.below HBr3.out hn16l).below HBn.out (by omega)
          have hS:wn.cell? ⟨n18,0,none⟩=some (.string bt)∧wn.cell? ⟨n16,0,none⟩=some (.string xl)∧wn.cell? ⟨n16,1,none⟩=some (.string xs)∧wn.cell? ⟨n16,2,none⟩=some (.string xr)∧wn.cell? ⟨n16,3,none⟩=some (.slice A9 xv.length c9):=by
           have z:=mn.cell 0;have z0:=m16.cell 0;have z1:=m16.cell 1;have z2:=m16.cell 2;have z3:=m16.cell 3;simp at z z0 z1 z2 z3;exact⟨z,z0,z1,z2,z3⟩
          have hbwn:Below n16 wo wn:=HBm.out.trans ((HBr3.out.trans (HBn.out.mono hbs3)).mono (Nat.le_of_lt hn16l));have hn18l:=mn.lt;have hn16n:=m16.lt;have hn18g:wr.heap.size≤n18:=Nat.le_of_eq hn18.symm;have hn18h:n18≤wr.heap.size:=Nat.le_of_eq hn18;rw[←hwn,←hn18];have HMn:=hid mn;have HTn:=hid (HTx.out _ hbwn.drew);clear mn m16 hwn hn18 y0 y1 hbwn
          go_region_held3 (fun w'=>w'.cell? ⟨n18,0,none⟩=some (.string bt)∧w'.cell? ⟨n16,0,none⟩=some (.string xl)∧w'.cell? ⟨n16,1,none⟩=some (.string xs)∧w'.cell? ⟨n16,2,none⟩=some (.string xr)∧w'.cell? ⟨n16,3,none⟩=some (.slice A9 xv.length c9)) (first|exact hS|exact hS5)
           (first
             | (go_at_call 36
                refine HTn.out.mono ?_;rintro e w5 ⟨rfl,hb5⟩;have hS5:w5.cell? ⟨n18,0,none⟩=some (.string bt)∧w5.cell? ⟨n16,0,none⟩=some (.string xl)∧w5.cell? ⟨n16,1,none⟩=some (.string xs)∧w5.cell? ⟨n16,2,none⟩=some (.string xr)∧w5.cell? ⟨n16,3,none⟩=some (.slice A9 xv.length c9):=⟨(hb5.cell (p:=⟨n18,0,none⟩) hn18l).trans hS.1,(hb5.cell (p:=⟨n16,0,none⟩) hn16n).trans hS.2.1,(hb5.cell (p:=⟨n16,1,none⟩) hn16n).trans hS.2.2.1,(hb5.cell (p:=⟨n16,2,none⟩) hn16n).trans hS.2.2.2.1,(hb5.cell (p:=⟨n16,3,none⟩) hn16n).trans hS.2.2.2.2⟩))
          have HBn5:=hid (HBn.out.trans ((below_undrew hb5).mono HBn.out.size));have HBm5:=hid (HBr3.out.trans (HBn5.out.mono hbs3));have mn5:=HMn.out.below (below_undrew hb5) hn18l;have z1:=mn5.cell 1;simp at z1;have hs5:=HBm5.out.size;have hs5r:=HBn5.out.size;clear hS hS5 hb5 HTn mn5;obtain⟨wo5,rfl⟩:∃ wo5:World,wo5=wr:=⟨_,rfl⟩
          go_wp2_with fail
          ·have hbt':(bt.toList == TX.toList)=false:=by
            have h:(!bt.toList == TX.toList)=true:=by assumption
            simpa using h
           have HHn:Hid (hitAt l TX key j=none):=hid (by
            have h1:eqs bt TX=false:=hbt';rw[HHj.out,h1];rfl)
           exact⟨⟨j+1,by omega,by go_num,fun q hq=>by
            rcases Nat.lt_or_eq_of_le (Nat.le_of_lt_succ hq)with h|h
            ·exact HNo3.out q h
            ·subst h;exact HHn.out,HBm5.out⟩,by simp[intOf];omega⟩
          ·have hbt:(bt.toList == TX.toList)=true:=by
            have h:(!bt.toList == TX.toList)=false:=by assumption
            simpa using h
           have HHj2:Hid (hitAt l TX key j=(bl.find? (fun e=>eqs e.key key)).map (·.text)):=hid (by
            have h1:eqs bt TX=true:=hbt;rw[HHj.out,if_pos h1])
           clear hbt
           go_loopw [20,84] (fun _ i wr=>∃ m:Nat,m≤bl.length∧i=.int .i64 m∧(∀ q (h:q < bl.length),q < m→eqs bl[q].key key=false)∧Below w5.heap.size w5 wr) (fun _ i _=>bl.length - (intOf i).toNat)
           case atStart=>exact⟨0,Nat.zero_le _,rfl,fun _ _ h=>absurd h (by omega),Below.refl _ _⟩
           case round=>
            obtain⟨m,hm,rfl,hno,hbr⟩:=hrel;have HNo4:=hid hno;have HBr4:=hid hbr;have hbs4:=hbr.size;clear hno hbr
            by_cases hml:m < bl.length
            ·have hel:=HEl.out.below Enc.ent_laws (HBn5.out.trans (HBr4.out.mono hs5r));obtain⟨eb,eo,rfl,_,q2,e0,e1⟩:=hel.entAt m hml;have HFa:=hid (find_at (key:=key) m hml HNo4.out);have HNx:Hid (eqs bl[m].key key=false→∀ q (h:q < bl.length),q < m+1→eqs bl[q].key key=false):=hid fun h0 q hq hq2=>by
              rcases Nat.lt_or_eq_of_le (Nat.le_of_lt_succ hq2)with h|h
              ·exact HNo4.out q hq h
              ·subst h;exact h0
             generalize bl[m]=E at *;obtain⟨ky,tx⟩:=E;dsimp only at e0 e1 HFa HNx;have hebl:eb < wr.heap.size:=by omega
             clear hel z1
             by_cases hke:(ky.toList == key.toList)=true
             ·have HRf:=hid (HHitj.out tx (by rw[HHj2.out,HFa.out hke];rfl))
              go_wp2_with fail
              have HBall:Hid (∀ nq:Nat,Below w.heap.size w ((wr.alloc (.cells #[.string ky,.string tx] 70)).drewN nq)):=hid fun nq=>below_drawn ((HB4.out.trans ((HBmw.out.trans ((HBm5.out.trans (HBr4.out.mono hs5)).mono hsm)).mono hs4)).alloc (by omega) _) nq
              go_quiet (fail)
              go_wp2
              go_ret3
              exact⟨HBall.out _,by rw[HRf.out];rfl⟩
             ·have hke':(ky.toList == key.toList)=false:=by simpa using hke
              have HNx2:=hid (HNx.out hke');clear hke HNx HFa
              go_wp2_with fail
              exact⟨⟨m+1,by omega,by go_num,HNx2.out,HBr4.out.alloc hbs4 _⟩,by simp[intOf];omega⟩
            ·obtain rfl:m=bl.length:=by omega
             have HHn:Hid (hitAt l TX key j=none):=hid (by rw[HHj2.out,find_no (fun q h=>HNo4.out q h h)];rfl)
             have HBx:=hid (HBm5.out.trans (HBr4.out.mono hs5))
             go_wp2_with fail
             exact⟨⟨j+1,by omega,by go_num,fun q hq=>by
              rcases Nat.lt_or_eq_of_le (Nat.le_of_lt_succ hq)with h|h
              ·exact HNo3.out q h
              ·subst h;exact HHn.out,HBx.out⟩,by simp[intOf];omega⟩
         ·obtain rfl:j=l.length:=by omega
          have HMs:=hid (HMiss.out HNo3.out);have HBx:=hid (HBmw.out.trans (HBr3.out.mono hsm))
          go_wp2_with fail
          exact⟨⟨k+1,by omega,by go_num,fun q hq=>by
           rcases Nat.lt_or_eq_of_le (Nat.le_of_lt_succ hq)with h|h
           ·exact HNo2.out q h
           ·subst h;exact HMs.out,HBx.out⟩,by simp[intOf];omega⟩
       ·obtain rfl:k=CE.length:=by omega
        have HRn:=hid (HSk.out.none HNo2.out)
        go_wp2_with fail
        go_ret3
        exact⟨HB4.out.trans (HBr2.out.mono hs4),by rw[HRn.out];rfl⟩
def textAt (l:List Bun) (i:Nat) (key:ByteArray):Option ByteArray:=(l[i]?).bind fun b=>(b.ents.find? (fun e=>eqs e.key key)).map (·.text)
theorem hit_text {l:List Bun} {nm key s:ByteArray} {i:Nat} (h:hitAt l nm key i=some s):textAt l i key=some s:=by
 unfold hitAt at h;unfold textAt;cases hb:l[i]? with
 | none=>rw[hb]at h;cases h
 | some b=>
   rw[hb]at h;have h:hitOf b nm key=some s:=h;unfold hitOf at h;split at h
   ·exact h
   ·cases h
theorem find_text {l:List Bun} {name key:ByteArray} (h:(findIn l name key).err=0):(findIn l name key).at_ < l.length∧textAt l (findIn l name key).at_ key=some (findIn l name key).text:=by
 unfold findIn at h ⊢;split at h
 ·rename_i h0
  rw[if_pos h0];split at h
  ·rename_i h1
   rw[if_pos h1];cases ht:parseTag name with
   | none=>
     rw[ht]at h;have h:(3:Int)=0:=h;exact absurd h (by decide)
   | some t=>
     rw[ht]at h;dsimp only at h ⊢;cases hc:findChain l t key with
     | none=>
       rw[hc]at h;exact absurd h (by decide)
     | some q=>
       obtain⟨k,i,s⟩:=q;dsimp only;have h2:=(firstS_some hc).2.2;unfold tagAt at h2;cases hk:(chainEn t)[k]? with
       | none=>rw[hk]at h2;cases h2
       | some x=>
         rw[hk]at h2;have h3:findTag l (tagText x) key=some (i,s):=h2;obtain⟨h4,_,h5⟩:=firstS_some h3;exact⟨h4,hit_text h5⟩
  ·exact absurd h (by decide)
 ·rename_i h0
  exact absurd h h0
def nmL (i:Nat) (key:ByteArray):List UInt8:=Lib.itoa (i:Int)++32::bts key
theorem app_inj {a a' b b':List UInt8} (h1:(32:UInt8)∉a) (h2:(32:UInt8)∉a') (h:a++32::b=a'++32::b'):a=a'∧b=b':=by
 induction a generalizing a' with
 | nil=>
   cases a' with
   | nil=>exact⟨rfl,by injection h⟩
   | cons c r=>
     injection h with h3 _;exact absurd (List.mem_cons.2 (.inl h3)) h2
 | cons c r ih=>
   cases a' with
   | nil=>
     injection h with h3 _;exact absurd (List.mem_cons.2 (.inl h3.symm)) h1
   | cons c' r'=>
     injection h with h3 h4;obtain⟨h5,h6⟩:=ih (fun hh=>h1 (List.mem_cons_of_mem _ hh)) (fun hh=>h2 (List.mem_cons_of_mem _ hh)) h4;exact⟨by rw[h3,h5],h6⟩
theorem itoa_space:∀ i,i < 20→(32:UInt8)∉Lib.itoa ((i:Nat):Int):=by decide +kernel
theorem itoa_inj:∀ i,i < 20→∀ j,j < 20→Lib.itoa ((i:Nat):Int)=Lib.itoa ((j:Nat):Int)→i=j:=by decide +kernel
theorem itoa_short:∀ i,i < 20→(Lib.itoa ((i:Nat):Int)).length≤2:=by decide +kernel
theorem nm_inj {i j:Nat} {k k':ByteArray} (hi:i < 20) (hj:j < 20) (h:nmL i k=nmL j k'):i=j∧k=k':=by
 obtain⟨h1,h2⟩:=app_inj (itoa_space i hi) (itoa_space j hj) h;refine⟨itoa_inj i hi j hj h1,?_⟩;have h3:=congrArg str h2;rwa[str_bts,str_bts]at h3
theorem info_node:(Tryz.prog.info? 126).map (fun i=>(i.zero,i.size,i.bytes))=some (some (.agg #[.int .i64 0,.string ByteArray.empty,.int .i64 0,.slice none 0 0]),4,56):=by kernel_rfl
theorem info_case:(Tryz.prog.info? 189).map (fun i=>(i.zero,i.size,i.bytes))=some (some (.agg #[.string ByteArray.empty,.slice none 0 0]),2,40):=by kernel_rfl
theorem two_newsC (W:World) (a b:Value) (t:TypeId):∀ q u,([a,b]:List Value)[q]? =some u→(W.alloc (.cells #[a,b] t)).cell? ⟨W.heap.size,0+q,none⟩=some u:=fun q u hq=>by
 rw[Nat.zero_add,(Blk.new W t #[a,b]).cell q];simpa using hq
theorem four_newsC (W:World) (a b c d:Value) (t:TypeId):∀ q u,([a,b,c,d]:List Value)[q]? =some u→(W.alloc (.cells #[a,b,c,d] t)).cell? ⟨W.heap.size,0+q,none⟩=some u:=fun q u hq=>by
 rw[Nat.zero_add,(Blk.new W t #[a,b,c,d]).cell q];simpa using hq
theorem casesR_len {β:Type} (x:NdF β):(casesR x).length≤x.cases.length:=by
 unfold casesR;split
 ·exact Nat.le_refl _
 ·exact Nat.zero_le _
end Go.Proofs.YtpfmmbbggcghiaaGreatDoor
