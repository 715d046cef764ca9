/- Loadings beside another server; a store without versions. -/
import Derived.Test.YtpfmmbbggcghiaaGreatDoorClear
import Derived.Test.YtpfmmbbggcghiaaGreatDoorSrvL
import Derived.Test.YtpfmmbbggcghiaaGreatDoorCpyW
import Derived.Test.YtpfmmbbggcghiaaGreatDoorStoreM
namespace Go.Proofs.YtpfmmbbggcghiaaGreatDoor
open Go.RowKit Go.Maps
structure StNew (s:SvD) (W:World):Prop where
 st:∃ B0 b1,b1≤W.heap.size∧StoreSt B0 b1 W s.sp s.M []
 vs:s.vs=[]
 v:s.v=0
 Mm:s.M≠s.mb
theorem SrvNew.stn {n:Nat} {s:SvD} {w w':World} (h:SrvNew n s w w'):StNew s w':=⟨⟨_,_,Nat.le_refl _,h.st⟩,h.vs,h.v,h.Mm⟩
theorem StNew.fr {s:SvD} {W W':World} {X:Nat→Prop} (h:StNew s W) (hf:Fr W W' X) (hX:∀ k,SX s k→¬ X k):StNew s W':=by
 obtain⟨B0,b1,h1,h2⟩:=h.st;refine⟨⟨B0,b1,Nat.le_trans h1 hf.size,h2.lp,h2.lM,h2.box.fr hf (hX _ (.inr (.inr (.inr (.inr (.inl rfl)))))),?_,fun r hr=>(by cases hr),List.Pairwise.nil⟩,h.vs,h.v,h.Mm⟩
 obtain⟨n,h3,h4⟩:=h2.all;exact⟨n,h3,owns_fr h4 hf (hX _ (.inr (.inr (.inr (.inr (.inr (.inl rfl)))))))⟩
theorem StNew.on {s:SvD} {W W':World} (h:StNew s W) (hb:Below W.heap.size W W'):StNew s W':=h.fr (Fr.of_below hb fun _=>False) fun _ _ hk=>hk
theorem StNew.open {s:SvD} {W:World} (h:StNew s W):∃ B0,StoreSt B0 W.heap.size W s.sp s.M s.vs:=by
 obtain⟨B0,b1,h1,h2⟩:=h.st;refine⟨B0,?_⟩;rw[h.vs];exact⟨⟨h2.lp.1,by have:=h2.lp.2;omega⟩,⟨h2.lM.1,by have:=h2.lM.2;omega⟩,h2.box,h2.all,fun r hr=>(by cases hr),List.Pairwise.nil⟩
structure First (l:List Bun) (a a':SvD) (W':World) (e:Ending):Prop where
 p:a'.p=a.p
 cnt:a'.cnt≤a.cnt
 e:e=.returned (.tuple #[.int .i64 ((if loadE l=0 then 1 else 0:Nat):Int),errV (loadE l)])
 v:a'.v=if loadE l=0 then 1 else 0
 l:loadE l=0→a'.l=l
theorem Duo.loaded {w0 W W':World} {a b:SvD} {T:Nat→Prop} {B0:Nat} {l:List Bun} {e:Ending} (h:Duo w0 W a b) (ha:SrvR T a W) (hb:SrvR T b W) (hT:∀ k,T k→w0.heap.size≤k) (hn:StNew a W) (hld:LoadedR T a B0 W.heap.size l W e W'):Fr W W' (SX a)∧∃ a',First l a a' W' e∧Duo w0 W' a' b:=by
 obtain⟨hf,hres⟩:=hld;refine⟨hf,?_⟩;have hbel:Below w0.heap.size w0 W':=Fr.below h.below hf h.below.size fun k hk=>hT k (ha.sub k hk);have hdb:∀ k,k=b.p∨SY b k→¬ SX a k:=fun k hk hx=>h.ab k hx (hk.elim (fun e=>.inl e) fun e=>e.x);rcases hres with⟨h1,h2,h3,_⟩|⟨h1,h2,a',h3,_,_,h4,h5,h6,_,h7,h8,_⟩
 ·exact⟨a,⟨rfl,Nat.le_refl _,by rw[h2,if_neg h1];rfl,by rw[if_neg h1,hn.v],fun h=>absurd h h1⟩,⟨⟨T,h3,hb.step hf (fun k hk=>ha.sub k hk) hdb (fun _ hk=>hk) (fun _ hk=>.inl hk) h3.low,hT⟩,h.ab,hbel⟩⟩
 ·have hv1:a'.v=1:=by rw[h4,hn.v]
  have h2':e=.returned (.tuple #[.int .i64 1,.nilIface]):=by rw[h2,hn.v];rfl
  refine⟨a',⟨h3,by rw[h6];exact Nat.zero_le _,by rw[h2',h1];rfl,by rw[if_pos h1,hv1],fun _=>h5⟩,⟨⟨_,h8,?_,fun k hk=> ?_⟩,fun k hk hx=> ?_,hbel⟩⟩
  ·refine hb.step hf (fun k hk=>ha.sub k hk) hdb (fun _ hk=>.inl hk) (fun k hk=> ?_) h8.low;rcases hk with hk|hk
   ·exact .inl hk
   ·exact(h7 k hk).imp (fun hk=>ha.sub k hk) fun hk=>hk
  ·rcases hk with hk|hk
   ·exact hT k hk
   ·rcases h7 k hk with hk|hk
    ·exact hT k (ha.sub k hk)
    ·exact Nat.le_trans h.below.size hk
  ·rcases h7 k hk with hk|hk
   ·exact h.ab k hk hx
   ·have:=hb.low k (hb.sub k hx);omega
end Go.Proofs.YtpfmmbbggcghiaaGreatDoor
/- Asking and loading, in one form: one server, two servers. -/

namespace Go.Proofs.YtpfmmbbggcghiaaGreatDoor
open Go.RowKit Go.Maps
structure Hands (w0:World) (args:List ArgV) (vA:Value):Prop where
 ev:∀ W,Below w0.heap.size w0 W→EvV W
 inn:∀ m:List (Nd 7),(m.map (Enc.node 7).bulk).sum≤1048576→SayIn 7 m args
 lie:ListOk Enc.argV w0 0 w0.heap.size vA args
structure HandsL (w0:World) (l:List Bun) (vl:Value):Prop where
 lie:ListOk Enc.bun w0 0 w0.heap.size vl l
 each:∀ b∈l,b.tag.size < 4294967281∧b.ents.length≤4398046511104∧∀ e∈b.ents,e.key.size≤9223372036854775807∧e.text.size≤9223372036854775807
 len:l.length*40≤140737488355328
structure Solo (w0 W:World) (a:SvD):Prop where
 ex:∃ T,SrvR T a W∧(∀ k,T k→w0.heap.size≤k)
 below:Below w0.heap.size w0 W
theorem Solo.on {w0 W W':World} {a:SvD} (h:Solo w0 W a) (hb:Below W.heap.size W W'):Solo w0 W' a:=by
 obtain⟨T,h1,h3⟩:=h.ex;exact⟨⟨T,h1.below hb,h3⟩,h.below.trans (hb.mono h.below.size)⟩
theorem SrvNew.solo {n:Nat} {s:SvD} {w w':World} (h:SrvNew n s w w'):Solo w w' s:=⟨⟨_,h.r,fun k hk=>(h.own k hk).1⟩,h.below⟩
theorem Hands.on {w0 w1:World} {args:List ArgV} {vA:Value} (h:Hands w0 args vA) (hb:Below w0.heap.size w0 w1):Hands w1 args vA:=
 ⟨fun W hW=>h.ev W (hb.trans (hW.mono hb.size)),h.inn,(h.lie.below Enc.argV_laws hb).mono Enc.argV_laws (Nat.le_refl _) hb.size⟩
theorem HandsL.on {w0 w1:World} {l:List Bun} {vl:Value} (h:HandsL w0 l vl) (hb:Below w0.heap.size w0 w1):HandsL w1 l vl:=
 ⟨(h.lie.below Enc.bun_laws hb).mono Enc.bun_laws (Nat.le_refl _) hb.size,h.each,h.len⟩
structure Asked (a a':SvD):Prop where
 p:a'.p=a.p
 v:a'.v=a.v
 l:a'.l=a.l
 cnt:a'.cnt≤a.cnt+1
def SaidE (a:SvD) (name key:ByteArray) (args:List ArgV):Ending:=.returned (.tuple #[.string (str (srvS a.l a.v name key args).1),errD (srvS a.l a.v name key args).2])
theorem Solo.say {w0 W:World} {a:SvD} {name key:ByteArray} {args:List ArgV} {vA:Value} (h:Solo w0 W a) (hH:Hands w0 args vA) (hn:name.size≤1048576) (hk:key.size≤1048576) (hc:a.cnt≤1000000000):
 Calls Tryz.prog 10 #[.pointer (some ⟨a.p,0,none⟩),.string name,.string key,vA] W fun e w'=>e=SaidE a name key args∧∃ a',Asked a a'∧Solo w0 w' a':=by
 obtain⟨T,h1,h3⟩:=h.ex;refine(srvSay_any T a name key args vA 0 W h1 hn hk hc w0.heap.size h3 h.below.size (fun W' hW'=>hH.ev W' (h.below.trans hW')) hH.inn w0.heap.size (hH.lie.below Enc.argV_laws h.below) h.below.size (fun k hk=>.inr (h3 k (h1.sub k hk.x)))).mono ?_;rintro e w' ⟨rfl,hand,cnt,ps,f,_,hcn,hs,hf⟩;exact⟨rfl,a.turn hand cnt ps f,⟨rfl,rfl,rfl,hcn⟩,⟨⟨T,hs,h3⟩,Fr.below h.below hf h.below.size fun k hk=>h3 k (h1.sub k hk.x)⟩⟩
theorem Duo.say {w0 W:World} {a b:SvD} {name key:ByteArray} {args:List ArgV} {vA:Value} (h:Duo w0 W a b) (hH:Hands w0 args vA) (hn:name.size≤1048576) (hk:key.size≤1048576) (hc:a.cnt≤1000000000):
 Calls Tryz.prog 10 #[.pointer (some ⟨a.p,0,none⟩),.string name,.string key,vA] W fun e w'=>e=SaidE a name key args∧∃ a',Asked a a'∧Duo w0 w' a' b:=by
 obtain⟨T,h1,h2,h3⟩:=h.ex;refine(srvSay_any T a name key args vA 0 W h1 hn hk hc w0.heap.size h3 h.below.size (fun W' hW'=>hH.ev W' (h.below.trans hW')) hH.inn w0.heap.size (hH.lie.below Enc.argV_laws h.below) h.below.size (fun k hk=>.inr (h3 k (h1.sub k hk.x)))).mono ?_;rintro e w' ⟨rfl,hand,cnt,ps,f,_,hcn,hs,hf⟩;exact⟨rfl,a.turn hand cnt ps f,⟨rfl,rfl,rfl,hcn⟩,h.said h2 h3 hs hf⟩
theorem Duo.load {w0 W:World} {a b:SvD} {l:List Bun} {vl:Value} {args:List ArgV} {vA:Value} (h:Duo w0 W a b) (hn:StNew a W) (hL:HandsL w0 l vl) (hH:Hands w0 args vA):
 Calls Tryz.prog 9 #[.pointer (some ⟨a.p,0,none⟩),vl] W fun e w'=>Fr W w' (SX a)∧∃ a',First l a a' w' e∧Duo w0 w' a' b:=by
 obtain⟨T,h1,h2,h3⟩:=h.ex;obtain⟨B0,hso⟩:=hn.open;refine(srvLoad_any T a B0 W.heap.size l vl 0 W h1 hso (by rw[hn.v,hn.vs];rfl) hn.Mm (by rw[hn.vs];decide) (Nat.le_refl _) w0.heap.size h3 h.below.size (fun W' hW'=>hH.ev W' (h.below.trans hW')) w0.heap.size (hL.lie.below Enc.bun_laws h.below) h.below.size (fun k hk=>.inr (h3 k (h1.sub k hk))) hL.each hL.len).mono ?_
 intro e w' hld;exact h.loaded h1 h2 h3 hn hld
theorem Solo.load {w0 W:World} {a:SvD} {l:List Bun} {vl:Value} {args:List ArgV} {vA:Value} (h:Solo w0 W a) (hn:StNew a W) (hL:HandsL w0 l vl) (hH:Hands w0 args vA):
 Calls Tryz.prog 9 #[.pointer (some ⟨a.p,0,none⟩),vl] W fun e w'=>∃ a',First l a a' w' e∧Solo w0 w' a':=by
 obtain⟨T,h1,h3⟩:=h.ex;obtain⟨B0,hso⟩:=hn.open;refine(srvLoad_any T a B0 W.heap.size l vl 0 W h1 hso (by rw[hn.v,hn.vs];rfl) hn.Mm (by rw[hn.vs];decide) (Nat.le_refl _) w0.heap.size h3 h.below.size (fun W' hW'=>hH.ev W' (h.below.trans hW')) w0.heap.size (hL.lie.below Enc.bun_laws h.below) h.below.size (fun k hk=>.inr (h3 k (h1.sub k hk))) hL.each hL.len).mono ?_
 rintro e w' ⟨hf,hres⟩;have hbel:Below w0.heap.size w0 w':=Fr.below h.below hf h.below.size fun k hk=>h3 k (h1.sub k hk);rcases hres with⟨g1,g2,g3,_⟩|⟨g1,g2,a',g3,_,_,g4,g5,g6,_,g7,g8,_⟩
 ·exact⟨a,⟨rfl,Nat.le_refl _,by rw[g2,if_neg g1];rfl,by rw[if_neg g1,hn.v],fun h=>absurd h g1⟩,⟨⟨T,g3,h3⟩,hbel⟩⟩
 ·have hv1:a'.v=1:=by rw[g4,hn.v]
  have g2':e=.returned (.tuple #[.int .i64 1,.nilIface]):=by rw[g2,hn.v];rfl
  refine⟨a',⟨g3,by rw[g6];exact Nat.zero_le _,by rw[g2',g1];rfl,by rw[if_pos g1,hv1],fun _=>g5⟩,⟨⟨_,g8,fun k hk=> ?_⟩,hbel⟩⟩
  rcases hk with hk|hk
  ·exact h3 k hk
  ·rcases g7 k hk with hk|hk
   ·exact h3 k (h1.sub k hk)
   ·exact Nat.le_trans h.below.size hk
theorem srvS_zero (l l':List Bun) (name key:ByteArray) (args:List ArgV):srvS l 0 name key args=srvS l' 0 name key args:=by
 unfold srvS;rw[if_pos rfl,if_pos rfl]
theorem said_same {a:SvD} {l:List Bun} {V:Nat} {name key:ByteArray} {args:List ArgV} (hv:a.v=V) (hl:V≠0→a.l=l):srvS a.l a.v name key args=srvS l V name key args:=by
 by_cases h:V=0
 ·subst h;rw[hv];exact srvS_zero _ _ _ _ _
 ·rw[hv,hl h]
end Go.Proofs.YtpfmmbbggcghiaaGreatDoor
/- The small bundle of the laws of chapter 4's statements, and where its key is found. -/

namespace Go.Proofs.YtpfmmbbggcghiaaGreatDoor
open Go.RowKit
def hiK:ByteArray:=⟨#[104,105]⟩
def helloT:ByteArray:=⟨#[104,101,108,108,111,32,123,110,97,109,101,125]⟩
def smallBun:Bun:=⟨en,[⟨hiK,helloT⟩]⟩
theorem small_any (w:World):Calls Tryz.prog 59 #[] w fun e w'=>Below w.heap.size w w'∧∃ A c,e=.returned (.agg #[.string en,.slice A 1 c])∧ListOk Enc.ent w' w.heap.size w'.heap.size (.slice A 1 c) [⟨hiK,helloT⟩]:=by
 go_enter Tryz.func59,Tryz.ntmps59
 go_wp2_with fail
 obtain⟨W2,eW2⟩:∃ W2,W2=(w.alloc (.cells #[.string ⟨#[101,110]⟩,.slice (some ⟨w.heap.size+1,0,none⟩) 1 1] 49)).alloc (.cells #[.string ⟨#[104,105]⟩,.string ⟨#[104,101,108,108,111,32,123,110,97,109,101,125]⟩] 70):=⟨_,rfl⟩;have mb:Blk W2 w.heap.size 49 #[.string ⟨#[101,110]⟩,.slice (some ⟨w.heap.size+1,0,none⟩) 1 1]:=by rw[eW2];exact(Blk.new _ _ _).alloc _
 have me:Blk W2 (w.heap.size+1) 70 #[.string hiK,.string helloT]:=by
  rw[eW2];have:=Blk.new (w.alloc (.cells #[.string ⟨#[101,110]⟩,.slice (some ⟨w.heap.size+1,0,none⟩) 1 1] 49)) 70 #[.string hiK,.string helloT];rw[World.size_alloc]at this;exact this
 have hb:Below w.heap.size w W2:=by rw[eW2];exact((Below.refl _ _).alloc (Nat.le_refl _) _).alloc (by simp) _
 rw[←eW2];have c0:=mb.cell 0;have c1:=mb.cell 1;simp at c0 c1;clear eW2;refine bodyPost_ret (v:=.agg #[.string en,.slice (some ⟨w.heap.size+1,0,none⟩) 1 1]) (by simp[results,Tryz.results59,go_sem,c0,c1];rfl) rfl ?_
 refine⟨hb,some ⟨w.heap.size+1,0,none⟩,1,rfl,some ⟨w.heap.size+1,0,none⟩,1,rfl,Nat.le_refl _,fun i hi=> ?_⟩;have hi0:i=0:=by simpa using hi
 subst hi0;refine⟨w.heap.size+1,0,[.string hiK,.string helloT],rfl,Nat.le_succ _,me.lt,fun j u hj=> ?_,rfl⟩;rw[show 0+0*Enc.ent.sz+j=j from by omega,me.cell j];simpa using hj
end Go.Proofs.YtpfmmbbggcghiaaGreatDoor
/- What a server says of the facts' small bundle, plainly; Version. -/

namespace Go.Proofs.YtpfmmbbggcghiaaGreatDoor
open Go.RowKit Go.Maps
def youA:List ArgV:=[⟨⟨#[110,97,109,101]⟩,false,⟨0,0⟩,⟨#[121,111,117]⟩⟩]
theorem small_load:loadE [smallBun]=0:=by decide +kernel
theorem small_said:srvS [smallBun] 1 ⟨#[100,101]⟩ ⟨#[104,105]⟩ youA=([104,101,108,108,111,32,121,111,117],0):=by decide +kernel
theorem version_any (T:Nat→Prop) (s:SvD) (w:World) (h:SrvR T s w):Calls Tryz.prog 20 #[.pointer (some ⟨s.p,0,none⟩)] w fun e w'=>e=.returned (.int .i64 (s.v:Int))∧w'=w:=by
 have x4:=(h.box.cell 4).trans (show _=some (.int .i64 (s.v:Int))from rfl);clear h
 go_enter Tryz.func20,Tryz.ntmps20
 go_wp2_with fail
 go_ret
 exact⟨rfl,rfl⟩
end Go.Proofs.YtpfmmbbggcghiaaGreatDoor
/- The fact of chapter 4's statements on servers: linguisterlaw4.served. -/

namespace Go.Proofs.YtpfmmbbggcghiaaGreatDoor
open Go.RowKit Go.Maps
theorem small_list {w1:World} {lo:Nat} {A:Option Addr} {c:Nat} (h:ListOk Enc.ent w1 lo w1.heap.size (.slice A 1 c) [⟨hiK,helloT⟩]) (hlo:lo≤w1.heap.size):ListOk Enc.bun (w1.alloc (.cells #[.string en,.slice A 1 c] 49)) lo (w1.heap.size+1) (.slice (some ⟨w1.heap.size,0,none⟩) 1 1) [smallBun]:=by
 refine⟨some ⟨w1.heap.size,0,none⟩,1,rfl,Nat.le_refl _,fun i hi=> ?_⟩;have hi0:i=0:=by simpa using hi
 subst hi0;refine⟨w1.heap.size,0,[.string en,.slice A 1 c],rfl,hlo,Nat.lt_succ_self _,fun j u hj=> ?_,_,rfl,?_⟩
 ·rw[show 0+0*Enc.bun.sz+j=j from by omega,(Blk.new w1 49 #[.string en,.slice A 1 c]).cell j];simpa using hj
 ·exact(h.below Enc.ent_laws ((Below.refl _ _).alloc (Nat.le_refl _) _)).mono Enc.ent_laws (Nat.le_refl _) (Nat.le_succ _)
theorem you_list (w:World):ListOk Enc.argV (w.alloc (.cells #[.string ⟨#[110,97,109,101]⟩,.bool false,.int .i64 0,.int .i64 0,.string ⟨#[121,111,117]⟩] 67)) w.heap.size (w.heap.size+1) (.slice (some ⟨w.heap.size,0,none⟩) 1 1) youA:=by
 refine⟨some ⟨w.heap.size,0,none⟩,1,rfl,Nat.le_refl _,fun i hi=> ?_⟩;have hi0:i=0:=by have h1:youA.length=1:=rfl;omega
 subst hi0;refine⟨w.heap.size,0,[.string ⟨#[110,97,109,101]⟩,.bool false,.int .i64 0,.int .i64 0,.string ⟨#[121,111,117]⟩],rfl,Nat.le_refl _,Nat.lt_succ_self _,fun j u hj=> ?_,rfl⟩;rw[show 0+0*Enc.argV.sz+j=j from by omega,(Blk.new w 67 #[.string ⟨#[110,97,109,101]⟩,.bool false,.int .i64 0,.int .i64 0,.string ⟨#[121,111,117]⟩]).cell j];simpa using hj
theorem youA_in:∀ m:List (Nd 7),(m.map (Enc.node 7).bulk).sum≤1048576→SayIn 7 m youA:=fun m h=>
 ⟨h,by decide,fun a ha=>by obtain rfl:=List.mem_singleton.1 ha;decide,fun a ha=>by obtain rfl:=List.mem_singleton.1 ha;decide⟩
set_option maxHeartbeats 6400000 in
set_option maxRecDepth 100000 in
theorem served4_any (w:World) (hV:EvV w):Calls Tryz.prog 19 #[] w fun e w'=>e=.returned (.bool true)∧Below w.heap.size w w':=by
 have HN:=Lib.hid (srvNew_yes 1 w (Nat.le_refl _) (by decide))
 have HV:Hid (∀ W,Below w.heap.size w W→EvV W):=Lib.hid fun W hW=>hV.below hW;have HSm:Hid (∀ W,Calls Tryz.prog 59 #[] W fun e w'=>Below W.heap.size W w'∧∃ A c,e=.returned (.agg #[.string en,.slice A 1 c])∧ListOk Enc.ent w' W.heap.size w'.heap.size (.slice A 1 c) [⟨hiK,helloT⟩]):=Lib.hid fun W=>small_any W;clear hV
 go_enter Tryz.func19,Tryz.ntmps19
 go_wp2_with fail
 refine HN.out.mono ?_;clear HN;rintro e w1 ⟨s,rfl,hn⟩;have HNw:=Lib.hid hn;have HS1:=Lib.hid (HSm.out w1);clear hn HSm
 go_wp2_with fail
 refine HS1.out.mono ?_;clear HS1;rintro e w2 ⟨hb2,A,c,rfl,hsl⟩;obtain⟨W3,eW3⟩:∃ W3,W3=w2.alloc (.cells #[.string en,.slice A 1 c] 49):=⟨_,rfl⟩;have hz3:W3.heap.size=w2.heap.size+1:=by rw[eW3,World.size_alloc]
 have hb3:Below w1.heap.size w1 W3:=by rw[eW3];exact hb2.alloc hb2.size _
 have hls:=small_list hsl hb2.size;rw[←eW3,←hz3]at hls;have hz1:=HNw.out.below.size;have hz2:=hb2.size;have HB3:Hid (Below w.heap.size w W3):=Lib.hid (HNw.out.below.trans (hb3.mono hz1));have hst:StoreSt w.heap.size w1.heap.size W3 s.sp s.M s.vs:=by rw[HNw.out.vs];exact HNw.out.st.keep hb3
 have HL:=Lib.hid (srvLoad_any (SX s) s w.heap.size w1.heap.size [smallBun] (.slice (some ⟨w2.heap.size,0,none⟩) 1 1) w1.heap.size W3 (HNw.out.r.below hb3) hst (by rw[HNw.out.v,HNw.out.vs];rfl) HNw.out.Mm (by rw[HNw.out.vs];decide) (by omega) w.heap.size (fun k hk=>(HNw.out.own k hk).1) (by omega) (fun W hW=>HV.out W (HB3.out.trans hW)) W3.heap.size hls (Nat.le_refl _) (fun k hk=>.inl (HNw.out.own k hk).2)
  (fun b hb=>by
    rw[List.mem_singleton.1 hb];exact⟨by decide +kernel,by decide +kernel,fun e he=>by rw[List.mem_singleton.1 he];exact⟨by decide +kernel,by decide +kernel⟩⟩) (by decide))
 have EW3:=Lib.hid eW3;clear hb2 hsl eW3 hb3 hls hst;have HBz:Hid (w1.heap.size≤W3.heap.size∧w.heap.size≤w1.heap.size):=Lib.hid ⟨by omega,by omega⟩
 clear hz3 hz2 hz1
 go_wp2_with fail
 rw[←EW3.out];clear EW3;refine HL.out.mono ?_;clear HL;rintro e w4 ⟨hf4,hres⟩;rcases hres with⟨hbad,_⟩|⟨_,rfl,s',hp',_,_,hv',hl',hc',_,hx',hr',_⟩
 ·exact absurd small_load hbad
 have hz4:=hf4.size;have HB4:Hid (Below w.heap.size w w4):=Lib.hid (Fr.below HB3.out hf4 HB3.out.size fun k hk=>(HNw.out.own k hk).1);obtain⟨W5,eW5⟩:∃ W5,W5=w4.alloc (.cells #[.string ⟨#[110,97,109,101]⟩,.bool false,.int .i64 0,.int .i64 0,.string ⟨#[121,111,117]⟩] 67):=⟨_,rfl⟩;have hb5:Below w4.heap.size w4 W5:=by rw[eW5];exact(Below.refl _ _).alloc (Nat.le_refl _) _
 have hz5:W5.heap.size=w4.heap.size+1:=by rw[eW5,World.size_alloc]
 have hyl:ListOk Enc.argV W5 w4.heap.size (w4.heap.size+1) (.slice (some ⟨w4.heap.size,0,none⟩) 1 1) youA:=by rw[eW5];exact you_list w4
 have hs5:=hr'.below hb5;have HB5:Hid (Below w.heap.size w W5):=Lib.hid (HB4.out.trans (hb5.mono HB4.out.size));have hTw:∀ k,(SX s k∨SX s' k)→w.heap.size≤k:=fun k hk=>by
  rcases hk with hk|hk
  ·exact(HNw.out.own k hk).1
  ·rcases hx' k hk with hk|hk
   ·exact(HNw.out.own k hk).1
   ·have:=HBz.out;omega
 have HSy:=Lib.hid (srvSay_any _ s' ⟨#[100,101]⟩ ⟨#[104,105]⟩ youA (.slice (some ⟨w4.heap.size,0,none⟩) 1 1) w4.heap.size W5 hs5 (by decide) (by decide) (by rw[hc'];decide) w.heap.size hTw HB5.out.size (fun W hW=>HV.out W (HB5.out.trans hW)) youA_in (w4.heap.size+1) hyl (by omega) (fun k hk=>.inl (hr'.low k (hr'.sub k hk.x))))
 have HP':=Lib.hid hp';have HV':Hid (s'.v=1):=Lib.hid (by rw[hv',HNw.out.v])
 have HL':=Lib.hid hl';have hv0:((s.v+1:Nat):Int)=1:=by rw[HNw.out.v];rfl
 rw[hv0];have HTw:=Lib.hid hTw;have EW5:=Lib.hid eW5;clear hf4 hp' hv' hl' hc' hx' hr' eW5 hb5 hz5 hyl hs5 hv0 hTw hz4
 go_wp2_with fail
 rw[←EW5.out,←HP'.out];clear EW5;refine HSy.out.mono ?_;clear HSy;rintro e w6 ⟨rfl,hand,cnt,ps,f,_,_,hs6,hf6⟩;rw[HV'.out,HL'.out,small_said];have hve:=version_any _ _ w6 hs6;have hve:Calls Tryz.prog 20 #[.pointer (some ⟨s'.p,0,none⟩)] w6 fun e w'=>e=.returned (.int .i64 (s'.v:Int))∧w'=w6:=hve;rw[HV'.out]at hve;have HVe:=Lib.hid hve;have HB6:Hid (Below w.heap.size w w6):=Lib.hid (Fr.below HB5.out hf6 HB5.out.size fun k hk=>HTw.out k (hs6.sub k hk.x));have h97:(str [104,101,108,108,111,32,121,111,117])=(⟨#[104,101,108,108,111,32,121,111,117]⟩:ByteArray):=rfl;rw[h97,errD_zero];clear hs6 hf6 h97 hve
 go_wp2_with fail
 refine HVe.out.mono ?_;clear HVe;rintro e w7 ⟨rfl,rfl⟩
 go_wp2_with fail
 go_ret
 exact⟨rfl,HB6.out⟩
end Go.Proofs.YtpfmmbbggcghiaaGreatDoor
