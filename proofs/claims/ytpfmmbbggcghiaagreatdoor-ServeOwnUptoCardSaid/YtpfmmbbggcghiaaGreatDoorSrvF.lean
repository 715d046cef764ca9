/- Loadings beside another server; a store without versions. -/
import Derived.Test.YtpfmmbbggcghiaaGreatDoorSrvL
set_option linter.unusedSimpArgs false
set_option linter.unusedVariables false
namespace Go.Proofs.YtpfmmbbggcghiaaGreatDoor
open Go.RowKit Go.Maps
structure StNew (s:SvD) (W:World):Prop where
 st:∃ B0 b1,b1≤W.heap.size∧StoreSt B0 b1 W s.sp s.M []
 vs:s.vs=[]
 v:s.v=0
 Mm:s.M≠s.mb
theorem SrvNew.stn {n:Nat} {s:SvD} {w w':World} (h:SrvNew n s w w'):StNew s w':=⟨⟨_,_,Nat.le_refl _,h.st⟩,h.vs,h.v,h.Mm⟩
theorem StNew.fr {s:SvD} {W W':World} {X:Nat→Prop} (h:StNew s W) (hf:Fr W W' X) (hX:∀ k,SX s k→¬ X k):StNew s W':=by
 obtain⟨B0,b1,h1,h2⟩:=h.st;refine⟨⟨B0,b1,Nat.le_trans h1 hf.size,h2.lp,h2.lM,h2.box.fr hf (hX _ (.inr (.inr (.inr (.inr (.inl rfl)))))),?_,fun r hr=>(by cases hr),List.Pairwise.nil⟩,h.vs,h.v,h.Mm⟩
 obtain⟨n,h3,h4⟩:=h2.all;exact⟨n,h3,owns_fr h4 hf (hX _ (.inr (.inr (.inr (.inr (.inr (.inl rfl)))))))⟩
theorem StNew.on {s:SvD} {W W':World} (h:StNew s W) (hb:Below W.heap.size W W'):StNew s W':=h.fr (Fr.of_below hb fun _=>False) fun _ _ hk=>hk
theorem StNew.open {s:SvD} {W:World} (h:StNew s W):∃ B0,StoreSt B0 W.heap.size W s.sp s.M s.vs:=by
 obtain⟨B0,b1,h1,h2⟩:=h.st;refine⟨B0,?_⟩;rw[h.vs];exact⟨⟨h2.lp.1,by have:=h2.lp.2;omega⟩,⟨h2.lM.1,by have:=h2.lM.2;omega⟩,h2.box,h2.all,fun r hr=>(by cases hr),List.Pairwise.nil⟩
structure First (l:List Bun) (a a':SvD) (W':World) (e:Ending):Prop where
 p:a'.p=a.p
 cnt:a'.cnt≤a.cnt
 e:e=.returned (.tuple #[.int .i64 ((if loadE l=0 then 1 else 0:Nat):Int),errV (loadE l)])
 v:a'.v=if loadE l=0 then 1 else 0
 l:loadE l=0→a'.l=l
theorem Duo.loaded {w0 W W':World} {a b:SvD} {T:Nat→Prop} {B0:Nat} {l:List Bun} {e:Ending} (h:Duo w0 W a b) (ha:SrvR T a W) (hb:SrvR T b W) (hT:∀ k,T k→w0.heap.size≤k) (hn:StNew a W) (hld:LoadedR T a B0 W.heap.size l W e W'):Fr W W' (SX a)∧∃ a',First l a a' W' e∧Duo w0 W' a' b:=by
 obtain⟨hf,hres⟩:=hld;refine⟨hf,?_⟩;have hbel:Below w0.heap.size w0 W':=Fr.below h.below hf h.below.size fun k hk=>hT k (ha.sub k hk);have hdb:∀ k,k=b.p∨SY b k→¬ SX a k:=fun k hk hx=>h.ab k hx (hk.elim (fun e=>.inl e) fun e=>e.x);rcases hres with⟨h1,h2,h3,_⟩|⟨h1,h2,a',h3,_,_,h4,h5,h6,_,h7,h8,_⟩
 ·exact⟨a,⟨rfl,Nat.le_refl _,by rw[h2,if_neg h1];rfl,by rw[if_neg h1,hn.v],fun h=>absurd h h1⟩,⟨⟨T,h3,hb.step hf (fun k hk=>ha.sub k hk) hdb (fun _ hk=>hk) (fun _ hk=>.inl hk) h3.low,hT⟩,h.ab,hbel⟩⟩
 ·have hv1:a'.v=1:=by rw[h4,hn.v]
  have h2':e=.returned (.tuple #[.int .i64 1,.nilIface]):=by rw[h2,hn.v];rfl
  refine⟨a',⟨h3,by rw[h6];exact Nat.zero_le _,by rw[h2',h1];rfl,by rw[if_pos h1,hv1],fun _=>h5⟩,⟨⟨_,h8,?_,fun k hk=> ?_⟩,fun k hk hx=> ?_,hbel⟩⟩
  ·refine hb.step hf (fun k hk=>ha.sub k hk) hdb (fun _ hk=>.inl hk) (fun k hk=> ?_) h8.low;rcases hk with hk|hk
   ·exact .inl hk
   ·exact(h7 k hk).imp (fun hk=>ha.sub k hk) fun hk=>hk
  ·rcases hk with hk|hk
   ·exact hT k hk
   ·rcases h7 k hk with hk|hk
    ·exact hT k (ha.sub k hk)
    ·exact Nat.le_trans h.below.size hk
  ·rcases h7 k hk with hk|hk
   ·exact h.ab k hk hx
   ·have:=hb.low k (hb.sub k hx);omega
structure Hands (w0:World) (args:List ArgV) (vA:Value):Prop where
 ev:∀ W,Below w0.heap.size w0 W→EvV W
 inn:∀ m:List (Nd 7),(m.map (Enc.node 7).bulk).sum≤1048576→SayIn 7 m args
 lie:ListOk Enc.argV w0 0 w0.heap.size vA args
structure HandsL (w0:World) (l:List Bun) (vl:Value):Prop where
 lie:ListOk Enc.bun w0 0 w0.heap.size vl l
 each:∀ b∈l,b.tag.size < 4294967281∧b.ents.length≤4398046511104∧∀ e∈b.ents,e.key.size≤9223372036854775807∧e.text.size≤9223372036854775807
 len:l.length*40≤140737488355328
structure Asked (a a':SvD):Prop where
 p:a'.p=a.p
 v:a'.v=a.v
 l:a'.l=a.l
 cnt:a'.cnt≤a.cnt+1
def SaidE (a:SvD) (name key:ByteArray) (args:List ArgV):Ending:=.returned (.tuple #[.string (str (srvS a.l a.v name key args).1),errD (srvS a.l a.v name key args).2])
theorem Duo.say {w0 W:World} {a b:SvD} {name key:ByteArray} {args:List ArgV} {vA:Value} (h:Duo w0 W a b) (hH:Hands w0 args vA) (hn:name.size≤1048576) (hk:key.size≤1048576) (hc:a.cnt≤1000000000):
 Calls Tryz.prog 10 #[.pointer (some ⟨a.p,0,none⟩),.string name,.string key,vA] W fun e w'=>e=SaidE a name key args∧∃ a',Asked a a'∧Duo w0 w' a' b:=by
 obtain⟨T,h1,h2,h3⟩:=h.ex;refine(srvSay_any T a name key args vA 0 W h1 hn hk hc w0.heap.size h3 h.below.size (fun W' hW'=>hH.ev W' (h.below.trans hW')) hH.inn w0.heap.size (hH.lie.below Enc.argV_laws h.below) h.below.size (fun k hk=>.inr (h3 k (h1.sub k hk.x)))).mono ?_;rintro e w' ⟨rfl,hand,cnt,ps,f,_,hcn,hs,hf⟩;exact⟨rfl,a.turn hand cnt ps f,⟨rfl,rfl,rfl,hcn⟩,h.said h2 h3 hs hf⟩
theorem Duo.load {w0 W:World} {a b:SvD} {l:List Bun} {vl:Value} {args:List ArgV} {vA:Value} (h:Duo w0 W a b) (hn:StNew a W) (hL:HandsL w0 l vl) (hH:Hands w0 args vA):
 Calls Tryz.prog 9 #[.pointer (some ⟨a.p,0,none⟩),vl] W fun e w'=>Fr W w' (SX a)∧∃ a',First l a a' w' e∧Duo w0 w' a' b:=by
 obtain⟨T,h1,h2,h3⟩:=h.ex;obtain⟨B0,hso⟩:=hn.open;refine(srvLoad_any T a B0 W.heap.size l vl 0 W h1 hso (by rw[hn.v,hn.vs];rfl) hn.Mm (by rw[hn.vs];decide) (Nat.le_refl _) w0.heap.size h3 h.below.size (fun W' hW'=>hH.ev W' (h.below.trans hW')) w0.heap.size (hL.lie.below Enc.bun_laws h.below) h.below.size (fun k hk=>.inr (h3 k (h1.sub k hk))) hL.each hL.len).mono ?_
 intro e w' hld;exact h.loaded h1 h2 h3 hn hld
theorem srvS_zero (l l':List Bun) (name key:ByteArray) (args:List ArgV):srvS l 0 name key args=srvS l' 0 name key args:=by
 unfold srvS;rw[if_pos rfl,if_pos rfl]
theorem said_same {a:SvD} {l:List Bun} {V:Nat} {name key:ByteArray} {args:List ArgV} (hv:a.v=V) (hl:V≠0→a.l=l):srvS a.l a.v name key args=srvS l V name key args:=by
 by_cases h:V=0
 ·subst h;rw[hv];exact srvS_zero _ _ _ _ _
 ·rw[hv,hl h]
end Go.Proofs.YtpfmmbbggcghiaaGreatDoor
namespace Go.Proofs.YtpfmmbbggcghiaaGreatDoor
open Go.RowKit
def hiK:ByteArray:=⟨#[104,105]⟩
def helloT:ByteArray:=⟨#[104,101,108,108,111,32,123,110,97,109,101,125]⟩
def smallBun:Bun:=⟨en,[⟨hiK,helloT⟩]⟩
theorem small_any (w:World):Calls Tryz.prog 59 #[] w fun e w'=>Below w.heap.size w w'∧∃ A c,e=.returned (.agg #[.string en,.slice A 1 c])∧ListOk Enc.ent w' w.heap.size w'.heap.size (.slice A 1 c) [⟨hiK,helloT⟩]:=by
 go_enter Tryz.func59,Tryz.ntmps59
 go_wp2_with fail
 obtain⟨W2,eW2⟩:∃ W2,W2=(w.alloc (.cells #[.string ⟨#[101,110]⟩,.slice (some ⟨w.heap.size+1,0,none⟩) 1 1] 49)).alloc (.cells #[.string ⟨#[104,105]⟩,.string ⟨#[104,101,108,108,111,32,123,110,97,109,101,125]⟩] 70):=⟨_,rfl⟩;have mb:Blk W2 w.heap.size 49 #[.string ⟨#[101,110]⟩,.slice (some ⟨w.heap.size+1,0,none⟩) 1 1]:=by rw[eW2];exact(Blk.new _ _ _).alloc _
 have me:Blk W2 (w.heap.size+1) 70 #[.string hiK,.string helloT]:=by
  rw[eW2];have:=Blk.new (w.alloc (.cells #[.string ⟨#[101,110]⟩,.slice (some ⟨w.heap.size+1,0,none⟩) 1 1] 49)) 70 #[.string hiK,.string helloT];rw[World.size_alloc]at this;exact this
 have hb:Below w.heap.size w W2:=by rw[eW2];exact((Below.refl _ _).alloc (Nat.le_refl _) _).alloc (by simp) _
 rw[←eW2];have c0:=mb.cell 0;have c1:=mb.cell 1;simp at c0 c1;clear eW2;refine bodyPost_ret (v:=.agg #[.string en,.slice (some ⟨w.heap.size+1,0,none⟩) 1 1]) (by simp[results,Tryz.results59,go_sem,c0,c1];rfl) rfl ?_
 refine⟨hb,some ⟨w.heap.size+1,0,none⟩,1,rfl,some ⟨w.heap.size+1,0,none⟩,1,rfl,Nat.le_refl _,fun i hi=> ?_⟩;have hi0:i=0:=by simpa using hi
 subst hi0;refine⟨w.heap.size+1,0,[.string hiK,.string helloT],rfl,Nat.le_succ _,me.lt,fun j u hj=> ?_,rfl⟩;rw[show 0+0*Enc.ent.sz+j=j from by omega,me.cell j];simpa using hj
end Go.Proofs.YtpfmmbbggcghiaaGreatDoor
namespace Go.Proofs.YtpfmmbbggcghiaaGreatDoor
open Go.RowKit Go.Maps
def youA:List ArgV:=[⟨⟨#[110,97,109,101]⟩,false,⟨0,0⟩,⟨#[121,111,117]⟩⟩]
theorem small_load:loadE [smallBun]=0:=by decide +kernel
theorem small_said:srvS [smallBun] 1 ⟨#[100,101]⟩ ⟨#[104,105]⟩ youA=([104,101,108,108,111,32,121,111,117],0):=by decide +kernel
theorem version_any (T:Nat→Prop) (s:SvD) (w:World) (h:SrvR T s w):Calls Tryz.prog 20 #[.pointer (some ⟨s.p,0,none⟩)] w fun e w'=>e=.returned (.int .i64 (s.v:Int))∧w'=w:=by
 have x4:=(h.box.cell 4).trans (show _=some (.int .i64 (s.v:Int))from rfl);clear h
 go_enter Tryz.func20,Tryz.ntmps20
 go_wp2_with fail
 go_ret
 exact⟨rfl,rfl⟩
end Go.Proofs.YtpfmmbbggcghiaaGreatDoor
