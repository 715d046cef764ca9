/- Loading into a server into which others were loaded. -/
import Derived.Test.YtpfmmbbggcghiaaGreatDoorSrvF
set_option linter.unusedSimpArgs false
set_option linter.unusedVariables false
namespace Go.Proofs.YtpfmmbbggcghiaaGreatDoor
open Go.RowKit Go.Maps
structure StOk (s:SvD) (W:World):Prop where
 st:∃ B0 b1,b1≤W.heap.size∧StoreSt B0 b1 W s.sp s.M s.vs∧s.mb < b1
 v:s.v=s.vs.length
 Mm:s.M≠s.mb
theorem StNew.ok {T:Nat→Prop} {s:SvD} {W:World} (h:StNew s W) (hr:SrvR T s W):StOk s W:=by
 obtain⟨B0,h1⟩:=h.open;exact⟨⟨B0,W.heap.size,Nat.le_refl _,h1,hr.codes.lt⟩,by rw[h.v,h.vs];rfl,h.Mm⟩
theorem StOk.asked {T:Nat→Prop} {s:SvD} {W W':World} {hand cnt:Nat} {ps:List Plc} {f:ByteArray→Option Value} (h:StOk s W) (hr:SrvR T s W) (hf:Fr W W' (SY s)):StOk (s.turn hand cnt ps f) W':=by
 obtain⟨B0,b1,h1,h2,h3⟩:=h.st;refine⟨⟨B0,b1,Nat.le_trans h1 hf.size,h2.other hf fun k hk=> ?_,h3⟩,h.v,h.Mm⟩;have hn:=stx_apart hr h2 h.Mm;rcases hk with rfl|rfl|rfl
 ·exact .inr ⟨_,_,hr.cache.1,by decide,by decide⟩
 ·exact .inr ⟨_,_,hr.cache.2,by decide,by decide⟩
 ·exact .inl ⟨h3,fun e=>hn _ (.inr (.inr (.inr rfl))) (.inl e),fun e=>h.Mm e.symm⟩
structure Next (l:List Bun) (a a':SvD) (W':World) (e:Ending):Prop where
 p:a'.p=a.p
 cnt:a'.cnt≤a.cnt
 e:e=.returned (.tuple #[.int .i64 ((if loadE l=0 then a.v+1 else 0:Nat):Int),errV (loadE l)])
 v:a'.v=if loadE l=0 then a.v+1 else a.v
 l:a'.l=if loadE l=0 then l else a.l
 st:StOk a' W'
theorem Duo.load2 {w0 W:World} {a b:SvD} {l:List Bun} {vl:Value} {args:List ArgV} {vA:Value} (h:Duo w0 W a b) (hs:StOk a W) (hv:a.v≤1000000) (hL:HandsL w0 l vl) (hH:Hands w0 args vA):
 Calls Tryz.prog 9 #[.pointer (some ⟨a.p,0,none⟩),vl] W fun e w'=>Fr W w' (SX a)∧∃ a',Next l a a' w' e∧Duo w0 w' a' b:=by
 obtain⟨T,h1,h2,h3⟩:=h.ex;obtain⟨B0,b1,hb1,hso,hmb⟩:=hs.st;refine(srvLoad_any T a B0 b1 l vl 0 W h1 hso hs.v hs.Mm (by rw[←hs.v];exact hv) hb1 w0.heap.size h3 h.below.size (fun W' hW'=>hH.ev W' (h.below.trans hW')) w0.heap.size (hL.lie.below Enc.bun_laws h.below) h.below.size (fun k hk=>.inr (h3 k (h1.sub k hk))) hL.each hL.len).mono ?_
 rintro e w' ⟨hf,hres⟩;refine⟨hf,?_⟩;have hbel:Below w0.heap.size w0 w':=Fr.below h.below hf h.below.size fun k hk=>h3 k (h1.sub k hk);have hdb:∀ k,k=b.p∨SY b k→¬ SX a k:=fun k hk hx=>h.ab k hx (hk.elim (fun e=>.inl e) fun e=>e.x);rcases hres with⟨g1,g2,g3,gst⟩|⟨g1,g2,a',g3,gM,gm,g4,g5,g6,_,g7,g8,gl,gst⟩
 ·exact⟨a,⟨rfl,Nat.le_refl _,by rw[g2,if_neg g1];rfl,by rw[if_neg g1],by rw[if_neg g1],⟨⟨B0,b1,Nat.le_trans hb1 hf.size,gst,hmb⟩,hs.v,hs.Mm⟩⟩,⟨⟨T,g3,h2.step hf (fun k hk=>h1.sub k hk) hdb (fun _ hk=>hk) (fun _ hk=>.inl hk) g3.low,h3⟩,h.ab,hbel⟩⟩
 ·refine⟨a',⟨g3,by rw[g6];exact Nat.zero_le _,by rw[g2,g1];rfl,by rw[if_pos g1,g4],by rw[if_pos g1,g5],⟨⟨B0,b1,Nat.le_trans hb1 hf.size,gst hmb,by rw[gm];exact hmb⟩,by rw[g4,gl,hs.v],by rw[gM,gm];exact hs.Mm⟩⟩,⟨⟨_,g8,?_,fun k hk=> ?_⟩,fun k hk hx=> ?_,hbel⟩⟩
  ·refine h2.step hf (fun k hk=>h1.sub k hk) hdb (fun _ hk=>.inl hk) (fun k hk=> ?_) g8.low;rcases hk with hk|hk
   ·exact .inl hk
   ·exact(g7 k hk).imp (fun hk=>h1.sub k hk) fun hk=>hk
  ·rcases hk with hk|hk
   ·exact h3 k hk
   ·rcases g7 k hk with hk|hk
    ·exact h3 k (h1.sub k hk)
    ·exact Nat.le_trans h.below.size hk
  ·rcases g7 k hk with hk|hk
   ·exact h.ab k hk hx
   ·have:=h2.low k (h2.sub k hx);omega
theorem Duo.say2 {w0 W:World} {a b:SvD} {name key:ByteArray} {args:List ArgV} {vA:Value} (h:Duo w0 W a b) (hs:StOk a W) (hH:Hands w0 args vA) (hn:name.size≤1048576) (hk:key.size≤1048576) (hc:a.cnt≤1000000000):
 Calls Tryz.prog 10 #[.pointer (some ⟨a.p,0,none⟩),.string name,.string key,vA] W fun e w'=>Fr W w' (SY a)∧e=SaidE a name key args∧∃ a',Asked a a'∧StOk a' w'∧Duo w0 w' a' b:=by
 obtain⟨T,h1,h2,h3⟩:=h.ex;refine(srvSay_any T a name key args vA 0 W h1 hn hk hc w0.heap.size h3 h.below.size (fun W' hW'=>hH.ev W' (h.below.trans hW')) hH.inn w0.heap.size (hH.lie.below Enc.argV_laws h.below) h.below.size (fun k hk=>.inr (h3 k (h1.sub k hk.x)))).mono ?_;rintro e w' ⟨rfl,hand,cnt,ps,f,_,hcn,hs',hf⟩;exact⟨hf,rfl,a.turn hand cnt ps f,⟨rfl,rfl,rfl,hcn⟩,hs.asked h1 hf,h.said h2 h3 hs' hf⟩
theorem Duo.version {w0 W:World} {a b:SvD} (h:Duo w0 W a b):Calls Tryz.prog 20 #[.pointer (some ⟨a.p,0,none⟩)] W fun e w'=>e=.returned (.int .i64 (a.v:Int))∧w'=W:=by
 obtain⟨T,h1,_⟩:=h.ex;exact version_any T a W h1
theorem srvS_new {l:List Bun} {V V':Nat} {name key:ByteArray} {args:List ArgV} (h:V≠0) (h':V'≠0):srvS l V name key args=srvS l V' name key args:=by
 unfold srvS;rw[if_neg h,if_neg h']
end Go.Proofs.YtpfmmbbggcghiaaGreatDoor
