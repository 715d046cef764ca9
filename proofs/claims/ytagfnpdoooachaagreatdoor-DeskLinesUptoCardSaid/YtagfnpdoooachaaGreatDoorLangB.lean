/- lang.Rules. -/
import Derived.Test.YtagfnpdoooachaaGreatDoorLangA
set_option linter.unusedSimpArgs false
set_option linter.unusedVariables false
namespace Go.Proofs.YtagfnpdoooachaaGreatDoor
open Go.RowKit Go.Maps
open Lib (hid)
def langS (s:ByteArray):SetV:=(langR s).getD set_no
def langE (s:ByteArray):Int:=if(langR s).isSome then 0 else 2
set_option maxHeartbeats 3200000 in
set_option maxRecDepth 100000 in
theorem Rules_any (s:ByteArray) (w:World) (hs:s.size≤maxLen):Calls Tryz.prog 25 #[.string s] w fun e w'=>e=.returned (.tuple #[(langS s).val,errD (langE s)])∧Below w.heap.size w w':=by
 obtain⟨W1,eW1⟩:∃ W1,W1=w.alloc (.cells #[.string ⟨#[]⟩,.string ⟨#[]⟩,.string ⟨#[]⟩,.string ⟨#[]⟩,.string ⟨#[]⟩] 54):=⟨_,rfl⟩;have mb:Blk W1 w.heap.size 54 #[.string ⟨#[]⟩,.string ⟨#[]⟩,.string ⟨#[]⟩,.string ⟨#[]⟩,.string ⟨#[]⟩]:=by rw[eW1];exact Blk.new _ _ _
 have hb1:Below w.heap.size w W1:=by rw[eW1];exact(Below.refl _ _).alloc (Nat.le_refl _) _
 have HR:=hid (rules_any W1);have MB:=hid mb;have HB1:=hid hb1;have EW:=hid eW1;have hz:∀ W,(zeroValue 54).run Tryz.prog W=.ok set_no.val W:=fun _=>by kernel_rfl
 have HZ:=hid hz;have HL:Hid ((rulesF s).getD set_no.val=(langS s).val∧(rulesF s).isSome=(langR s).isSome):=hid (by
  rw[rulesF_eq];unfold langS;cases langR s <;> exact⟨rfl,rfl⟩)
 have HE:Hid (langE s=if(langR s).isSome then 0 else 2):=hid rfl
 have HN:Hid ((langR s).isSome=false→langS s=set_no):=hid fun h=>by
  unfold langS;cases e:langR s with
  | none=>rfl
  | some v=>rw[e]at h;cases h
 clear hz eW1 mb hb1;generalize langS s=S at *;generalize langE s=er at *;generalize (langR s).isSome=x at *;obtain⟨a,b,c,d,f⟩:=S;unfold SetV.val at *;dsimp only at HL ⊢
 go_enter Tryz.func25,Tryz.ntmps25
 go_upto_region 1 with fail
 rw[←EW.out];clear EW
 go_wp2_with fail
 refine HR.out.mono ?_;clear HR;rintro e w2 ⟨bm,rfl,hbm,hown,hb2⟩;have hlk:=hown.look_ok (t:=107) (e:=54) Tryz.underlying107 (HZ.out w2) hs;unfold SetV.val at hlk;rw[HL.out.1,HL.out.2]at hlk;have HB2:=hid (HB1.out.trans (hb2.mono HB1.out.size));have MB2:=MB.out.below hb2 MB.out.lt;have MB3:=MB2.alloc (.cells #[.string a,.string b,.string c,.string d,.string f] 54);have r0:=(MB3.cell 0).trans (show _=some (.string ⟨#[]⟩)from rfl);have r1:=(MB3.cell 1).trans (show _=some (.string ⟨#[]⟩)from rfl);have r2:=(MB3.cell 2).trans (show _=some (.string ⟨#[]⟩)from rfl);have r3:=(MB3.cell 3).trans (show _=some (.string ⟨#[]⟩)from rfl);have r4:=(MB3.cell 4).trans (show _=some (.string ⟨#[]⟩)from rfl);have g0:=MB3.frozen 0;have g1:=MB3.frozen 1;have g2:=MB3.frozen 2;have g3:=MB3.frozen 3;have g4:=MB3.frozen 4;have HB3:=hid (HB2.out.alloc HB2.out.size (.cells #[.string a,.string b,.string c,.string d,.string f] 54));clear hbm hown hb2 MB MB2 MB3 HB1 HB2 HL HZ;cases x with
 | true=>
   obtain rfl:er=0:=by rw[HE.out];rfl
   clear HN HE
   go_wp2_with fail
   refine bodyPost_ret (v:=.tuple #[.agg #[.string a,.string b,.string c,.string d,.string f],.nilIface]) ?_ rfl ?_
   ·simp[results,Tryz.results25,go_sem,r0,r1,r2,r3,r4,g0,g1,g2,g3,g4]
   ·refine⟨rfl,?_⟩
    repeat' (first|exact HB3.out|refine Below.setCell ?_ (by show w.heap.size≤w.heap.size;omega) _)
 | false=>
   obtain rfl:er=2:=by rw[HE.out];rfl
   have hn:=HN.out rfl;unfold set_no at hn;injection hn with n0 n1 n2 n3 n4;subst n0;subst n1;subst n2;subst n3;subst n4;clear HN HE
   go_wp2_with fail
   refine bodyPost_ret (v:=.tuple #[.agg #[.string ⟨#[]⟩,.string ⟨#[]⟩,.string ⟨#[]⟩,.string ⟨#[]⟩,.string ⟨#[]⟩],.iface 27 (.int .i64 2)]) ?_ rfl ?_
   ·simp[results,Tryz.results25,go_sem,r0,r1,r2,r3,r4,g0,g1,g2,g3,g4]
   ·refine⟨by rw[errD_ne (by decide)],?_⟩
    repeat' (first|exact HB3.out|refine Below.setCell ?_ (by show w.heap.size≤w.heap.size;omega) _)
end Go.Proofs.YtagfnpdoooachaaGreatDoor
