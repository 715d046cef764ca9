/- lang.rules, lang.Rules. -/
import Derived.Test.YtpfmmbbggcghiaaGreatDoorPluC
import Derived.Test.YtpfmmbbggcghiaaGreatDoorSpkP
namespace Go.Proofs.YtpfmmbbggcghiaaGreatDoor
open Go.RowKit Go.Maps
def set_en:SetV:=⟨⟨#[]⟩,⟨#[105,32,61,32,49,32,97,110,100,32,118,32,61,32,48]⟩,⟨#[]⟩,⟨#[]⟩,⟨#[]⟩⟩
def set_de:SetV:=⟨⟨#[]⟩,⟨#[105,32,61,32,49,32,97,110,100,32,118,32,61,32,48]⟩,⟨#[]⟩,⟨#[]⟩,⟨#[]⟩⟩
def set_fr:SetV:=⟨⟨#[]⟩,⟨#[105,32,61,32,48,44,49]⟩,⟨#[]⟩,⟨#[]⟩,⟨#[]⟩⟩
def set_ja:SetV:=⟨⟨#[]⟩,⟨#[]⟩,⟨#[]⟩,⟨#[]⟩,⟨#[]⟩⟩
def set_pl:SetV:=⟨⟨#[]⟩,⟨#[105,32,61,32,49,32,97,110,100,32,118,32,61,32,48]⟩,⟨#[]⟩,⟨#[118,32,61,32,48,32,97,110,100,32,105,32,37,32,49,48,32,61,32,50,46,46,52,32,97,110,100,32,105,32,37,32,49,48,48,32,33,61,32,49,50,46,46,49,52]⟩,⟨#[118,32,61,32,48,32,97,110,100,32,105,32,33,61,32,49,32,97,110,100,32,105,32,37,32,49,48,32,61,32,48,46,46,49,32,111,114,32,118,32,61,32,48,32,97,110,100,32,105,32,37,32,49,48,32,61,32,53,46,46,57,32,111,114,32,118,32,61,32,48,32,97,110,100,32,105,32,37,32,49,48,48,32,61,32,49,50,46,46,49,52]⟩⟩
def set_ru:SetV:=⟨⟨#[]⟩,⟨#[118,32,61,32,48,32,97,110,100,32,105,32,37,32,49,48,32,61,32,49,32,97,110,100,32,105,32,37,32,49,48,48,32,33,61,32,49,49]⟩,⟨#[]⟩,⟨#[118,32,61,32,48,32,97,110,100,32,105,32,37,32,49,48,32,61,32,50,46,46,52,32,97,110,100,32,105,32,37,32,49,48,48,32,33,61,32,49,50,46,46,49,52]⟩,⟨#[118,32,61,32,48,32,97,110,100,32,105,32,37,32,49,48,32,61,32,48,32,111,114,32,118,32,61,32,48,32,97,110,100,32,105,32,37,32,49,48,32,61,32,53,46,46,57,32,111,114,32,118,32,61,32,48,32,97,110,100,32,105,32,37,32,49,48,48,32,61,32,49,49,46,46,49,52]⟩⟩
def set_ar:SetV:=⟨⟨#[110,32,61,32,48]⟩,⟨#[110,32,61,32,49]⟩,⟨#[110,32,61,32,50]⟩,⟨#[110,32,37,32,49,48,48,32,61,32,51,46,46,49,48]⟩,⟨#[110,32,37,32,49,48,48,32,61,32,49,49,46,46,57,57]⟩⟩
def set_lv:SetV:=⟨⟨#[110,32,37,32,49,48,32,61,32,48,32,111,114,32,110,32,37,32,49,48,48,32,61,32,49,49,46,46,49,57,32,111,114,32,118,32,61,32,50,32,97,110,100,32,102,32,37,32,49,48,48,32,61,32,49,49,46,46,49,57]⟩,⟨#[110,32,37,32,49,48,32,61,32,49,32,97,110,100,32,110,32,37,32,49,48,48,32,33,61,32,49,49,32,111,114,32,118,32,61,32,50,32,97,110,100,32,102,32,37,32,49,48,32,61,32,49,32,97,110,100,32,102,32,37,32,49,48,48,32,33,61,32,49,49,32,111,114,32,118,32,33,61,32,50,32,97,110,100,32,102,32,37,32,49,48,32,61,32,49]⟩,⟨#[]⟩,⟨#[]⟩,⟨#[]⟩⟩
def set_no:SetV:=⟨⟨#[]⟩,⟨#[]⟩,⟨#[]⟩,⟨#[]⟩,⟨#[]⟩⟩
def langR (s:ByteArray):Option SetV:=
 if s=⟨#[108,118]⟩then some set_lv else if s=⟨#[97,114]⟩then some set_ar else if s=⟨#[114,117]⟩then some set_ru else if s=⟨#[112,108]⟩then some set_pl else if s=⟨#[106,97]⟩then some set_ja else if s=⟨#[102,114]⟩then some set_fr else if s=⟨#[100,101]⟩then some set_de else if s=⟨#[101,110]⟩then some set_en else none
theorem set_small:set_en.small∧set_de.small∧set_fr.small∧set_ja.small∧set_pl.small∧set_ru.small∧set_ar.small∧set_lv.small∧set_no.small:=by
 refine⟨?_,?_,?_,?_,?_,?_,?_,?_,?_⟩ <;> (intro t ht;revert t;decide)
theorem langR_small (s:ByteArray):((langR s).getD set_no).small:=by
 obtain⟨h1,h2,h3,h4,h5,h6,h7,h8,h9⟩:=set_small;unfold langR
 repeat' split
 all_goals assumption
def rulesF:ByteArray→Option Value:=putV (putV (putV (putV (putV (putV (putV (putV (fun _=>none) ⟨#[101,110]⟩ set_en.val) ⟨#[100,101]⟩ set_de.val) ⟨#[102,114]⟩ set_fr.val) ⟨#[106,97]⟩ set_ja.val) ⟨#[112,108]⟩ set_pl.val) ⟨#[114,117]⟩ set_ru.val) ⟨#[97,114]⟩ set_ar.val) ⟨#[108,118]⟩ set_lv.val
theorem rulesF_eq (s:ByteArray):rulesF s=(langR s).map SetV.val:=by
 unfold rulesF langR;simp only[putV]
 repeat' split
 all_goals rfl
theorem setTurn {w w':World} {b:Nat} {B:Nat} (h:w.grownBy w' (some b)) (hB:B≤b) (hs:B≤w.heap.size) {w0:World} (hb:Below B w0 w):Below B w0 w':=hb.grown h hs (fun k e=>by cases e;exact hB)
set_option maxHeartbeats 6400000 in
set_option maxRecDepth 100000 in
theorem rules_any (w:World):Calls Tryz.prog 89 #[] w fun e w'=>∃ b,e=.returned (.map (some b))∧w.heap.size≤b∧OwnsV w' b 8 rulesF∧Below w.heap.size w w':=by
 have hmm:=@run_makeMap Tryz.prog;obtain⟨W1,eW1⟩:∃ W1,W1=w.alloc (.cells #[.string ⟨#[]⟩,.string ⟨#[105,32,61,32,49,32,97,110,100,32,118,32,61,32,48]⟩,.string ⟨#[]⟩,.string ⟨#[]⟩,.string ⟨#[]⟩] 108):=⟨_,rfl⟩;have mb:Blk W1 w.heap.size 108 #[.string ⟨#[]⟩,.string ⟨#[105,32,61,32,49,32,97,110,100,32,118,32,61,32,48]⟩,.string ⟨#[]⟩,.string ⟨#[]⟩,.string ⟨#[]⟩]:=by rw[eW1];exact Blk.new _ _ _
 have hs1:W1.heap.size=w.heap.size+1:=by rw[eW1];simp
 have HB1:Hid (Below w.heap.size w (W1.alloc (.map #[] 0))):=Lib.hid (by rw[eW1];exact((Below.refl _ _).alloc (Nat.le_refl _) _).alloc (by simp) _)
 have HO0:Hid (OwnsV (W1.alloc (.map #[] 0)) (w.heap.size+1) 0 (fun _=>none)):=Lib.hid (by have h:=OwnsV.made W1;rwa[hs1]at h)
 have MB:=Lib.hid mb;have EW:=Lib.hid eW1;have hz:(W1.alloc (.map #[] 0)).heap.size=w.heap.size+2:=by simp[hs1]
 have HZ:=Lib.hid hz;have mb1:=mb.alloc (.map #[] 0);have k0:=(mb1.cell 0).trans (show _=some (.string ⟨#[]⟩)from rfl);have k1:=(mb1.cell 1).trans (show _=some (.string ⟨#[105,32,61,32,49,32,97,110,100,32,118,32,61,32,48]⟩)from rfl);have k2:=(mb1.cell 2).trans (show _=some (.string ⟨#[]⟩)from rfl);have k3:=(mb1.cell 3).trans (show _=some (.string ⟨#[]⟩)from rfl);have k4:=(mb1.cell 4).trans (show _=some (.string ⟨#[]⟩)from rfl);have MB1:=Lib.hid mb1;clear eW1 mb mb1 hz
 go_enter Tryz.func89,Tryz.ntmps89
 go_upto_region 2 with fail
 rw[←EW.out];clear EW
 go_wp2_with (refine wpList_insert_V rfl _ _ _ 181 108 rfl Tryz.underlying181 (w.heap.size+1) 0 _ rfl HO0.out (by decide) ⟨#[101,110]⟩ (.agg #[.string ⟨#[]⟩,.string ⟨#[105,32,61,32,49,32,97,110,100,32,118,32,61,32,48]⟩,.string ⟨#[]⟩,.string ⟨#[]⟩,.string ⟨#[]⟩]) rfl rfl (by decide) ?_)
 intro w1 hown1 hg1;have HO1:=Lib.hid hown1;have HZ1:Hid (w.heap.size+2≤w1.heap.size):=Lib.hid (by have:=hg1.size;have:=HZ.out;omega)
 have HC1:Hid (Below w.heap.size w w1):=Lib.hid (setTurn hg1 (by omega) (by have:=HZ.out;omega) HB1.out)
 have mb2:Blk w1 w.heap.size 108 _:=(hg1.block w.heap.size MB1.out.lt (by simp)).trans MB1.out
 have d0:=(mb2.cell 0).trans (show _=some (.string ⟨#[]⟩)from rfl);have d1:=(mb2.cell 1).trans (show _=some (.string ⟨#[105,32,61,32,49,32,97,110,100,32,118,32,61,32,48]⟩)from rfl);have d2:=(mb2.cell 2).trans (show _=some (.string ⟨#[]⟩)from rfl);have d3:=(mb2.cell 3).trans (show _=some (.string ⟨#[]⟩)from rfl);have d4:=(mb2.cell 4).trans (show _=some (.string ⟨#[]⟩)from rfl);clear mb2 k0 k1 k2 k3 k4;clear hown1 hg1
 go_wp2_with (refine wpList_insert_V rfl _ _ _ 181 108 rfl Tryz.underlying181 (w.heap.size+1) 1 _ rfl HO1.out (by decide) ⟨#[100,101]⟩ (.agg #[.string ⟨#[]⟩,.string ⟨#[105,32,61,32,49,32,97,110,100,32,118,32,61,32,48]⟩,.string ⟨#[]⟩,.string ⟨#[]⟩,.string ⟨#[]⟩]) rfl rfl (by decide) ?_)
 intro w2 hown2 hg2;have HO2:=Lib.hid hown2;have HZ2:Hid (w.heap.size+2≤w2.heap.size):=Lib.hid (by have:=hg2.size;have:=HZ1.out;omega)
 have HC2:Hid (Below w.heap.size w w2):=Lib.hid (setTurn hg2 (by omega) (by have:=HZ1.out;omega) HC1.out)
 clear d0 d1 d2 d3 d4;clear hown2 hg2
 go_wp2_with (refine wpList_insert_V rfl _ _ _ 181 108 rfl Tryz.underlying181 (w.heap.size+1) 2 _ rfl HO2.out (by decide) ⟨#[102,114]⟩ (.agg #[.string ⟨#[]⟩,.string ⟨#[105,32,61,32,48,44,49]⟩,.string ⟨#[]⟩,.string ⟨#[]⟩,.string ⟨#[]⟩]) rfl rfl (by decide) ?_)
 intro w3 hown3 hg3;have HO3:=Lib.hid hown3;have HZ3:Hid (w.heap.size+2≤w3.heap.size):=Lib.hid (by have:=hg3.size;have:=HZ2.out;omega)
 have HC3:Hid (Below w.heap.size w w3):=Lib.hid (setTurn hg3 (by omega) (by have:=HZ2.out;omega) HC2.out)
 clear hown3 hg3
 go_wp2_with (refine wpList_insert_V rfl _ _ _ 181 108 rfl Tryz.underlying181 (w.heap.size+1) 3 _ rfl HO3.out (by decide) ⟨#[106,97]⟩ (.agg #[.string ⟨#[]⟩,.string ⟨#[]⟩,.string ⟨#[]⟩,.string ⟨#[]⟩,.string ⟨#[]⟩]) rfl rfl (by decide) ?_)
 intro w4 hown4 hg4;have HO4:=Lib.hid hown4;have HZ4:Hid (w.heap.size+2≤w4.heap.size):=Lib.hid (by have:=hg4.size;have:=HZ3.out;omega)
 have HC4:Hid (Below w.heap.size w w4):=Lib.hid (setTurn hg4 (by omega) (by have:=HZ3.out;omega) HC3.out)
 clear hown4 hg4
 go_wp2_with (refine wpList_insert_V rfl _ _ _ 181 108 rfl Tryz.underlying181 (w.heap.size+1) 4 _ rfl HO4.out (by decide) ⟨#[112,108]⟩ (.agg #[.string ⟨#[]⟩,.string ⟨#[105,32,61,32,49,32,97,110,100,32,118,32,61,32,48]⟩,.string ⟨#[]⟩,.string ⟨#[118,32,61,32,48,32,97,110,100,32,105,32,37,32,49,48,32,61,32,50,46,46,52,32,97,110,100,32,105,32,37,32,49,48,48,32,33,61,32,49,50,46,46,49,52]⟩,.string ⟨#[118,32,61,32,48,32,97,110,100,32,105,32,33,61,32,49,32,97,110,100,32,105,32,37,32,49,48,32,61,32,48,46,46,49,32,111,114,32,118,32,61,32,48,32,97,110,100,32,105,32,37,32,49,48,32,61,32,53,46,46,57,32,111,114,32,118,32,61,32,48,32,97,110,100,32,105,32,37,32,49,48,48,32,61,32,49,50,46,46,49,52]⟩]) rfl rfl (by decide) ?_)
 intro w5 hown5 hg5;have HO5:=Lib.hid hown5;have HZ5:Hid (w.heap.size+2≤w5.heap.size):=Lib.hid (by have:=hg5.size;have:=HZ4.out;omega)
 have HC5:Hid (Below w.heap.size w w5):=Lib.hid (setTurn hg5 (by omega) (by have:=HZ4.out;omega) HC4.out)
 clear hown5 hg5
 go_wp2_with (refine wpList_insert_V rfl _ _ _ 181 108 rfl Tryz.underlying181 (w.heap.size+1) 5 _ rfl HO5.out (by decide) ⟨#[114,117]⟩ (.agg #[.string ⟨#[]⟩,.string ⟨#[118,32,61,32,48,32,97,110,100,32,105,32,37,32,49,48,32,61,32,49,32,97,110,100,32,105,32,37,32,49,48,48,32,33,61,32,49,49]⟩,.string ⟨#[]⟩,.string ⟨#[118,32,61,32,48,32,97,110,100,32,105,32,37,32,49,48,32,61,32,50,46,46,52,32,97,110,100,32,105,32,37,32,49,48,48,32,33,61,32,49,50,46,46,49,52]⟩,.string ⟨#[118,32,61,32,48,32,97,110,100,32,105,32,37,32,49,48,32,61,32,48,32,111,114,32,118,32,61,32,48,32,97,110,100,32,105,32,37,32,49,48,32,61,32,53,46,46,57,32,111,114,32,118,32,61,32,48,32,97,110,100,32,105,32,37,32,49,48,48,32,61,32,49,49,46,46,49,52]⟩]) rfl rfl (by decide) ?_)
 intro w6 hown6 hg6;have HO6:=Lib.hid hown6;have HZ6:Hid (w.heap.size+2≤w6.heap.size):=Lib.hid (by have:=hg6.size;have:=HZ5.out;omega)
 have HC6:Hid (Below w.heap.size w w6):=Lib.hid (setTurn hg6 (by omega) (by have:=HZ5.out;omega) HC5.out)
 clear hown6 hg6
 go_wp2_with (refine wpList_insert_V rfl _ _ _ 181 108 rfl Tryz.underlying181 (w.heap.size+1) 6 _ rfl HO6.out (by decide) ⟨#[97,114]⟩ (.agg #[.string ⟨#[110,32,61,32,48]⟩,.string ⟨#[110,32,61,32,49]⟩,.string ⟨#[110,32,61,32,50]⟩,.string ⟨#[110,32,37,32,49,48,48,32,61,32,51,46,46,49,48]⟩,.string ⟨#[110,32,37,32,49,48,48,32,61,32,49,49,46,46,57,57]⟩]) rfl rfl (by decide) ?_)
 intro w7 hown7 hg7;have HO7:=Lib.hid hown7;have HZ7:Hid (w.heap.size+2≤w7.heap.size):=Lib.hid (by have:=hg7.size;have:=HZ6.out;omega)
 have HC7:Hid (Below w.heap.size w w7):=Lib.hid (setTurn hg7 (by omega) (by have:=HZ6.out;omega) HC6.out)
 clear hown7 hg7
 go_wp2_with (refine wpList_insert_V rfl _ _ _ 181 108 rfl Tryz.underlying181 (w.heap.size+1) 7 _ rfl HO7.out (by decide) ⟨#[108,118]⟩ (.agg #[.string ⟨#[110,32,37,32,49,48,32,61,32,48,32,111,114,32,110,32,37,32,49,48,48,32,61,32,49,49,46,46,49,57,32,111,114,32,118,32,61,32,50,32,97,110,100,32,102,32,37,32,49,48,48,32,61,32,49,49,46,46,49,57]⟩,.string ⟨#[110,32,37,32,49,48,32,61,32,49,32,97,110,100,32,110,32,37,32,49,48,48,32,33,61,32,49,49,32,111,114,32,118,32,61,32,50,32,97,110,100,32,102,32,37,32,49,48,32,61,32,49,32,97,110,100,32,102,32,37,32,49,48,48,32,33,61,32,49,49,32,111,114,32,118,32,33,61,32,50,32,97,110,100,32,102,32,37,32,49,48,32,61,32,49]⟩,.string ⟨#[]⟩,.string ⟨#[]⟩,.string ⟨#[]⟩]) rfl rfl (by decide) ?_)
 intro w8 hown8 hg8;have HO8:=Lib.hid hown8;have HZ8:Hid (w.heap.size+2≤w8.heap.size):=Lib.hid (by have:=hg8.size;have:=HZ7.out;omega)
 have HC8:Hid (Below w.heap.size w w8):=Lib.hid (setTurn hg8 (by omega) (by have:=HZ7.out;omega) HC7.out)
 clear hown8 hg8
 go_wp2_with fail
 go_ret
 exact⟨w.heap.size+1,rfl,Nat.le_succ _,HO8.out,HC8.out⟩
end Go.Proofs.YtpfmmbbggcghiaaGreatDoor
