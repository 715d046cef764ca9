/- code.Compile, at messages that are in order. -/
import Derived.Test.YtjdfpoppimcikaaGreatDoorAddW
import Derived.Test.YtjdfpoppimcikaaGreatDoorCodR
import Derived.Laws.IdiomStrings
namespace Go.Proofs.YtjdfpoppimcikaaGreatDoor
open Go.RowKit

theorem results_code {fn : Func} {t u : Tmp} (h : fn.results = #[.cell t 49, .tmp u]) (tmps : Array Value) (w : World) (g : Nat) (a b : Value) (hg : tmps[t]?.getD undef = .pointer (some ⟨g, 0, none⟩)) (h0 : w.cell? ⟨g, 0, none⟩ = some a) (h1 : w.cell? ⟨g, 1, none⟩ = some b) :
    (results fn tmps).run Tryz.prog w = .ok (.tuple #[.agg #[a, b], tmps.getD u undef]) w := by
  simp [results, h, hg, go_sem, h0, h1]
set_option maxHeartbeats 6400000 in
set_option maxRecDepth 100000 in
theorem compile_ok (n : Nat) (m : List (Nd n)) (v : Value) (lo : Nat) (w : World) (hm : MsgIn n m) (hv : ListOk (Enc.node n) w lo w.heap.size v m) (hV : MV w) (hok : checkAll n m = 0) (hN : (stpN n 0 m).length ≤ 1000000000) :
    Calls Tryz.prog 15 #[v] w fun e w' => Below w.heap.size w w' ∧ ∃ out U zs, e = .returned (.tuple #[.agg #[out, U], .nilIface]) ∧ zs.map SU.x = stpN n 0 m ∧ SRow w.heap.size w' out zs ∧ ListOk (Enc.node n) w' w.heap.size w'.heap.size U (cpyN n m) := by
  obtain ⟨A, c, rfl, _⟩ := hv.form
  obtain ⟨W1, eW1⟩ : ∃ W, W = w.alloc (.cells #[.slice none 0 0, .slice none 0 0] 49) := ⟨_, rfl⟩
  have hb1 : Below w.heap.size w W1 := by rw [eW1]; exact (Below.refl _ _).alloc (Nat.le_refl _) _
  have hs1 : W1.heap.size = w.heap.size + 1 := by rw [eW1, World.size_alloc]
  have hk1 : Blk W1 w.heap.size 49 #[.slice none 0 0, .slice none 0 0] := by rw [eW1]; exact Blk.new w _ _
  have HL : Hid (∀ W, Below w.heap.size w W → ListOk (Enc.node n) W lo w.heap.size (.slice A m.length c) m) := Lib.hid fun W hW => hv.below (Enc.node_laws n) hW
  have HC := Check_any n m (.slice A m.length c) lo W1 hm ((HL.out _ hb1).mono (Enc.node_laws n) (Nat.le_refl _) (by omega)) (hV.below hb1)
  rw [hok, show errV 0 = .nilIface from rfl] at HC
  have HC := Lib.hid HC
  have HB1 := Lib.hid hb1
  have HK1 := Lib.hid hk1
  have HW1 := Lib.hid eW1
  have HM := Lib.hid hm
  have HNn := Lib.hid hN
  clear hv hV hok hb1 hk1 eW1 hm hN
  go_enter Tryz.func15, Tryz.ntmps15
  go_upto_region 1 with fail
  rw [← HW1.out]
  go_wp2_with fail
  refine HC.out.mono ?_
  clear HC
  rintro e w2 ⟨rfl, hb2⟩
  obtain ⟨W3, eW3⟩ : ∃ W, W = w2.alloc (.cells #[.slice none 0 0, .slice none 0 0] 49) := ⟨_, rfl⟩
  have hb3 : Below w2.heap.size w2 W3 := by rw [eW3]; exact (Below.refl _ _).alloc (Nat.le_refl _) _
  have hk3 : Blk W3 w2.heap.size 49 #[.slice none 0 0, .slice none 0 0] := by rw [eW3]; exact Blk.new w2 _ _
  have hz2 := hb2.size
  have hz3 := hb3.size
  have hw3 : Below w.heap.size w W3 := (HB1.out.trans (hb2.mono (by omega))).trans (hb3.mono (by omega))
  have HA := Lib.hid (cadd_any w.heap.size w2.heap.size 1000000000 (Nat.le_refl _) n m (.slice A m.length c) lo w.heap.size [] W3 (Nat.le_refl _) HM.out (HL.out _ hw3) ⟨by omega, _, hk3, SRow.nil⟩ (by omega) (by simpa using HNn.out))
  have HB3 := Lib.hid hw3
  have HK2 : Hid (Blk W3 w.heap.size 49 #[.slice none 0 0, .slice none 0 0]) := Lib.hid ((HK1.out.below hb2 HK1.out.lt).below hb3 (by omega))
  have hk1l : w.heap.size < w2.heap.size := by omega
  have HW3 := Lib.hid eW3
  clear hb2 hb3 hk3 hw3 eW3
  go_upto_region 5 with fail
  rw [← HW3.out]
  go_wp2_with fail
  refine HA.out.mono ?_
  clear HA
  rintro e w4 ⟨rfl, had, zs, hzs, ⟨hk0, out, hk4, hs4⟩, hf4⟩
  have hz4 := had.below.size
  have hw4 : Below w.heap.size w w4 := HB3.out.trans had.below
  have HCp := Lib.hid (cpy_any n m (.slice A m.length c) lo w4 HM.out ((HL.out _ hw4).mono (Enc.node_laws n) (Nat.le_refl _) hw4.size))
  have hr4 : Blk w4 w.heap.size 49 #[.slice none 0 0, .slice none 0 0] := had.blk HK2.out (by omega) (by decide)
  obtain ⟨OA, Oc, rfl, _⟩ := own_slice hs4.row
  have HS4 := Lib.hid hs4
  have HK4 := Lib.hid hk4
  have HR4 := Lib.hid hr4
  have HB4 := Lib.hid hw4
  have HZs := Lib.hid hzs
  clear had hs4 hk4 hr4 hw4 hzs hf4
  go_wp2_with fail
  refine HCp.out.mono ?_
  clear HCp
  rintro e w5 ⟨hb5, U, rfl, hU⟩
  obtain ⟨UA, Uc, rfl, _⟩ := hU.form
  have hk5 := HK4.out.below hb5 HK4.out.lt
  have hr5 := HR4.out.below hb5 HR4.out.lt
  have hz5 := hb5.size
  have c1 := (hk5.cell 1).trans (show _ = some (.slice none 0 0) from rfl)
  have c0 := (hk5.cell 0).trans (show _ = some (.slice OA zs.length Oc) from rfl)
  have f1 := hk5.frozen 1
  have r0 := (hr5.cell 0).trans (show _ = some (.slice none 0 0) from rfl)
  have r1 := (hr5.cell 1).trans (show _ = some (.slice none 0 0) from rfl)
  have g0 := hr5.frozen 0
  have g1 := hr5.frozen 1
  have HU := Lib.hid hU
  have HS5 := Lib.hid (HS4.out.below hb5)
  have HB5 : Hid (Below w.heap.size w w5) := Lib.hid (HB4.out.trans (hb5.mono (by omega)))
  have HK5 := Lib.hid hk5
  have HR5 := Lib.hid hr5
  clear hb5 hU hk5 hr5
  have hk2w : w2.heap.size ≠ w.heap.size := by omega
  have hww : w.heap.size < w4.heap.size := by omega
  have hw24 : w2.heap.size < w4.heap.size := HK4.out.lt
  have HFinal : Hid (∀ x y z, Below w.heap.size w (((w5.setCell ⟨w2.heap.size, 1, none⟩ x).setCell ⟨w.heap.size, 0, none⟩ y).setCell ⟨w.heap.size, 1, none⟩ z) ∧ SRow w.heap.size (((w5.setCell ⟨w2.heap.size, 1, none⟩ x).setCell ⟨w.heap.size, 0, none⟩ y).setCell ⟨w.heap.size, 1, none⟩ z) (.slice OA zs.length Oc) zs ∧
      ListOk (Enc.node n) (((w5.setCell ⟨w2.heap.size, 1, none⟩ x).setCell ⟨w.heap.size, 0, none⟩ y).setCell ⟨w.heap.size, 1, none⟩ z) w.heap.size w5.heap.size (.slice UA (cpyN n m).length Uc) (cpyN n m)) := Lib.hid fun x y z => by
    have k1 : Blk (w5.setCell ⟨w2.heap.size, 1, none⟩ x) w.heap.size 49 #[.slice none 0 0, .slice none 0 0] := HR5.out.far (by show w.heap.size ≠ w2.heap.size; omega) x
    have k2 := k1.set_ 0 y
    refine ⟨((HB5.out.setCell (p := ⟨w2.heap.size, 1, none⟩) (Nat.le_of_lt hk1l) x).setCell (p := ⟨w.heap.size, 0, none⟩) (Nat.le_refl _) y).setCell (p := ⟨w.heap.size, 1, none⟩) (Nat.le_refl _) z,
      ((HS5.out.far HK5.out (by decide) (by decide) (by decide) 1 x).far k1 (by decide) (by decide) (by decide) 0 y).far k2 (by decide) (by decide) (by decide) 1 z, ?_⟩
    refine (HU.out.keep (Enc.node_laws n) fun p h1 h2 => ?_).mono (Enc.node_laws n) (by omega) (Nat.le_refl _)
    rw [World.cell?_setCell_far _ _ _ _ (by show w.heap.size ≠ p.block; omega), World.cell?_setCell_far _ _ _ _ (by show w.heap.size ≠ p.block; omega), World.cell?_setCell_far _ _ _ _ (by show w2.heap.size ≠ p.block; omega)]
  go_wp2_with fail
  have hbF : Blk (((w5.setCell ⟨w2.heap.size, 1, none⟩ (.slice UA (cpyN n m).length Uc)).setCell ⟨w.heap.size, 0, none⟩ (.slice OA zs.length Oc)).setCell ⟨w.heap.size, 1, none⟩ (.slice UA (cpyN n m).length Uc)) w.heap.size 49 #[.slice OA zs.length Oc, .slice UA (cpyN n m).length Uc] :=
    ((HR5.out.far (p := ⟨w2.heap.size, 1, none⟩) (by show w.heap.size ≠ w2.heap.size; omega) _).set_ 0 _).set_ 1 _
  refine bodyPost_ret (results_code rfl _ _ w.heap.size (.slice OA zs.length Oc) (.slice UA (cpyN n m).length Uc) rfl ((hbF.cell 0).trans rfl) ((hbF.cell 1).trans rfl)) rfl ?_
  obtain ⟨h1, h2, h3⟩ := HFinal.out (.slice UA (cpyN n m).length Uc) (.slice OA zs.length Oc) (.slice UA (cpyN n m).length Uc)
  exact ⟨h1, _, _, zs, rfl, HZs.out, h2, by simpa [World.setCell] using h3⟩
end Go.Proofs.YtjdfpoppimcikaaGreatDoor
/- How long a row of steps is. -/

namespace Go.Proofs.YtjdfpoppimcikaaGreatDoor
open Go.RowKit

theorem bodF_len {β : Type} (f : Nat → List β → List StpV) (g : List β → Nat) (h : ∀ b l, (f b l).length ≤ g l) : ∀ (cs : List (ByteArray × List β)) (b : Nat), (bodF f b cs).length ≤ (cs.map fun c => g c.2).sum
  | [], _ => Nat.zero_le _
  | c :: r, b => by
    have h1 := h b c.2
    have h2 := bodF_len f g h r (b + (f b c.2).length)
    show (f b c.2 ++ bodF f (b + (f b c.2).length) r).length ≤ _
    rw [List.length_append, List.map_cons, List.sum_cons]
    omega
theorem rowF_len {β : Type} (f : Nat → List β → List StpV) (k : NdF β → Nat) (h : ∀ b x, (oneF f b x).length ≤ k x) : ∀ (m : List (NdF β)) (b : Nat), (rowF f b m).length ≤ (m.map k).sum
  | [], _ => Nat.zero_le _
  | x :: r, b => by
    have h1 := h b x
    have h2 := rowF_len f k h r (b + (oneF f b x).length)
    show (oneF f b x ++ rowF f (b + (oneF f b x).length) r).length ≤ _
    rw [List.length_append, List.map_cons, List.sum_cons]
    omega
theorem stpN_len : (n : Nat) → (b : Nat) → (m : List (Nd n)) → (stpN n b m).length ≤ (m.map (Enc.node n).bulk).sum
  | 0, _, _ => Nat.zero_le _
  | n + 1, b, m => rowF_len (stpN n) (Enc.node (n + 1)).bulk (fun b x => by
      rw [oneF_len, node_bulk n x]
      have h1 := bodF_len (stpN n) (fun l => (l.map (Enc.node n).bulk).sum) (fun b l => stpN_len n b l) (casesR x) (b + 1)
      have h2 : ((casesR x).map fun c => (c.2.map (Enc.node n).bulk).sum).sum ≤ (x.cases.map (Enc.cas (Enc.node n)).bulk).sum := by
        have h3 : (x.cases.map fun c => (c.2.map (Enc.node n).bulk).sum).sum ≤ (x.cases.map (Enc.cas (Enc.node n)).bulk).sum := sum_map_le (fun c : ByteArray × List (Nd n) => (c.2.map (Enc.node n).bulk).sum) _ x.cases fun c _ => by rw [cas_bulk]; omega
        unfold casesR
        split
        · exact h3
        · exact Nat.zero_le _
      omega) (m : List (NdF (Nd n))) b
end Go.Proofs.YtjdfpoppimcikaaGreatDoor
/- group.digits, group.check, group.Put at threes: the walks. -/

namespace Go.Proofs.YtjdfpoppimcikaaGreatDoor
open Go.RowKit Go.Sort

def digitChars : ByteArray := ⟨#[48, 49, 50, 51, 52, 53, 54, 55, 56, 57]⟩
def digitsB (s : ByteArray) : Bool := !(s.toList.isEmpty) && (Lib.trimS s.data.toList digitChars.data.toList).isEmpty
theorem asciiDig : ∀ (j : Nat) b, digitChars.data.toList[j]? = some b → b.toNat < 128 := by
  have h : ∀ b ∈ digitChars.data.toList, b.toNat < 128 := by decide
  exact fun j b hb => h b (List.mem_of_getElem? hb)
set_option maxHeartbeats 1600000 in
set_option maxRecDepth 100000 in
theorem gdigits_any (s : ByteArray) (w : World) (hs : s.size ≤ 1000000000) : Calls Tryz.prog 125 #[.string s] w fun e w' => e = .returned (.bool (digitsB s)) ∧ Below w.heap.size w w' := by
  have HT : Hid (Calls Tryz.prog 47 #[.string s, .string digitChars] w fun e w' => e = .returned (.string ⟨(Lib.trimS s.data.toList digitChars.data.toList).toArray⟩) ∧ Below w.heap.size w w') := Lib.hid (trim_any s digitChars w (by omega) (by decide) asciiDig)
  have HR : Hid (digitsB s = (!(s.toList.isEmpty) && (Lib.trimS s.data.toList digitChars.data.toList).isEmpty)) := Lib.hid rfl
  generalize digitsB s = r at *
  unfold digitChars at *
  generalize hz : Lib.trimS s.data.toList (⟨#[48, 49, 50, 51, 52, 53, 54, 55, 56, 57]⟩ : ByteArray).data.toList = t at *
  clear hz
  cases he : s.toList.isEmpty with
  | true =>
    have hq : (s.toList == []) = true := by simpa using he
    obtain rfl : r = false := by rw [HR.out, he]; rfl
    clear he
    go_enter Tryz.func125, Tryz.ntmps125
    go_wp2_with fail
    go_ret
    exact ⟨rfl, Below.refl _ _⟩
  | false =>
    have hq : (s.toList == []) = false := by cases h : s.toList with
      | nil => rw [h] at he; cases he
      | cons a l => rfl
    obtain rfl : r = t.isEmpty := by rw [HR.out, he]; rfl
    clear he HR
    have htt : (⟨t.toArray⟩ : ByteArray).toList = t := by rw [ByteArray.toList_eq]
    generalize hT : (⟨t.toArray⟩ : ByteArray) = T at *
    clear hT
    cases t with
    | nil =>
      have hq2 : (T.toList == []) = true := by rw [htt]; rfl
      clear htt
      go_enter Tryz.func125, Tryz.ntmps125
      go_wp2_with fail
      refine HT.out.mono ?_
      clear HT
      rintro e w1 ⟨rfl, hb⟩
      have HB := Lib.hid hb
      clear hb
      go_wp2_with fail
      go_ret
      exact ⟨rfl, HB.out⟩
    | cons a l =>
      have hq2 : (T.toList == []) = false := by rw [htt]; rfl
      clear htt
      go_enter Tryz.func125, Tryz.ntmps125
      go_wp2_with fail
      refine HT.out.mono ?_
      clear HT
      rintro e w1 ⟨rfl, hb⟩
      have HB := Lib.hid hb
      clear hb
      go_wp2_with fail
      go_ret
      exact ⟨rfl, HB.out⟩
set_option maxHeartbeats 1600000 in
set_option maxRecDepth 100000 in
theorem gcheck_any (w : World) : Calls Tryz.prog 126 #[.int .i64 3, .int .i64 0, .int .u8 44] w fun e w' => e = .returned .nilIface ∧ w' = w := by
  go_enter Tryz.func126, Tryz.ntmps126
  go_wp2_with fail
  go_ret
  exact ⟨rfl, rfl⟩
def partsF : Nat → List UInt8 → List (List UInt8)
  | 0, l => [l]
  | n + 1, l => if 3 < l.length then l.drop (l.length - 3) :: partsF n (l.take (l.length - 3)) else [l]
def partsG (l : List UInt8) : List (List UInt8) := partsF l.length l
def putG (s : ByteArray) : List UInt8 := if digitsB s then Lib.join (partsG (bts s)).reverse [44] else []
theorem parts_stop (n : Nat) (l : List UInt8) (h : ¬ 3 < l.length) : partsF n l = [l] := by
  cases n with
  | zero => rfl
  | succ n => exact if_neg h
theorem parts_sum : ∀ (n : Nat) (l : List UInt8), ((partsF n l).map List.length).sum = l.length ∧ (partsF n l).length ≤ l.length + 1
  | 0, l => ⟨by simp [partsF], by simp [partsF]⟩
  | n + 1, l => by
    unfold partsF
    split
    · obtain ⟨h1, h2⟩ := parts_sum n (l.take (l.length - 3))
      rw [List.length_take] at h1 h2
      simp only [List.map_cons, List.sum_cons, List.length_cons, List.length_drop, h1]
      omega
    · simp
theorem join_len (sep : List UInt8) : ∀ (ps : List (List UInt8)), (Lib.join ps sep).length ≤ (ps.map List.length).sum + ps.length * sep.length
  | [] => by simp [Lib.join]
  | [a] => by simp [Lib.join]
  | a :: b :: l => by
    have h := join_len sep (b :: l)
    have e : Lib.join (a :: b :: l) sep = a ++ sep ++ Lib.join (b :: l) sep := by
      show List.intercalate sep (a :: b :: l) = _
      rw [List.intercalate_cons_cons]; rfl
    rw [e]
    simp only [List.length_append, List.map_cons, List.sum_cons, List.length_cons] at h ⊢
    rw [Nat.add_mul, Nat.one_mul]
    omega
theorem putG_len (s : ByteArray) : (putG s).length ≤ 2 * s.size + 1 := by
  unfold putG
  split
  · have h1 := join_len [44] (partsG (bts s)).reverse
    obtain ⟨h2, h3⟩ : ((partsG (bts s)).map List.length).sum = (bts s).length ∧ (partsG (bts s)).length ≤ (bts s).length + 1 := parts_sum (bts s).length (bts s)
    have e1 : ((partsG (bts s)).reverse.map List.length).sum = (bts s).length := by rw [List.map_reverse, List.sum_reverse]; exact h2
    rw [e1, List.length_reverse, List.length_singleton, Nat.mul_one] at h1
    have h4 := bts_len s
    omega
  · exact Nat.zero_le _
theorem conv_comma (w : World) : (convert 58 9 (.slice (some ⟨w.heap.size, 0, none⟩) 1 1)).run Tryz.prog (w.alloc (.cells #[.int .u8 44] 5)) = .ok (.string ⟨#[44]⟩) (w.alloc (.cells #[.int .u8 44] 5)) := by
  refine run_convert_bytes_back (P := Tryz.prog) _ 58 9 5 ⟨w.heap.size, 0, none⟩ 1 [44] Tryz.underlying58 Tryz.underlying5 Tryz.underlying9 ?_
  intro j hj
  have : j = 0 := by simp at hj; omega
  subst this
  exact ((Blk.new w 5 #[.int .u8 44]).cell 0).trans rfl
theorem info_strG : (Tryz.prog.info? 9).map (fun i => (i.zero, i.size, i.bytes)) = some (some (.string ByteArray.empty), 1, 16) := by kernel_rfl
theorem one_newG (W : World) (a : Value) (t : TypeId) : ∀ q u, ([a] : List Value)[q]? = some u → (W.alloc (.cells #[a] t)).cell? ⟨W.heap.size, 0 + q, none⟩ = some u := fun q u hq => by
  rw [Nat.zero_add, (Blk.new W t #[a]).cell q]; simpa using hq
theorem strsOf_list (l : List (List UInt8)) : ∀ (n : Nat), n = l.length → Lib.strsOf (fun i => str (l.getD i [])) n = l := by
  rintro n rfl
  refine List.ext_getElem (by simp [Lib.strsOf]) fun i h1 h2 => ?_
  simp [Lib.strsOf]
  rw [List.getElem?_eq_getElem h2]
  rfl
theorem below_setAll {B g : Nat} {w : World} (hg : B ≤ g) : ∀ (vs : List Value) (o : Nat) (w' : World), Below B w w' → Below B w (w'.setCells g o vs)
  | [], _, _, h => h
  | v :: vs, o, w', h => below_setAll hg vs (o + 1) _ (h.setCell (p := ⟨g, o, none⟩) hg v)
set_option maxHeartbeats 6400000 in
set_option maxRecDepth 100000 in
theorem put_any (s : ByteArray) (w : World) (hs : s.size ≤ 1000000) :
    Calls Tryz.prog 90 #[.string s, .int .i64 3, .int .i64 0, .int .u8 44] w fun e w' => e = .returned (.tuple #[.string (str (putG s)), if digitsB s then .nilIface else .iface 67 (.int .i64 3)]) ∧ Below w.heap.size w w' := by
  have HD := Lib.hid (gdigits_any s w (by omega))
  have HC : Hid (∀ W, Calls Tryz.prog 126 #[.int .i64 3, .int .i64 0, .int .u8 44] W fun e w' => e = .returned .nilIface ∧ w' = W) := Lib.hid fun W => gcheck_any W
  have HR : Hid (putG s = if digitsB s then Lib.join (partsG (bts s)).reverse [44] else []) := Lib.hid rfl
  have hlen := putG_len s
  generalize putG s = r at *
  generalize digitsB s = b at *
  cases b with
  | false =>
    obtain rfl : r = [] := by rw [HR.out]; rfl
    go_enter Tryz.func90, Tryz.ntmps90
    go_wp2_with fail
    refine HD.out.mono ?_
    clear HD
    rintro e w1 ⟨rfl, hb⟩
    have HB := Lib.hid hb
    clear hb
    go_wp2_with fail
    go_ret2
    exact ⟨rfl, HB.out⟩
  | true =>
    have HR2 : Hid (r = Lib.join (partsG (bts s)).reverse [44]) := Lib.hid (by rw [HR.out]; rfl)
    clear HR
    go_enter Tryz.func90, Tryz.ntmps90
    go_wp2_with fail
    refine HD.out.mono ?_
    clear HD
    rintro e w1 ⟨rfl, hb⟩
    have HB := Lib.hid hb
    clear hb
    go_wp2_with fail
    refine (HC.out _).mono ?_
    clear HC
    rintro e w2 ⟨rfl, rfl⟩
    go_wp2_with fail
    go_loopw [0, 11, 12] (fun sv pv zv wr => ∃ (l : List UInt8) (ps : List (List UInt8)) (n : Nat), sv = .string (str l) ∧ zv = .int .i64 3 ∧ l.length ≤ n ∧ ps.length + n ≤ 1000002 ∧ Hid (partsG (bts s) = ps ++ partsF n l) ∧ wr.ownsRow w2.heap.size 9 1 pv ps.length (ps.map fun x => Value.string (str x)) ∧ Below w.heap.size w wr ∧ w2.heap.size ≤ wr.heap.size) (fun sv _ _ _ => match sv with | .string x => x.size | _ => 0)
    case atStart => exact ⟨bts s, [], (bts s).length, by rw [str_bts], rfl, Nat.le_refl _, by rw [bts_len]; simp; omega, Lib.hid rfl, own_nil, HB.out, Nat.le_refl _⟩
    case round =>
      obtain ⟨l, ps, n, rfl, rfl, hln, hpn, HP, hown, hbr, hsr⟩ := hrel
      obtain ⟨A, c, rfl, _⟩ := own_slice hown
      have HO := Lib.hid hown
      have HBr := Lib.hid hbr
      have hz : (str l).size = l.length := str_size l
      clear hown hbr
      by_cases hl3 : 3 < l.length
      · obtain ⟨m, rfl⟩ : ∃ m, n = m + 1 := ⟨n - 1, by omega⟩
        have HP2 : Hid (partsG (bts s) = (ps ++ [l.drop (l.length - 3)]) ++ partsF m (l.take (l.length - 3))) := Lib.hid (by
          rw [HP.out, List.append_assoc]
          congr 1
          exact if_pos hl3)
        have hl1 : (l.take (l.length - 3)).length = l.length - 3 := by rw [List.length_take]; omega
        obtain ⟨k, hk⟩ : ∃ k : Nat, l.length = k + 3 := ⟨l.length - 3, by omega⟩
        have EX := Lib.hid (extractD l 0 k)
        have EY := Lib.hid (extractD l k (str l).size)
        have i1 : (3 : Int) < ((str l).size : Int) := by omega
        have hw : wrap64 (((str l).size : Int) - 3) = (k : Int) := by unfold wrap64; omega
        have i2 : (0 : Int) ≤ (k : Int) := Int.natCast_nonneg k
        have i3 : (k : Int) ≤ ((str l).size : Int) := by omega
        have i4 : k ≤ (str l).size := by omega
        have hps : ps.length ≤ 1000000 := by omega
        have hF : Hid (l.length - 3 = k ∧ (l.take k).length + 3 = l.length ∧ (str l).size = l.length) := Lib.hid ⟨by omega, by rw [List.length_take]; omega, hz⟩
        have hkm : k ≤ m := by omega
        have hpm : ps.length + 1 + m ≤ 1000002 := by omega
        have EX2 : (str l).extract 0 k = str (l.take k) := by rw [EX.out, List.drop_zero]
        have EY2 : (str l).extract k (str l).size = str (l.drop k) := by rw [EY.out, List.take_of_length_le (by omega)]
        have HP3 : Hid (partsG (bts s) = (ps ++ [l.drop k]) ++ partsF m (l.take k)) := Lib.hid (by rw [HP2.out, hF.out.1])
        have HOw : Hid ((wr.alloc (.cells #[.string (str (l.drop k))] 9)).ownsRow w2.heap.size 9 1 (.slice A ps.length c) ps.length (ps.map fun x => Value.string (str x))) := Lib.hid (own_below HO.out ((Below.refl _ _).alloc (Nat.le_refl _) _) (Nat.le_refl _))
        have HBw : Hid (Below w.heap.size w (wr.alloc (.cells #[.string (str (l.drop k))] 9))) := Lib.hid (HBr.out.alloc (by have := HBr.out.size; omega) _)
        have hlk : (l.take k).length ≤ m := by have := hF.out.2.1; omega
        have hw2s := HB.out.size
        generalize hSY : str (l.drop k) = SY at *
        have HSY := Lib.hid hSY
        clear hSY
        clear HP HP2 hk hln hpn hl1 hl3 EX EY hz HO
        go_wp2_with (at_builtin; refine wpList_append_any rfl _ _ 211 rfl w2.heap.size 9 Tryz.underlying211 info_strG rfl (by decide) (ps.map fun x => Value.string (str x)) rfl HOw.out [.string SY] rfl rfl (.inr ⟨_, _, rfl, one_newG wr _ _⟩) (by simp [Value.oneCell']) (by unfold maxLen; omega) (by omega) (by simp; omega) ?_)
        intro v7 w7 hown7 hgrow7 _
        obtain ⟨A7, c7, hv7, _⟩ := own_slice hown7
        subst hv7
        have HO7 : Hid (w7.ownsRow w2.heap.size 9 1 (.slice A7 (ps ++ [l.drop k]).length c7) (ps ++ [l.drop k]).length ((ps ++ [l.drop k]).map fun x => Value.string (str x))) := Lib.hid (by
          rw [List.length_append, List.map_append, List.map_singleton, List.length_singleton, HSY.out]
          exact hown7)
        have HB7 : Hid (Below w.heap.size w w7) := Lib.hid (HBw.out.grown hgrow7 (by simp; omega) (fun q e => by have := (own_lt HOw.out e).1; omega))
        have hs7 : w2.heap.size ≤ w7.heap.size := by have := hgrow7.size; rw [World.size_alloc] at this; omega
        have el : (ps ++ [l.drop k]).length = ps.length + 1 := by rw [List.length_append, List.length_singleton]
        rw [el] at HO7
        clear hown7 hgrow7 HOw HBw HBr el
        go_wp2_with fail
        go_roundw
        case rel => exact ⟨l.take k, ps ++ [l.drop k], m, rfl, rfl, hlk, by rw [List.length_append, List.length_singleton]; omega, HP3, by rw [List.length_append, List.length_singleton]; exact HO7.out, HB7.out, hs7⟩
        case measure =>
          have h1 := hF.out
          show (str (l.take k)).size < (str l).size
          rw [str_size, str_size]
          omega
      · have HP2 : Hid (partsG (bts s) = ps ++ [l]) := Lib.hid (by rw [HP.out, parts_stop n l hl3])
        have i1 : ¬ ((3 : Int) < ((str l).size : Int)) := by omega
        have hps : ps.length ≤ 1000002 := by omega
        have hw2s := HB.out.size
        have HOw : Hid ((wr.alloc (.cells #[.string (str l)] 9)).ownsRow w2.heap.size 9 1 (.slice A ps.length c) ps.length (ps.map fun x => Value.string (str x))) := Lib.hid (own_below HO.out ((Below.refl _ _).alloc (Nat.le_refl _) _) (Nat.le_refl _))
        have HBw : Hid (Below w.heap.size w (wr.alloc (.cells #[.string (str l)] 9))) := Lib.hid (HBr.out.alloc (by have := HBr.out.size; omega) _)
        clear HP hl3 hz HO hln hpn
        go_wp2_with (at_builtin; refine wpList_append_any rfl _ _ 211 rfl w2.heap.size 9 Tryz.underlying211 info_strG rfl (by decide) (ps.map fun x => Value.string (str x)) rfl HOw.out [.string (str l)] rfl rfl (.inr ⟨_, _, rfl, one_newG wr _ _⟩) (by simp [Value.oneCell']) (by unfold maxLen; omega) (by omega) (by simp; omega) ?_)
        intro v7 w7 hown7 hgrow7 _
        have hPl : (partsG (bts s)).length = ps.length + 1 := by rw [HP2.out, List.length_append, List.length_singleton]
        have hown8 : w7.ownsRow w2.heap.size 9 1 v7 (partsG (bts s)).length ((partsG (bts s)).map fun x => Value.string (str x)) := by
          rw [hPl, HP2.out, List.map_append, List.map_singleton]
          exact hown7
        have HB7 : Hid (Below w.heap.size w w7) := Lib.hid (HBw.out.grown hgrow7 (by simp; omega) (fun q e => by have := (own_lt HOw.out e).1; omega))
        have hPs : (partsG (bts s)).length ≤ 1000003 := by omega
        have hjl : (Lib.join (partsG (bts s)).reverse [44]).length ≤ 1000000000 := by rw [← HR2.out]; omega
        have HJl := Lib.hid hjl
        clear hown7 hgrow7 HOw HBw HBr HP2 hlen hps hs
        generalize partsG (bts s) = P at *
        obtain ⟨g, cap, rfl, hg1, hg2⟩ := own_form hown8 (by omega)
        have hcs : ∀ i, i < P.length → w7.cell? ⟨g, 0 + i, none⟩ = some (.string (str (P.getD i []))) ∧ w7.frozen? ⟨g, 0 + i, none⟩ = false := fun i hi => by
          obtain ⟨g', hA, _, _, h3, h4⟩ := own_at hown8 i (by omega)
          injection hA with hA
          injection hA with hA
          subst hA
          rw [Nat.zero_add]
          refine ⟨?_, h4⟩
          rw [h3, List.getElem?_map, List.getElem?_eq_getElem hi, List.getD_eq_getElem?_getD, List.getElem?_eq_getElem hi]
          rfl
        have HRev : Hid (Calls Tryz.prog 127 #[.slice (some ⟨g, 0, none⟩) P.length cap] w7 fun e w' => e = .returned (.tuple #[]) ∧ ∃ q, w' = (w7.drewN q).setCells g 0 (P.reverse.map encStr)) := Lib.hid (by
          have h := Tryz.slices_Reverse_string_cells g 0 P.length cap (fun i => str (P.getD i [])) w7 (by omega) (fun i hi => (hcs i hi).1) (fun i hi => (hcs i hi).2)
          rw [strsOf_list P P.length rfl] at h
          exact h)
        have HOwn := Lib.hid hown8
        have HPl := Lib.hid hPl
        have HPs := Lib.hid hPs
        clear hcs hown8 hjl hPl hPs
        go_wp2_with fail
        refine HRev.out.mono ?_
        clear HRev
        rintro e w8 ⟨rfl, q, hw8⟩
        have hPl := HPl.out
        have hPs := HPs.out
        have hl9 : (P.reverse.map encStr).length = P.length := by rw [List.length_map, List.length_reverse]
        have hown9 : w8.ownsRow w2.heap.size 9 1 (.slice (some ⟨g, 0, none⟩) P.reverse.length cap) P.reverse.length (P.reverse.map fun x => Value.string (str x)) := by
          have h := own_setAll (P.reverse.map encStr) 0 P.length (w7.drewN q) _ (own_below HOwn.out (below_drewN (Below.refl _ _) q) (Nat.le_refl _)) (by omega)
          rw [List.take_zero, List.nil_append, Nat.zero_add, hl9, List.drop_of_length_le (by rw [List.length_map]; exact Nat.le_refl _), List.append_nil, ← hw8] at h
          rw [List.length_reverse]
          exact h
        have HB8 : Hid (Below w.heap.size w w8) := Lib.hid (by rw [hw8]; exact below_setAll (by omega) _ _ _ (below_drewN HB7.out q))
        have hb9 : Below w8.heap.size w8 (w8.alloc (.cells #[.int .u8 44] 5)) := (Below.refl _ _).alloc (Nat.le_refl _) _
        have HJ := Lib.hid (join_anyJ _ P.reverse [44] w2.heap.size (w8.alloc (.cells #[.int .u8 44] 5)) (own_below hown9 hb9 (Nat.le_refl _)) (by rw [List.length_reverse]; omega) HJl.out)
        rw [List.length_reverse] at HJ
        have HB9 : Hid (Below w.heap.size w (w8.alloc (.cells #[.int .u8 44] 5))) := Lib.hid (HB8.out.trans (hb9.mono HB8.out.size))
        have hcv := conv_comma w8
        clear hw8 hl9 hown9 hb9 HOwn HB7 HB8 hPl hPs
        go_wp2_with fail
        refine HJ.out.mono ?_
        clear HJ
        rintro e w10 ⟨rfl, hb10⟩
        have HB10 := Lib.hid (HB9.out.trans (hb10.mono HB9.out.size))
        clear hb10 hcv
        go_wp2_with fail
        go_ret2
        exact ⟨by rw [HR2.out]; rfl, HB10.out⟩
end Go.Proofs.YtjdfpoppimcikaaGreatDoor
