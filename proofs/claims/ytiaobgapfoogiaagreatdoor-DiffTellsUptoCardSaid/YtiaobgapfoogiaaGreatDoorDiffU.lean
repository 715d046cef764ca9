/- diff.Of and diff.Apply told in one form each; two bundles that are the same are told so. -/
import Derived.Test.YtiaobgapfoogiaaGreatDoorApply
import Derived.Test.YtiaobgapfoogiaaGreatDoorQApply
import Derived.Test.YtiaobgapfoogiaaGreatDoorDiffers
import Derived.Test.YtiaobgapfoogiaaGreatDoorTold
import Derived.Laws.StructEq
set_option linter.unusedSimpArgs false
set_option linter.unusedVariables false
namespace Go.Proofs.YtiaobgapfoogiaaGreatDoor
open Go.RowKit Go.Maps

def ofTag (a b : Bun) : ByteArray := if bothFault a b = 0 then b.tag else ByteArray.empty
def ofPut (a b : Bun) : List Ent := if bothFault a b = 0 then diffPut a.ents b.ents else []
def ofGone (a b : Bun) : List ByteArray := if bothFault a b = 0 then diffGone a.ents b.ents else []
def apTag (a p : Bun) (gone : List ByteArray) : ByteArray := if applyFault a p gone = 0 then p.tag else ByteArray.empty
def apEnts (a p : Bun) (gone : List ByteArray) : List Ent := if applyFault a p gone = 0 then applied a.ents p.ents gone else []
theorem both_right {a b : Bun} (h : bothFault a b = 0) : Right a ∧ Right b := by
  unfold bothFault at h
  split at h
  · rename_i h1; exact ⟨(right_iff a).1 h1, (right_iff b).1 h⟩
  · rename_i h1; exact absurd h h1
theorem ofPut_len (a b : Bun) : (ofPut a b).length ≤ 100 := by
  unfold ofPut
  split
  · rename_i h; exact Nat.le_trans (put_len (both_right h).2.uniq) (both_right h).2.len
  · exact Nat.zero_le _
theorem ofGone_len (a b : Bun) : (ofGone a b).length ≤ 100 := by
  unfold ofGone
  split
  · rename_i h; exact Nat.le_trans (out_len (both_right h).1.uniq) (both_right h).1.len
  · exact Nat.zero_le _
theorem apEnts_len (a p : Bun) (gone : List ByteArray) : (apEnts a p gone).length ≤ 100 := by
  unfold apEnts
  split
  · rename_i h
    unfold applyFault at h
    split at h
    · unfold applyErr at h
      split at h
      · split at h
        · cases h
        · omega
      · rename_i h1; exact absurd h h1
    · rename_i h1; exact absurd h h1
  · exact Nat.zero_le _
theorem of_any (a b : Bun) (u v : Value) (w : World) (ha : BunIn w a u) (hb : BunIn w b v) (hm : MaxVar w) :
    Calls Tryz.prog 8 #[.agg #[.string a.tag, u], .agg #[.string b.tag, v]] w fun e w' => Below w.heap.size w w' ∧ ∃ V L, e = .returned (.tuple #[.agg #[.string (ofTag a b), V], L, errV (bothFault a b)]) ∧
      w'.ownsRow w.heap.size 33 2 V (ofPut a b).length (flatE (ofPut a b)) ∧ w'.ownsRow w.heap.size 9 1 L (ofGone a b).length ((ofGone a b).map .string) := by
  refine (diffOf_any a b u v w ha hb hm).mono ?_
  rintro e w' ⟨hbl, ⟨hf, rfl⟩ | ⟨hf, V, L, rfl, h1, h2⟩⟩
  · unfold ofTag ofPut ofGone
    rw [if_neg hf, if_neg hf, if_neg hf]
    exact ⟨hbl, _, _, rfl, own_nil, own_nil⟩
  · unfold ofTag ofPut ofGone
    rw [if_pos hf, if_pos hf, if_pos hf, hf]
    exact ⟨hbl, _, _, rfl, h1, h2⟩
theorem ap_any (a b : Bun) (gone : List ByteArray) (u v g : Value) (glo : Nat) (w : World) (ha : BunIn w a u) (hb : BunIn w b v) (hg : ListOk Enc.str w glo w.heap.size g gone) (hgl : gone.length ≤ 140737488355328) (hgs : ∀ x ∈ gone, x.size ≤ maxLen) (hm : MaxVar w) :
    Calls Tryz.prog 10 #[.agg #[.string a.tag, u], .agg #[.string b.tag, v], g] w fun e w' => Below w.heap.size w w' ∧ ∃ V, e = .returned (.tuple #[.agg #[.string (apTag a b gone), V], errV (applyFault a b gone)]) ∧
      w'.ownsRow w.heap.size 33 2 V (apEnts a b gone).length (flatE (apEnts a b gone)) := by
  refine (apply_any a b gone u v g glo w ha hb hg hgl hgs hm).mono ?_
  rintro e w' ⟨hbl, ⟨hf, rfl⟩ | ⟨hf, V, rfl, h1⟩⟩
  · unfold apTag apEnts
    rw [if_neg hf, if_neg hf]
    exact ⟨hbl, _, rfl, own_nil⟩
  · unfold apTag apEnts
    rw [if_pos hf, if_pos hf, hf]
    exact ⟨hbl, _, rfl, h1⟩
/-- the document's two, under right bundles -/
theorem qdiff_right {a b : Bun} (h : bothFault a b = 0) (u v : Value) (w : World) (ha : BunIn w a u) (hb : BunIn w b v) :
    Calls Tryz.prog 14 #[.agg #[.string a.tag, u], .agg #[.string b.tag, v]] w fun e w' => Below w.heap.size w w' ∧ ∃ V L, e = .returned (.tuple #[.agg #[.string (ofTag a b), V], L]) ∧
      w'.ownsRow w.heap.size 33 2 V (ofPut a b).length (flatE (ofPut a b)) ∧ w'.ownsRow w.heap.size 9 1 L (ofGone a b).length ((ofGone a b).map .string) := by
  obtain ⟨hra, hrb⟩ := both_right h
  refine (qdiff_any a b u v w ha hb (Nat.le_trans hra.len (by decide)) (Nat.le_trans hrb.len (by decide))).mono ?_
  rintro e w' ⟨hbl, V, L, rfl, h1, h2⟩
  unfold ofTag ofPut ofGone
  rw [if_pos h, if_pos h, if_pos h]
  rw [putQ_is hrb.uniq] at h1
  rw [outQ_is hra.uniq] at h2
  refine ⟨hbl, _, _, rfl, h1, ?_⟩
  have e1 : (outQ a.ents b.ents).length = (diffGone a.ents b.ents).length := by
    rw [← outQ_is hra.uniq, sortT_length, List.length_map]
  rw [e1] at h2
  exact h2
theorem qapply_right {a p : Bun} (h : bothFault a p = 0) (gone : List ByteArray) (u v g : Value) (glo : Nat) (w : World) (ha : BunIn w a u) (hb : BunIn w p v) (hg : ListOk Enc.str w glo w.heap.size g gone) (hgl : gone.length ≤ 140737488355328) :
    Calls Tryz.prog 15 #[.agg #[.string a.tag, u], .agg #[.string p.tag, v], g] w fun e w' => Below w.heap.size w w' ∧ ∃ V, e = .returned (.tuple #[.agg #[.string (apTag a p gone), V], .int .i64 (applyFault a p gone)]) ∧
      w'.ownsRow w.heap.size 33 2 V (apEnts a p gone).length (flatE (apEnts a p gone)) := by
  obtain ⟨hra, hrb⟩ := both_right h
  refine (qapply_any a p gone u v g glo w ha hb hg hgl (Nat.le_trans hra.len (by decide)) (Nat.le_trans hrb.len (by decide))).mono ?_
  have hE : applyErrR a.ents p.ents gone = applyFault a p gone := by
    rw [applyErrR_is hra.uniq hrb.uniq]; unfold applyFault; rw [if_pos h]
  rw [hE]
  have hS : qSorted (rest a.ents p.ents gone) = applied a.ents p.ents gone := by
    rw [qSorted_srt (rest_uniq hra.uniq hrb.uniq gone), ← applied_srt hra.uniq hrb.uniq]
  have hl : (rest a.ents p.ents gone).length = (applied a.ents p.ents gone).length := (applied_rest hra.uniq hrb.uniq gone).length_eq.symm
  rw [hS, hl]
  rintro e w' ⟨hbl, ⟨hf, rfl⟩ | ⟨hf, V, rfl, h1⟩⟩
  · unfold apTag apEnts
    rw [if_neg hf, if_neg hf]
    exact ⟨hbl, _, rfl, own_nil⟩
  · unfold apTag apEnts
    rw [if_pos hf, if_pos hf, hf]
    exact ⟨hbl, _, rfl, h1⟩

set_option maxHeartbeats 1600000 in
set_option maxRecDepth 100000 in
theorem sbun_same (bt : ByteArray) (l : List Ent) (u v : Value) (lo hi lo' hi' : Nat) (w : World) (hu : ListOk Enc.ent w lo hi u l) (hv : ListOk Enc.ent w lo' hi' v l) (h1 : hi ≤ w.heap.size) (h2 : hi' ≤ w.heap.size) (hn : l.length ≤ 4398046511104) :
    Calls Tryz.prog 11 #[.agg #[.string bt, u], .agg #[.string bt, v]] w fun e w' => e = .returned (.bool true) ∧ Below w.heap.size w w' := by
  obtain ⟨A, c, rfl, _⟩ := hu.form
  obtain ⟨B, d, rfl, _⟩ := hv.form
  have HU : Hid (∀ W, Below w.heap.size w W → ListOk Enc.ent W lo hi (.slice A l.length c) l) := Lib.hid fun W hW => hu.keep Enc.ent_laws (Alk.mono (Alk.of_below hW) (Nat.zero_le _) h1)
  have HV : Hid (∀ W, Below w.heap.size w W → ListOk Enc.ent W lo' hi' (.slice B l.length d) l) := Lib.hid fun W hW => hv.keep Enc.ent_laws (Alk.mono (Alk.of_below hW) (Nat.zero_le _) h2)
  clear hu hv
  have hbt : (bt.toList == bt.toList) = true := by simp
  go_enter Tryz.func11, Tryz.ntmps11
  go_wp2_with fail
  obtain ⟨W2, eW2⟩ : ∃ W2, W2 = (w.alloc (.cells #[.string bt, .slice A l.length c] 24)).alloc (.cells #[.string bt, .slice B l.length d] 24) := ⟨_, rfl⟩
  have mb : Blk W2 w.heap.size 24 #[.string bt, .slice A l.length c] := by rw [eW2]; exact (Blk.new _ _ _).alloc _
  have mr : Blk W2 (w.heap.size + 1) 24 #[.string bt, .slice B l.length d] := by
    rw [eW2]
    have := Blk.new (w.alloc (.cells #[.string bt, .slice A l.length c] 24)) 24 #[.string bt, .slice B l.length d]
    rw [World.size_alloc] at this; exact this
  have hb2 : Below w.heap.size w W2 := by rw [eW2]; exact ((Below.refl _ _).alloc (Nat.le_refl _) _).alloc (by simp) _
  have HMb := Lib.hid mb
  have HMr := Lib.hid mr
  have HB2 := Lib.hid hb2
  rw [← eW2]
  clear eW2 mb mr hb2
  go_loopw [5] (fun i wr => ∃ j : Nat, j ≤ l.length ∧ i = .int .i64 j ∧ ∃ n, wr = W2.drewN n) (fun i _ => l.length - (intOf i).toNat)
  case atStart => exact ⟨0, Nat.zero_le _, rfl, 0, rfl⟩
  case round =>
    obtain ⟨j, hj, rfl, n, rfl⟩ := hrel
    have k1 := HMb.out.cell 1
    have k2 := HMr.out.cell 1
    simp at k1 k2
    by_cases hlt : j < l.length
    · obtain ⟨b1, o1, rfl, p1, p2, x0, x1⟩ := (HU.out _ HB2.out).entAt j hlt
      obtain ⟨b2, o2, rfl, p3, p4, y0, y1⟩ := (HV.out _ HB2.out).entAt j hlt
      generalize l[j] = e at *
      obtain ⟨ky, tx⟩ := e
      dsimp only at x0 x1 y0 y1
      have hk : (ky.toList == ky.toList) = true := by simp
      have ht : (tx.toList == tx.toList) = true := by simp
      go_wp2_with fail
      go_quiet (fail)
      go_wp2
      go_roundw
      case rel => exact ⟨j + 1, by omega, by go_num, _, rfl⟩
      case measure => simp [intOf]; omega
    · go_wp2_with fail
      go_ret
      exact ⟨rfl, below_drawn HB2.out n⟩
/-- a row of entries that a call left behind, read in a later world -/
theorem ents_later {w w' : World} {B : Nat} {v : Value} {l : List Ent} (h : w.ownsRow B 33 2 v l.length (flatE l)) (hb : Below w.heap.size w w') : ListOk Enc.ent w' 0 w.heap.size v l :=
  ((ents_of_own h (Nat.le_refl _) (Nat.le_refl _)).below Enc.ent_laws hb).mono Enc.ent_laws (Nat.zero_le _) (Nat.le_refl _)
theorem strs_later {w w' : World} {B : Nat} {v : Value} {l : List ByteArray} (h : w.ownsRow B 9 1 v l.length (l.map .string)) (hb : Below w.heap.size w w') : ListOk Enc.str w' 0 w.heap.size v l :=
  ((ListOk.strs_of_own h (Nat.le_refl _) (Nat.le_refl _)).below Enc.str_laws hb).mono Enc.str_laws (Nat.zero_le _) (Nat.le_refl _)
end Go.Proofs.YtiaobgapfoogiaaGreatDoor
