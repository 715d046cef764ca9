/- Maps of words: look-ups; their keys by order. -/
import Derived.Test.YtiaobgapfoogiaaGreatDoorPropC
import Derived.Test.YtiaobgapfoogiaaGreatDoorDiffP
import Derived.Test.YtiaobgapfoogiaaGreatDoorLayM
import Derived.Maps.StringElems
import Derived.Shelf.SlIter.Nil
import Derived.Shelf.SortM.Plain
import Derived.Shelf.SortM.SortNone
set_option linter.unusedSimpArgs false
set_option linter.unusedVariables false
namespace Go.Proofs.YtiaobgapfoogiaaGreatDoor
open Go.RowKit Go.Maps Go.Sort Go.Shelf

abbrev OwnsW (w : World) (b n : Nat) (S : List Ent) : Prop := w.ownsMap Tryz.prog 9 (plainElem (H := Unit) Tryz.prog 9) b n (toD S)
theorem zero_str (w : World) : (zeroValue 9).run Tryz.prog w = .ok (.string ByteArray.empty) w := by kernel_rfl
theorem key_str {k : ByteArray} (hk : k.size ≤ maxLen) : keyOf Tryz.prog 9 (.string k) = some (.string (bts k)) := Go.WideMaps.keyOf_string_mk Tryz.underlying9 hk
theorem text_of_at {S : List Ent} {k : ByteArray} {v : Value} {ps : List MemPlace} (h : plainElem (H := Unit) Tryz.prog 9 v = some ((toD S).atKey (.string (bts k)) (.lit (.string [])), ps)) : v = .string ((textK S k).getD ByteArray.empty) := by
  obtain ⟨s, rfl, hz, _⟩ := plainElem_string_inv Tryz.underlying9 h
  have h1 := congrArg Prod.fst hz
  rw [toD_at] at h1
  cases ht : textK S k with
  | none =>
    rw [ht] at h1
    have h3 : (DataW.lit (.string []) : DataW Unit) = .lit (.string (bts s)) := h1
    have h2 : ([] : List UInt8) = bts s := Lit.string.inj (DataW.lit.inj h3)
    have : s = ByteArray.empty := bts_inj h2.symm
    rw [this]; rfl
  | some t =>
    rw [ht] at h1
    have h3 : (DataW.lit (.string (bts t)) : DataW Unit) = .lit (.string (bts s)) := h1
    have h2 : bts t = bts s := Lit.string.inj (DataW.lit.inj h3)
    rw [bts_inj h2]; rfl
theorem look_ok_str {w : World} {b n : Nat} {S : List Ent} (h : OwnsW w b n S) (k : ByteArray) (hk : k.size ≤ maxLen) :
    (Instr.lookup 53 (.map (some b)) (.string k) true).run Tryz.prog w = .ok (.tuple #[.string ((textK S k).getD ByteArray.empty), .bool (hasK S k)]) w := by
  obtain ⟨v, ps, hrun, hv⟩ := h.look_ok lawS Tryz.underlying53 (zero_str w) (zd := .lit (.string [])) (zp := []) (plainElem_string Tryz.underlying9 (by decide)) (key_str hk)
  rw [toD_has] at hrun
  rw [text_of_at hv] at hrun
  exact hrun
theorem look_str {w : World} {b n : Nat} {S : List Ent} (h : OwnsW w b n S) (k : ByteArray) (hk : k.size ≤ maxLen) :
    (Instr.lookup 53 (.map (some b)) (.string k) false).run Tryz.prog w = .ok (.string ((textK S k).getD ByteArray.empty)) w := by
  obtain ⟨v, ps, hrun, hv⟩ := h.lookup lawS Tryz.underlying53 (zero_str w) (zd := .lit (.string [])) (zp := []) (plainElem_string Tryz.underlying9 (by decide)) (key_str hk)
  rw [text_of_at hv] at hrun
  exact hrun
theorem OwnsW.below {w w' : World} {b n B : Nat} {S : List Ent} (h : OwnsW w b n S) (hb : Below B w w') (hB : b < B) : OwnsW w' b n S := ownsMap_below h hb hB

/- ## slices.Sorted(maps.Keys(m)) -/
theorem encStr_key (k : ByteArray) : encStr (bts k) = .string k := by show Value.string ⟨(bts k).toArray⟩ = _; exact congrArg Value.string (str_bts k)
theorem keys_any (mb : Option Nat) (w : World) : Calls Tryz.prog 25 #[.map mb] w fun e w' =>
    e = .returned (.func (.func 38) #[] #[.pointer (some ⟨w.heap.size, 0, none⟩)]) ∧ w' = w.alloc (.cells #[.map mb] 53) :=
  callsIn_wide.1 (AnyZ.keys_in Tryz.layKeys Fence.wide 5 trivial rfl mb w)
theorem sorts (m : Nat) : AnyZ.SortsIn Tryz.prog Tryz.laySorted_ren Fence.wide m :=
  ⟨fun blk off cap ss W hH hblk hsz => callsIn_wide.2 (AnyM.slices_Sort_string Tryz.laySort blk off cap ss W hH hblk hsz),
   fun p cap W => callsIn_wide.2 (AnyM.slices_Sort_string_none Tryz.laySort p cap W)⟩
set_option maxHeartbeats 1000000 in
theorem sorted_gen (b nn p : Nat) (S : List Ent) (hS : Srt S) (W : World) (hc : W.cell? ⟨p, 0, none⟩ = some (.map (some b))) (hp : p < W.heap.size) (hown : OwnsW W b nn S) (hl : S.length ≤ 1000000) :
    Calls Tryz.prog 24 #[.func (.func 38) #[] #[.pointer (some ⟨p, 0, none⟩)]] W fun e w' =>
      ∃ v, e = .returned v ∧ w'.ownsRow W.heap.size 9 1 v S.length (S.map fun e => .string e.key) ∧ Below W.heap.size W w' := by
  have hseq : SeqGives Fence.wide 2 Tryz.prog 38 #[.pointer (some ⟨p, 0, none⟩)] encStr (fun ss => ss.Perm (strKeys (toD S))) (Maps.size (toD S)) W :=
    AnyZ.keys_gives (ρ := Tryz.layKeys_ren) { Tryz.layKeys with } Fence.wide _ trivial rfl (by omega) p b nn (toD S) _ hp hc hown
  have h := AnyZ.sorted_in Tryz.laySorted Fence.wide 5 trivial trivial trivial trivial rfl (by omega) (sorts _) (enters_of Tryz.func37 (by kernel_rfl) rfl) 38 #[.pointer (some ⟨p, 0, none⟩)] trivial (enters_of Tryz.func38 (by kernel_rfl) rfl) _ _ (by rw [toD_size]; unfold maxLen; omega) (by rw [toD_size]; omega) _ hseq
  refine (callsIn_wide.1 h).mono fun e w' ⟨v, ss, he, hpm, hrow, _, hb⟩ => ⟨v, he, ?_, hb⟩
  rw [sorted_keys hS hpm] at hrow
  have hl2 : ss.length = S.length := by rw [hpm.length_eq, toD_keys, List.length_map]
  rw [hl2] at hrow
  have e1 : (S.map fun e => bts e.key).map encStr = S.map fun e => Value.string e.key := by
    rw [List.map_map]
    exact List.map_congr_left fun e _ => encStr_key e.key
  rw [e1] at hrow
  exact hrow
theorem sorted_any (b nn : Nat) (S : List Ent) (hS : Srt S) (w : World) (hown : OwnsW w b nn S) (hl : S.length ≤ 1000000) :
    Calls Tryz.prog 24 #[.func (.func 38) #[] #[.pointer (some ⟨w.heap.size, 0, none⟩)]] (w.alloc (.cells #[.map (some b)] 53)) fun e w' =>
      ∃ v, e = .returned v ∧ w'.ownsRow (w.heap.size + 1) 9 1 v S.length (S.map fun e => .string e.key) ∧ Below (w.heap.size + 1) (w.alloc (.cells #[.map (some b)] 53)) w' := by
  have h := sorted_gen b nn w.heap.size S hS (w.alloc (.cells #[.map (some b)] 53)) (by simp) (by simp) (World.ownsMap.alloc hown _) hl
  rw [World.size_alloc] at h
  exact h
end Go.Proofs.YtiaobgapfoogiaaGreatDoor
