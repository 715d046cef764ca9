/- The walk of package pick: names; of package chain: Within. -/
import Derived.Test.YtiaobgapfoogiaaGreatDoorOwnTags
import Derived.Test.YtiaobgapfoogiaaGreatDoorParse
set_option linter.unusedSimpArgs false
set_option linter.unusedVariables false
namespace Go.Proofs.YtiaobgapfoogiaaGreatDoor
open Go.RowKit

/-- What is asked of a list of tags that is handed in. -/
structure TagsIn (w : World) (v : Value) (l : List Tg) : Prop where
  lo : ∃ lo, ListOk Enc.tag w lo w.heap.size v l
  len : l.length * 72 ≤ 140737488355328
  each : ∀ t ∈ l, t.vars.length * 16 ≤ 140737488355328 ∧ (∀ s ∈ t.vars, s.size ≤ 9223372036854775807) ∧ t.lang.size ≤ 9223372036854775807 ∧ t.script.size ≤ 9223372036854775807 ∧ t.region.size ≤ 9223372036854775807
theorem TagsIn.below {w w' : World} {v : Value} {l : List Tg} (h : TagsIn w v l) (hb : Below w.heap.size w w') : TagsIn w' v l :=
  ⟨let ⟨lo, hl⟩ := h.lo; ⟨lo, (hl.below Enc.tag_laws hb).mono Enc.tag_laws (Nat.le_refl _) hb.size⟩, h.len, h.each⟩
theorem TagsIn.tagAt {w : World} {A : Option Addr} {n c : Nat} {l : List Tg} (h : TagsIn w (.slice A n c) l) (i : Nat) (hl : i < l.length) :
    ∃ b o V, A = some ⟨b, o, none⟩ ∧ b < w.heap.size ∧ w.cell? ⟨b, o + i * 4, none⟩ = some (.string l[i].lang) ∧ w.cell? ⟨b, o + i * 4 + 1, none⟩ = some (.string l[i].script) ∧ w.cell? ⟨b, o + i * 4 + 2, none⟩ = some (.string l[i].region) ∧ w.cell? ⟨b, o + i * 4 + 3, none⟩ = some V ∧ TagIn w (l[i], V) := by
  obtain ⟨lo, hlo⟩ := h.lo
  obtain ⟨b, o, V, hA, _, h2, x0, x1, x2, x3, xl⟩ := hlo.tagAt i hl
  have he := h.each _ (List.getElem_mem hl)
  exact ⟨b, o, V, hA, h2, x0, x1, x2, x3, ⟨lo, xl⟩, by dsimp only; omega, he.2.1, he.2.2.1, he.2.2.2.1, he.2.2.2.2⟩
theorem text_ok (p : Tg × Value) (w : World) (h : TagIn w p) (hf : tagFault p.1 = 0) :
    Calls Tryz.prog 59 #[.agg #[.string p.1.lang, .string p.1.script, .string p.1.region, p.2]] w fun e w' => e = .returned (.string (tagText p.1)) ∧ Below w.heap.size w w' :=
  text_any p w h (by have := (tag_sizes hf).2.2.2.1; omega) (by have := tagText_size hf; omega)

def namesF (l : List Tg) : Int := firstN (fun q => tagFault (l.getD q noTg)) l.length
theorem getD_tag {l : List Tg} {q : Nat} (h : q < l.length) : l.getD q noTg = l[q] := by rw [List.getD_eq_getElem?_getD, List.getElem?_eq_getElem h]; rfl
theorem namesF_bad {l : List Tg} (j : Nat) (hj : j < l.length) (h0 : ∀ q (h : q < l.length), q < j → tagFault l[q] = 0) (h : tagFault l[j] ≠ 0) : namesF l = tagFault l[j] := by
  have := firstN_at (fun q => tagFault (l.getD q noTg)) j (fun q hq => by rw [getD_tag (by omega)]; exact h0 q (by omega) hq) (by rw [getD_tag hj]; exact h) l.length hj
  rw [getD_tag hj] at this; exact this
theorem namesF_zero {l : List Tg} (h0 : ∀ q (h : q < l.length), tagFault l[q] = 0) : namesF l = 0 :=
  firstN_zero _ _ fun q hq => by rw [getD_tag hq]; exact h0 q hq
theorem namesF_all {l : List Tg} (h : namesF l = 0) : ∀ t ∈ l, tagFault t = 0 := by
  intro t ht
  obtain ⟨q, hq, rfl⟩ := List.getElem_of_mem ht
  have := (firstN_zero_iff _ _).1 h q hq
  rw [getD_tag hq] at this; exact this

end Go.Proofs.YtiaobgapfoogiaaGreatDoor
/- Picking a tag, plainly. No program. -/

namespace Go.Proofs.YtiaobgapfoogiaaGreatDoor
open Go.RowKit

/-- Short parts, few of them: what a right tag and all its chain have. -/
structure Small (t : Tg) : Prop where
  lang : t.lang.size ≤ 8
  script : t.script.size ≤ 8
  region : t.region.size ≤ 8
  len : t.vars.length ≤ 3
  vars : ∀ v ∈ t.vars, v.size ≤ 8
theorem small_of {t : Tg} (h : tagFault t = 0) : Small t := let ⟨a, b, c, d, e⟩ := tag_sizes h; ⟨a, b, c, d, e⟩
theorem small_text {t : Tg} (h : Small t) : (tagText t).size ≤ 54 := by
  have hl : (parts t).length ≤ 6 := by
    refine Nat.le_trans (List.length_filter_le _ _) ?_
    have := h.len
    simp; omega
  have := join_size ((parts t).map bts) (fun x hx => by
    obtain ⟨p, hp, rfl⟩ := List.mem_map.1 hx
    rw [bts_len]
    have hm := (List.mem_filter.1 hp).1
    simp only [List.cons_append, List.nil_append, List.mem_cons] at hm
    rcases hm with rfl | rfl | rfl | hm
    · exact h.lang
    · exact h.script
    · exact h.region
    · exact h.vars p hm)
  have e : (tagText t).size = (Lib.join ((parts t).map bts) [45]).length := str_size _
  rw [e]
  rw [List.length_map] at this
  omega
theorem small_less {t u : Tg} (h : Small t) (hu : less t = some u) : Small u := by
  have h0 : ByteArray.empty.size ≤ 8 := Nat.zero_le _
  unfold less at hu
  split at hu
  · injection hu with hu
    rw [← hu]
    exact ⟨h.lang, h.script, h.region, by have := h.len; simp; omega, fun v hv => h.vars v (List.mem_of_mem_take hv)⟩
  · split at hu
    · split at hu
      · cases hu
      · injection hu with hu
        rw [← hu]
        exact ⟨h.lang, h0, h.region, h.len, h.vars⟩
    · injection hu with hu
      rw [← hu]
      exact ⟨h.lang, h.script, h0, h.len, h.vars⟩
theorem small_chainN : ∀ (n : Nat) (t : Tg), Small t → ∀ u ∈ chainN n t, Small u
  | 0, t, h, u, hu => by rw [List.mem_singleton.1 hu]; exact h
  | n + 1, t, h, u, hu => by
    unfold chainN at hu
    split at hu
    · rename_i x hx
      rcases List.mem_cons.1 hu with rfl | hu
      · exact h
      · exact small_chainN n x (small_less h hx) u hu
    · rw [List.mem_singleton.1 hu]; exact h
theorem small_chain {t : Tg} (h : Small t) : ∀ u ∈ chainOf t, Small u := small_chainN _ t h
theorem chain_six {t : Tg} (h : Small t) : (chainOf t).length ≤ 6 := by
  refine Nat.le_trans (chainOf_length t) ?_
  have := h.len
  unfold deg
  split <;> split <;> omega
theorem small_in {w : World} {p : Tg × Value} (h : Small p.1) {lo : Nat} (hl : ListOk Enc.str w lo w.heap.size p.2 p.1.vars) : TagIn w p :=
  ⟨⟨lo, hl⟩, by have := h.len; omega, fun s hs => Nat.le_trans (h.vars s hs) (by omega), Nat.le_trans h.lang (by omega), Nat.le_trans h.script (by omega), Nat.le_trans h.region (by omega)⟩
theorem text_small (p : Tg × Value) (w : World) (h : Small p.1) {lo : Nat} (hl : ListOk Enc.str w lo w.heap.size p.2 p.1.vars) :
    Calls Tryz.prog 59 #[.agg #[.string p.1.lang, .string p.1.script, .string p.1.region, p.2]] w fun e w' => e = .returned (.string (tagText p.1)) ∧ Below w.heap.size w w' :=
  text_any p w (small_in h hl) (by have := h.len; omega) (by have := small_text h; omega)

def hitL (ls : List ByteArray) : List Tg → Int
  | [] => -1
  | x :: r => if 0 ≤ Lib.idxOfS ls (tagText x) then Lib.idxOfS ls (tagText x) else hitL ls r
def Miss (ls : List ByteArray) (cs : List Tg) : Prop := ∀ x ∈ cs, ¬ 0 ≤ Lib.idxOfS ls (tagText x)
theorem hitL_miss {ls : List ByteArray} : ∀ {cs : List Tg}, Miss ls cs → hitL ls cs = -1
  | [], _ => rfl
  | x :: r, h => by
    unfold hitL
    rw [if_neg (h x List.mem_cons_self)]
    exact hitL_miss fun y hy => h y (List.mem_cons_of_mem _ hy)
theorem hitL_found {ls : List ByteArray} : ∀ {a : List Tg} (x : Tg) (b : List Tg), Miss ls a → 0 ≤ Lib.idxOfS ls (tagText x) → hitL ls (a ++ x :: b) = Lib.idxOfS ls (tagText x)
  | [], x, b, _, h => by
    show (if _ then _ else _) = _
    rw [if_pos h]
  | y :: a, x, b, hm, h => by
    show (if _ then _ else _) = _
    rw [if_neg (hm y List.mem_cons_self)]
    exact hitL_found x b (fun z hz => hm z (List.mem_cons_of_mem _ hz)) h
theorem Miss.append {ls : List ByteArray} {a b : List Tg} (h : Miss ls a) (k : Miss ls b) : Miss ls (a ++ b) := fun x hx => (List.mem_append.1 hx).elim (h x) (k x)
def pickOf (want have_ : List Tg) : Int × Int :=
  if namesF want ≠ 0 then (0, namesF want) else if namesF have_ ≠ 0 then (0, namesF have_)
  else if 0 ≤ hitL (have_.map tagText) (want.flatMap chainOf) then (hitL (have_.map tagText) (want.flatMap chainOf), 0) else (0, 2)
theorem flat_take {l : List Tg} (j : Nat) (hj : j < l.length) : (l.take (j + 1)).flatMap chainOf = (l.take j).flatMap chainOf ++ chainOf l[j] := by
  have e : l.take (j + 1) = l.take j ++ [l[j]] := by rw [List.take_add_one, List.getElem?_eq_getElem hj]; rfl
  rw [e, List.flatMap_append]; simp
theorem flat_split {l : List Tg} (j : Nat) (hj : j < l.length) (q : Nat) (hq : q < (chainOf l[j]).length) :
    ∃ rest, l.flatMap chainOf = ((l.take j).flatMap chainOf ++ (chainOf l[j]).take q) ++ (chainOf l[j])[q] :: rest := by
  refine ⟨(chainOf l[j]).drop (q + 1) ++ (l.drop (j + 1)).flatMap chainOf, ?_⟩
  have e1 : l.flatMap chainOf = (l.take (j + 1)).flatMap chainOf ++ (l.drop (j + 1)).flatMap chainOf := by
    rw [← List.flatMap_append, List.take_append_drop]
  have e2 : chainOf l[j] = (chainOf l[j]).take q ++ (chainOf l[j])[q] :: (chainOf l[j]).drop (q + 1) := by
    rw [List.getElem_cons_drop, List.take_append_drop]
  rw [e1, flat_take j hj]
  generalize chainOf l[j] = C at *
  calc _ = (l.take j).flatMap chainOf ++ (C ++ (l.drop (j + 1)).flatMap chainOf) := by rw [List.append_assoc]
    _ = (l.take j).flatMap chainOf ++ ((C.take q ++ C[q] :: C.drop (q + 1)) ++ (l.drop (j + 1)).flatMap chainOf) := by rw [← e2]
    _ = _ := by simp only [List.append_assoc, List.cons_append]
end Go.Proofs.YtiaobgapfoogiaaGreatDoor
/- The walk of package pick: Pick. -/

namespace Go.Proofs.YtiaobgapfoogiaaGreatDoor
open Go.RowKit

end Go.Proofs.YtiaobgapfoogiaaGreatDoor
