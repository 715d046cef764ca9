/- What the statements on what is new ask, plainly. No program. -/
import Derived.Test.YtiaobgapfoogiaaGreatDoorDiffP
namespace Go.Proofs.YtiaobgapfoogiaaGreatDoor
open Go.RowKit Go.Maps

theorem entIdx_mem {l : List Ent} (hu : Uniq l) {e : Ent} (he : e ∈ l) : ∃ (y : Nat) (h : y < l.length), entIdx l e.key = some y ∧ l[y] = e := by
  obtain ⟨y, hy, rfl⟩ := List.getElem_of_mem he
  refine ⟨y, hy, ?_, rfl⟩
  unfold entIdx
  refine findIdx_at l _ y hy (eqs_self _) fun q hq hqy => ?_
  exact (eqs_false _ _).2 (List.pairwise_iff_getElem.1 hu q y hq hy hqy)
theorem entIdx_key {l : List Ent} {k : ByteArray} {x : Nat} (h : entIdx l k = some x) : ∃ hx : x < l.length, l[x].key = k := by
  unfold entIdx at h
  rw [List.findIdx?_eq_some_iff_getElem] at h
  exact ⟨h.1, (eqs_iff _ _).1 h.2.1⟩
theorem entIdx_no {l : List Ent} {k : ByteArray} : entIdx l k = none ↔ hasK l k = false := by
  unfold entIdx hasK
  rw [List.findIdx?_eq_none_iff, List.any_eq_false]
  constructor
  · intro h x hx; rw [h x hx]; simp
  · intro h x hx; simpa using h x hx
/-- each entry that is put is one of the other bundle, and none of the one -/
theorem put_there {a b : List Ent} (ha : Uniq a) (hb : Uniq b) {e : Ent} (he : e ∈ diffPut a b) :
    (∃ (y : Nat) (h : y < b.length), entIdx b e.key = some y ∧ b[y] = e) ∧ ∀ x (h : x < a.length), entIdx a e.key = some x → a[x].text ≠ e.text := by
  obtain ⟨h1, h2⟩ := (mem_put ha hb).1 he
  refine ⟨entIdx_mem hb h1, fun x hx hk ht => h2 ?_⟩
  obtain ⟨_, hkey⟩ := entIdx_key hk
  have : a[x] = e := by
    cases h : a[x] with
    | mk k t => rw [h] at hkey ht; cases e; simp_all
  rw [← this]; exact List.getElem_mem hx
theorem srt_next {S : List Ent} (h : Srt S) {i : Nat} (hi : i + 1 < S.length) : ltK S[i].key S[i + 1].key = true := List.pairwise_iff_getElem.1 h i (i + 1) (by omega) hi (by omega)
theorem gone_there {a b : List Ent} (ha : Uniq a) {g : ByteArray} (hg : g ∈ diffGone a b) : (∃ x, entIdx a g = some x) ∧ entIdx b g = none := by
  obtain ⟨h1, h2⟩ := (mem_gone ha).1 hg
  refine ⟨?_, entIdx_no.2 h2⟩
  cases h : entIdx a g with
  | some x => exact ⟨x, rfl⟩
  | none => rw [entIdx_no] at h; rw [h] at h1; cases h1
theorem gone_next {a b : List Ent} {i : Nat} (hi : i + 1 < (diffGone a b).length) : ltK (diffGone a b)[i] (diffGone a b)[i + 1] = true := by
  have hi' : i + 1 < (diffOut a b).length := by unfold diffGone at hi; simpa using hi
  have e1 : (diffGone a b)[i] = (diffOut a b)[i].key := by simp [diffGone]
  have e2 : (diffGone a b)[i + 1] = (diffOut a b)[i + 1].key := by simp [diffGone]
  rw [e1, e2]
  exact srt_next (out_srt a b) hi'
theorem nodup_le {l m : List ByteArray} (h : l.Nodup) (hs : ∀ x ∈ l, x ∈ m) : l.length ≤ m.length := by
  induction l generalizing m with
  | nil => exact Nat.zero_le _
  | cons a r ih =>
    obtain ⟨h1, h2⟩ := List.nodup_cons.1 h
    have hm : a ∈ m := hs a List.mem_cons_self
    obtain ⟨s, t, rfl⟩ := List.append_of_mem hm
    have := ih h2 (m := s ++ t) fun x hx => by
      have := hs x (List.mem_cons_of_mem _ hx)
      rcases List.mem_append.1 this with h | h
      · exact List.mem_append.2 (.inl h)
      · rcases List.mem_cons.1 h with rfl | h
        · exact absurd hx h1
        · exact List.mem_append.2 (.inr h)
    simp only [List.length_append, List.length_cons] at this ⊢
    omega
theorem gone_count {a b : List Ent} (ha : Uniq a) : a.length ≤ b.length + (diffGone a b).length := by
  have h1 : (srt a).length = ((srt a).filter fun e => !hasK b e.key).length + ((srt a).filter fun e => hasK b e.key).length := by
    induction srt a with
    | nil => rfl
    | cons e r ih =>
      simp only [List.filter_cons, List.length_cons]
      cases hasK b e.key <;> simp <;> omega
  have h2 : (((srt a).filter fun e => hasK b e.key).map (·.key)).length ≤ (b.map (·.key)).length := by
    refine nodup_le (List.pairwise_map.2 (((srt_srt a).filter _).uniq.imp fun h => h)) fun x hx => ?_
    obtain ⟨e, he, rfl⟩ := List.mem_map.1 hx
    have := (List.mem_filter.1 he).2
    obtain ⟨y, hy, hk⟩ := hasK_iff.1 this
    exact List.mem_map.2 ⟨y, hy, hk⟩
  rw [List.length_map, List.length_map] at h2
  rw [srt_length ha] at h1
  have h3 : (diffGone a b).length = ((srt a).filter fun e => !hasK b e.key).length := by unfold diffGone diffOut; rw [List.length_map]
  omega
end Go.Proofs.YtiaobgapfoogiaaGreatDoor
