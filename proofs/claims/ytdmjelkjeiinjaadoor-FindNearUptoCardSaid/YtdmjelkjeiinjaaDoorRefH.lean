/- The walk of the document's package: TextIn, LoadFault, FindIn. -/
import Derived.Test.YtdmjelkjeiinjaaDoorRefG
import Derived.Test.YtdmjelkjeiinjaaDoorRefF
import Derived.Test.YtdmjelkjeiinjaaDoorFind
import Derived.Deep.DrawnRows
set_option linter.unusedSimpArgs false
set_option linter.unusedVariables false
namespace Go.Proofs.YtdmjelkjeiinjaaDoor
open Go.RowKit

theorem hit_idx {l : List Bun} {nm key : ByteArray} (i : Nat) (hi : i < l.length) : hitAt l nm key i = if eqs l[i].tag nm then (entIdx l[i].ents key).bind (fun k => l[i].ents[k]?.map (·.text)) else none := by
  rw [hitAt_is i hi]
  congr 1
  unfold entIdx
  generalize l[i].ents = es
  induction es with
  | nil => rfl
  | cons a r ih =>
    rw [List.find?_cons, List.findIdx?_cons]
    cases h : eqs a.key key with
    | true => rfl
    | false =>
      simp only [Bool.false_eq_true, if_false]
      rw [ih]
      cases r.findIdx? (fun e => eqs e.key key) with
      | none => rfl
      | some k => rfl
theorem entIdx_lt {l : List Ent} {key : ByteArray} {k : Nat} (h : entIdx l key = some k) : k < l.length := by
  unfold entIdx at h
  rw [List.findIdx?_eq_some_iff_getElem] at h
  exact h.1

/-- What TextIn answers. -/
def TextRes (o : Option ByteArray) : Ending := match o with | some s => .returned (.tuple #[.string s, .bool true]) | none => .returned (.tuple #[.string ⟨#[]⟩, .bool false])
set_option maxHeartbeats 1600000 in
theorem textin_any (l : List Bun) (vl : Value) (nm key : ByteArray) (w : World) (h : BunsIn w vl l) :
    Calls Tryd.prog 17 #[vl, .string nm, .string key] w fun e w' => e = TextRes (textIn l nm key) ∧ w = w' := by
  have HL := Lib.hid h
  have hlen : l.length * 40 ≤ 140737488355328 := h.len
  obtain ⟨lo, hlo⟩ := h.lo
  obtain ⟨A, c, rfl, hlc⟩ := hlo.form
  have HR : Hid (textIn l nm key = (findTag l nm key).map (·.2)) := Lib.hid rfl
  generalize textIn l nm key = R at *
  clear h hlo
  go_enter Tryd.func17, Tryd.ntmps17
  go_wp2_with fail
  go_loop [8, 9] (fun i _ => ∃ j : Nat, j ≤ l.length ∧ i = .int .i64 j ∧ (∀ q, q < j → hitAt l nm key q = none)) (fun i _ => l.length - (intOf i).toNat)
  case atStart => exact ⟨0, Nat.zero_le _, rfl, fun _ h => absurd h (by omega)⟩
  case round =>
    obtain ⟨j, hj, rfl, hno⟩ := hrel
    have HNo := Lib.hid hno
    clear hno
    by_cases hlt : j < l.length
    · obtain ⟨b, o, V, rfl, hbl, x0, x1, hin⟩ := HL.out.bunAt j hlt
      have HIx := Lib.hid (hit_idx (nm := nm) (key := key) j hlt)
      obtain ⟨lo2, hel⟩ := hin.lo
      have hen := hin.len
      obtain ⟨A4, c4, rfl, hc4⟩ := hel.form
      have HE := Lib.hid (entat_any _ _ key _ _ w hel (by omega))
      have HEl := Lib.hid hel
      have HLt : Hid (∀ k, entIdx l[j].ents key = some k → k < l[j].ents.length) := Lib.hid fun k hk => entIdx_lt hk
      clear hin hel
      generalize l[j] = B at *
      obtain ⟨bt, es⟩ := B
      dsimp only at x0 x1 HE HEl HIx HLt hen hc4
      generalize entIdx es key = ix at *
      have hz0 : Hid ((ix = none → idxI ix = -1) ∧ ∀ k, ix = some k → idxI ix = (k : Int)) := Lib.hid ⟨fun h => by rw [h]; rfl, fun k h => by rw [h]; rfl⟩
      generalize idxI ix = z at *
      go_wp2_with fail
      refine HE.out.mono ?_
      rintro e w1 ⟨rfl, rfl⟩
      clear HE
      cases hk : (bt.toList == nm.toList) with
      | false =>
        have HK : Hid (hitAt l nm key j = none) := Lib.hid (by
          rw [HIx.out, if_neg]
          show ¬ eqs bt nm = true
          unfold eqs; rw [hk]; simp)
        go_wp2_with fail
        go_round
        case rel => exact ⟨j + 1, by omega, by go_num, fun q hq => by
          rcases Nat.lt_or_eq_of_le (Nat.le_of_lt_succ hq) with h | h
          · exact HNo.out q h
          · subst h; exact HK.out⟩
        case measure => simp [intOf]; omega
      | true =>
        have hkk : eqs bt nm = true := hk
        cases ix with
        | none =>
          have hz : z = -1 := hz0.out.1 rfl
          subst hz
          have HK : Hid (hitAt l nm key j = none) := Lib.hid (by rw [HIx.out, if_pos hkk]; rfl)
          go_wp2_with fail
          go_round
          case rel => exact ⟨j + 1, by omega, by go_num, fun q hq => by
            rcases Nat.lt_or_eq_of_le (Nat.le_of_lt_succ hq) with h | h
            · exact HNo.out q h
            · subst h; exact HK.out⟩
          case measure => simp [intOf]; omega
        | some k =>
          have hz : z = (k : Int) := hz0.out.2 k rfl
          subst hz
          have hkl := HLt.out k rfl
          obtain ⟨b5, o5, rfl, _, _, y0, y1⟩ := HEl.out.entAt k hkl
          have HK : Hid (R = some es[k].text) := Lib.hid (by
            have h1 : hitAt l nm key j = some es[k].text := by
              rw [HIx.out, if_pos hkk]
              show (es[k]?).map _ = _
              rw [List.getElem?_eq_getElem hkl]; rfl
            have h2 : findTag l nm key = some (j, es[k].text) := firstS_at _ j _ HNo.out h1 _ hlt
            rw [HR.out, h2]; rfl)
          generalize es[k] = en at *
          obtain ⟨ek, et⟩ := en
          dsimp only at y0 y1 HK
          have hk0 : (0 : Int) ≤ (k : Int) := Int.natCast_nonneg k
          have hk1 : (k : Int) < (es.length : Int) := by omega
          go_wp2_with fail
          go_ret2
          exact ⟨by rw [HK.out]; rfl, rfl⟩
    · obtain rfl : j = l.length := by omega
      have HK : Hid (R = none) := Lib.hid (by
        have h2 : findTag l nm key = none := firstS_none _ _ HNo.out
        rw [HR.out, h2]; rfl)
      go_wp2_with fail
      go_ret2
      exact ⟨by rw [HK.out]; rfl, rfl⟩
theorem any_take_no {l : List Bun} {p : Bun → Bool} (j : Nat) (h : ∀ q (h : q < l.length), q < j → p l[q] = false) : (l.take j).any p = false := any_of_no _ _ fun q hq => by
  rw [List.length_take] at hq
  rw [List.getElem_take]
  exact h q (by omega) (by omega)
theorem any_take_yes {l : List Bun} {p : Bun → Bool} (j q : Nat) (hq : q < l.length) (hqj : q < j) (h : p l[q] = true) : (l.take j).any p = true :=
  any_of_at _ _ q (by rw [List.length_take]; omega) (by rw [List.getElem_take]; exact h)
/-- The place that FindIn tells. -/
def findI (l : List Bun) (t : Tg) (key : ByteArray) : Int := match findChain l t key with | some (_, i, _) => (i : Int) | none => -1
structure SeeksI (l : List Bun) (key : ByteArray) (C : List Tg) (F : Int) : Prop where
  hit : ∀ k (hk : k < C.length), (∀ q, q < k → tagAt l C key q = none) → ∀ i, i < l.length → (∀ q, q < i → hitAt l (tagText C[k]) key q = none) → ∀ s, hitAt l (tagText C[k]) key i = some s → F = i
  miss : ∀ k (hk : k < C.length), (∀ q, q < l.length → hitAt l (tagText C[k]) key q = none) → tagAt l C key k = none
  none : (∀ k, k < C.length → tagAt l C key k = none) → F = -1
theorem seeksI_chain (l : List Bun) (t : Tg) (key : ByteArray) : SeeksI l key (chainEn t) (findI l t key) := by
  refine ⟨fun k hk h0 i hi h1 s hs => ?_, fun k hk h0 => ?_, fun h => ?_⟩
  · have h2 : tagAt l (chainEn t) key k = some (i, s) := by
      rw [tagAt_is k hk]
      exact firstS_at _ i s h1 hs _ hi
    have h3 : findChain l t key = some (k, i, s) := firstS_at _ k _ h0 h2 _ hk
    unfold findI; rw [h3]
  · rw [tagAt_is k hk]
    exact firstS_none _ _ h0
  · have h3 : findChain l t key = Option.none := firstS_none _ _ h
    unfold findI; rw [h3]
theorem chainTags {w' : World} {base lo hi lo' hi' : Nat} {u : Value} {ps : List (Tg × Value)} (hown : w'.ownsRow base 24 4 u ps.length (flatT ps)) (hvs : ∀ p ∈ ps, ListOk Enc.str w' lo hi p.2 p.1.vars) (h1 : lo' ≤ base) (h2 : lo' ≤ lo) (h3 : hi ≤ hi') (h4 : w'.heap.size ≤ hi') :
    ListOk Enc.tag w' lo' hi' u (ps.map Prod.fst) := by
  have e1 : ps.length = (ps.map Prod.fst).length := by simp
  rw [e1] at hown
  refine ListOk.of_own (E := Enc.tag) hown h1 h4 fun i hl => ?_
  have hl' : i < ps.length := by simpa using hl
  refine ⟨ps[i].2, ?_, ?_⟩
  · rw [show Enc.tag.sz = 4 from rfl, flatT_at ps i hl']; simp [tagCells]
  rw [List.getElem_map]
  exact (hvs _ (List.getElem_mem hl')).mono Enc.str_laws h2 h3

end Go.Proofs.YtdmjelkjeiinjaaDoor
