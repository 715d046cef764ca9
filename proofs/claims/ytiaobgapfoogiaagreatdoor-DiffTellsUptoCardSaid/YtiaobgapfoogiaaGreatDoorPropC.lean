/- The walk of package prop: Check. -/
import Derived.Test.YtiaobgapfoogiaaGreatDoorProp
set_option linter.unusedSimpArgs false
set_option linter.unusedVariables false
namespace Go.Proofs.YtiaobgapfoogiaaGreatDoor
open Go.RowKit Go.Maps

/-- The keys of the first j entries, as a set. -/
def keySet (l : List Ent) (j : Nat) : DataW Unit := setOf (.agg []) ((l.take j).map fun e => Lit.string (bts e.key))
theorem keySet_zero (l : List Ent) : keySet l 0 = .map [] := by simp [keySet, setOf]
theorem keySet_succ {l : List Ent} (j : Nat) (hj : j < l.length) : keySet l (j + 1) = (keySet l j).put (.string (bts l[j].key)) (.agg []) := by
  unfold keySet
  have e : l.take (j + 1) = l.take j ++ [l[j]] := by rw [List.take_add_one, List.getElem?_eq_getElem hj]; rfl
  rw [e, List.map_append]
  exact setOf_snoc _ _ _
theorem any_key (s : ByteArray) : ∀ l : List Ent, (l.map fun e => Lit.string (bts e.key)).any (fun x => x.sameKey (.string (bts s))) = l.any (fun e => eqs e.key s)
  | [] => rfl
  | a :: r => by
    rw [List.map_cons, List.any_cons, List.any_cons, any_key s r]
    congr 1
    rw [eqs_bts]; rfl
theorem has_keySet (l : List Ent) (j : Nat) (s : ByteArray) : Maps.has (keySet l j) (.string (bts s)) = (l.take j).any (fun e => eqs e.key s) := by
  unfold keySet
  rw [has_setOf _ _ _ (fun y hy => by obtain ⟨_, _, rfl⟩ := List.mem_map.1 hy; trivial)]
  exact any_key s _
theorem ListOk.entAt {w : World} {lo hi : Nat} {A : Option Addr} {n c : Nat} {l : List Ent} (h : ListOk Enc.ent w lo hi (.slice A n c) l) (i : Nat) (hl : i < l.length) :
    ∃ b o, A = some ⟨b, o, none⟩ ∧ lo ≤ b ∧ b < hi ∧ w.cell? ⟨b, o + i * 2, none⟩ = some (.string l[i].key) ∧ w.cell? ⟨b, o + i * 2 + 1, none⟩ = some (.string l[i].text) := by
  obtain ⟨A', c', hv, _, hi⟩ := h
  obtain ⟨b, o, cs, hA, h1, h2, h3, h4⟩ := hi i hl
  injection hv with hv1
  have h4' : cs = [.string l[i].key, .string l[i].text] := h4
  refine ⟨b, o, hv1.trans hA, h1, h2, ?_, ?_⟩
  · exact h3 0 _ (by rw [h4']; rfl)
  · exact h3 1 _ (by rw [h4']; rfl)
theorem entAt_is {l : List Ent} (j : Nat) (hj : j < l.length) : entAt l j = if keyOk l[j].key then (if (l.take j).any (fun e => eqs e.key l[j].key) then 5 else if 2000 < l[j].text.size then 4 else 0) else 3 := by
  have : l.getD j noEnt = l[j] := by rw [List.getD_eq_getElem?_getD, List.getElem?_eq_getElem hj]; rfl
  unfold entAt
  rw [this]
theorem bun_bad {b : Bun} (ht : isTag b.tag = true) (hn : b.ents.length ≤ 100) (j : Nat) (hj : j < b.ents.length) (h0 : ∀ q, q < j → Go.Proofs.YtiaobgapfoogiaaGreatDoor.entAt b.ents q = 0) (h : Go.Proofs.YtiaobgapfoogiaaGreatDoor.entAt b.ents j ≠ 0) : bunFault b = Go.Proofs.YtiaobgapfoogiaaGreatDoor.entAt b.ents j := by
  unfold bunFault
  rw [if_pos ht, if_neg (by omega)]
  exact firstN_at _ j h0 h _ hj
theorem bun_good {b : Bun} (ht : isTag b.tag = true) (hn : b.ents.length ≤ 100) (h0 : ∀ q, q < b.ents.length → Go.Proofs.YtiaobgapfoogiaaGreatDoor.entAt b.ents q = 0) : bunFault b = 0 := by
  unfold bunFault
  rw [if_pos ht, if_neg (by omega)]
  exact firstN_zero _ _ h0
theorem ownsMap_below {P : Program} {k : TypeId} {R : Value → Option (DataW Unit × List MemPlace)} {b n B : Nat} {D : DataW Unit} {w w' : World} (h : w.ownsMap P k R b n D) (hb : Below B w w') (hB : b < B) : w'.ownsMap P k R b n D := by
  obtain ⟨es, clock, hh, r⟩ := h
  exact ⟨es, clock, (hb.block b hB).trans hh, r⟩
theorem lawS : Keyed Tryz.prog 9 := string_keyed Tryz.underlying9
theorem zero_unit (w : World) : (zeroValue 79).run Tryz.prog w = .ok (.agg #[]) w := by kernel_rfl

/-- What is asked of a bundle that is handed in. -/
structure BunIn (w : World) (b : Bun) (v : Value) : Prop where
  lo : ∃ lo, ListOk Enc.ent w lo w.heap.size v b.ents
  tag : b.tag.size < 4294967281
  len : b.ents.length ≤ 4398046511104
  each : ∀ e ∈ b.ents, e.key.size ≤ 9223372036854775807 ∧ e.text.size ≤ 9223372036854775807
theorem BunIn.below {w w' : World} {b : Bun} {v : Value} (h : BunIn w b v) (hb : Below w.heap.size w w') : BunIn w' b v :=
  ⟨let ⟨lo, hl⟩ := h.lo; ⟨lo, (hl.below Enc.ent_laws hb).mono Enc.ent_laws (Nat.le_refl _) hb.size⟩, h.tag, h.len, h.each⟩

set_option maxHeartbeats 3200000 in
set_option maxRecDepth 100000 in
theorem bunCheck_any (b : Bun) (v : Value) (w : World) (h : BunIn w b v) (hm : MaxVar w) :
    Calls Tryz.prog 35 #[.agg #[.string b.tag, v]] w fun e w' => e = .returned (errV (bunFault b)) ∧ Below w.heap.size w w' := by
  have hmm := @run_makeMap Tryz.prog
  have HT : Hid (∀ W, Below w.heap.size w W → Calls Tryz.prog 43 #[.string b.tag] W fun e w' => e = .returned (.bool (isTag b.tag)) ∧ Below W.heap.size W w') := Lib.hid fun W hW => propTag_any b.tag W (hm.below hW) h.tag
  have HL : Hid (∀ W, Below w.heap.size w W → ListOk Enc.ent W (Classical.choose h.lo) w.heap.size v b.ents) := Lib.hid fun W hW => (Classical.choose_spec h.lo).keep Enc.ent_laws (Alk.mono (Alk.of_below hW) (Nat.zero_le _) (Nat.le_refl _))
  have HE := Lib.hid h.each
  have hlen := h.len
  obtain ⟨A, c, hv, _⟩ := (Classical.choose_spec h.lo).form
  subst hv
  generalize Classical.choose h.lo = lo at HL
  have HB0 : Hid (isTag b.tag = false → bunFault b = 3) := Lib.hid fun h => by unfold bunFault; rw [h]; rfl
  have HB4 : Hid (isTag b.tag = true → 100 < b.ents.length → bunFault b = 4) := Lib.hid fun h h2 => by unfold bunFault; rw [if_pos h, if_pos h2]
  have HBad : Hid (isTag b.tag = true → b.ents.length ≤ 100 → ∀ j, j < b.ents.length → (∀ q, q < j → entAt b.ents q = 0) → entAt b.ents j ≠ 0 → bunFault b = entAt b.ents j) := Lib.hid fun h1 h2 j hj h0 h => bun_bad h1 h2 j hj h0 h
  have HGood : Hid (isTag b.tag = true → b.ents.length ≤ 100 → (∀ q, q < b.ents.length → entAt b.ents q = 0) → bunFault b = 0) := Lib.hid fun h1 h2 h => bun_good h1 h2 h
  obtain ⟨bt, l⟩ := b
  dsimp only at HT HL HE hlen HB0 HB4 HBad HGood ⊢
  generalize bunFault ⟨bt, l⟩ = F at *
  generalize isTag bt = tg at *
  clear h hm
  go_enter Tryz.func35, Tryz.ntmps35
  go_wp2_with fail
  refine (HT.out _ ((Below.refl _ _).alloc (Nat.le_refl _) _)).mono ?_
  clear HT
  rintro e w1 ⟨rfl, hb1⟩
  have m1 : Blk w1 w.heap.size 24 #[.string bt, .slice A l.length c] := (Blk.new _ _ _).below hb1 (by simp)
  have HB1 := Lib.hid (((Below.refl w.heap.size w).alloc (Nat.le_refl _) _).trans (hb1.mono (by simp)))
  have hw1 := m1.lt
  have k0 := m1.cell 0
  have k1 := m1.cell 1
  simp at k0 k1
  clear hb1 m1
  cases tg with
  | false =>
    have HF := Lib.hid (HB0.out rfl)
    go_wp2_with fail
    go_ret
    exact ⟨by rw [HF.out]; rfl, HB1.out⟩
  | true =>
    by_cases h100 : 100 < l.length
    · have HF := Lib.hid (HB4.out rfl h100)
      go_wp2_with fail
      go_ret
      exact ⟨by rw [HF.out]; rfl, HB1.out⟩
    · have hle : l.length ≤ 100 := by omega
      have HBad' := Lib.hid (HBad.out rfl hle)
      have HGood' := Lib.hid (HGood.out rfl hle)
      clear HB0 HB4 HBad HGood
      go_wp2_with fail
      go_loopw [5, 6, 7, 22] (fun _ _ _ i wr => ∃ j : Nat, j ≤ l.length ∧ i = .int .i64 j ∧ (∀ q, q < j → entAt l q = 0) ∧ wr.ownsMap Tryz.prog 9 unitElem w1.heap.size j (keySet l j) ∧ Below w1.heap.size w1 wr ∧ w1.heap.size + 1 ≤ wr.heap.size) (fun _ _ _ i _ => l.length - (intOf i).toNat)
      case atStart => exact ⟨0, Nat.zero_le _, rfl, fun _ h => absurd h (by omega), by rw [keySet_zero]; exact World.ownsMap_made _ _ _ _, (Below.refl _ _).alloc (Nat.le_refl _) _, by simp⟩
      case round =>
        obtain ⟨j, hj, rfl, hno, hown, hbr, hsz⟩ := hrel
        have HNo := Lib.hid hno
        have HO := Lib.hid hown
        have HBr := Lib.hid hbr
        have hbs := hbr.size
        clear hno hown hbr
        by_cases hlt : j < l.length
        · have hlw := HL.out wr (HB1.out.trans (HBr.out.mono HB1.out.size))
          obtain ⟨eb, eo, rfl, p1, p2, x0, x1⟩ := hlw.entAt j hlt
          have hes := HE.out _ (List.getElem_mem hlt)
          have HEt := Lib.hid (entAt_is j hlt)
          have HAt := Lib.hid (HBad'.out j hlt HNo.out)
          have HHas := Lib.hid (has_keySet l j l[j].key)
          have HSucc := Lib.hid (keySet_succ j hlt)
          generalize l[j] = e at *
          obtain ⟨ky, tx⟩ := e
          dsimp only at x0 x1 hes HEt HHas HSucc
          have HK := Lib.hid (fun W => key_any ky W hes.1)
          have hkey : keyOf Tryz.prog 9 (.string ky) = some (.string (bts ky)) := Go.WideMaps.keyOf_string_mk Tryz.underlying9 (by unfold maxLen; omega)
          have HKey := Lib.hid hkey
          have hebl : eb < wr.heap.size := by omega
          clear hlw hkey
          generalize keyOk ky = ko at *
          go_wp2_with fail
          refine (HK.out _).mono ?_
          rintro e w3 ⟨rfl, hb3⟩
          have hb3w : Below wr.heap.size wr w3 := ((Below.refl wr.heap.size wr).alloc (Nat.le_refl _) _).trans (hb3.mono (by simp))
          have HB3 := Lib.hid hb3w
          have hs3 := hb3w.size
          have me : Blk w3 wr.heap.size 33 #[.string ky, .string tx] := (Blk.new _ _ _).below hb3 (by simp)
          have he3 := me.lt
          have e0 := me.cell 0
          have e1 := me.cell 1
          simp at e0 e1
          have HO3 := Lib.hid (ownsMap_below HO.out hb3w (by omega))
          have HMe := Lib.hid me
          clear hb3 hb3w me HO HK x0 x1
          cases ko with
          | false =>
            have HF := Lib.hid (HAt.out (by rw [HEt.out]; simp))
            rw [HEt.out] at HF
            go_wp2_with fail
            go_ret
            exact ⟨by rw [HF.out]; rfl, HB1.out.trans ((HBr.out.trans (HB3.out.mono hbs)).mono HB1.out.size)⟩
          | true =>
            cases hh : Maps.has (keySet l j) (Lit.string (bts ky)) with
            | true =>
              have HF := Lib.hid (HAt.out (by rw [HEt.out, ← HHas.out, hh]; simp))
              rw [HEt.out, ← HHas.out, hh] at HF
              go_wp2_with (at_lookup; refine wpList_lookup_own_unit _ rfl _ _ 78 rfl 9 79 lawS Tryz.underlying78 (zero_unit _) w1.heap.size j _ rfl HO3.out _ _ rfl HKey.out ?_)
              go_ret
              exact ⟨by rw [HF.out]; rfl, HB1.out.trans (((HBr.out.trans (HB3.out.mono hbs)).alloc (by omega) _).mono HB1.out.size)⟩
            | false =>
              rw [← HHas.out, hh] at HEt
              simp only [if_true, Bool.false_eq_true, if_false] at HEt
              go_wp2_with (first
                | (at_lookup; refine wpList_lookup_own_unit _ rfl _ _ 78 rfl 9 79 lawS Tryz.underlying78 (zero_unit _) w1.heap.size j _ rfl HO3.out _ _ rfl HKey.out ?_)
                | (at_mapUpdate; refine wpList_mapUpdate_own _ rfl _ _ _ 78 rfl 9 79 lawS Tryz.underlying78 (unitElem (H := Unit)) w1.heap.size j _ rfl (HO3.out.alloc _) (by unfold maxLen; omega) _ _ _ rfl rfl HKey.out _ [] unitElem_mk ?_))
              intro w4 hown4 hgrow4
              have hb4 : Below w1.heap.size w1 w4 := ((HBr.out.trans (HB3.out.mono hbs)).alloc (by omega) _).grown hgrow4 (by simp; omega) (fun k hk => by cases hk; exact Nat.le_refl _)
              have m4 : Blk w4 wr.heap.size 33 #[.string ky, .string tx] := (hgrow4.block _ (by simp; omega) (fun e => by injection e with e; omega)).trans (HMe.out.alloc _)
              have HO4 : Hid (w4.ownsMap Tryz.prog 9 unitElem w1.heap.size (j + 1) (keySet l (j + 1))) := Lib.hid (by rw [HSucc.out]; exact hown4)
              have HB4 := Lib.hid hb4
              have g0 := m4.cell 0
              have g1 := m4.cell 1
              simp at g0 g1
              have hs4 := hgrow4.size
              simp only [World.size_alloc] at hs4
              clear hown4 hgrow4 hb4 m4 HO3 HMe e0 e1 hh HHas HSucc
              by_cases h2 : 2000 < tx.size
              · rw [if_pos h2] at HEt
                have HF := Lib.hid (HAt.out (by rw [HEt.out]; decide))
                rw [HEt.out] at HF
                go_wp2_with fail
                go_ret
                exact ⟨by rw [HF.out]; rfl, HB1.out.trans (HB4.out.mono HB1.out.size)⟩
              · rw [if_neg h2] at HEt
                have h2' : tx.size ≤ 2000 := by omega
                go_wp2_with fail
                exact ⟨⟨j + 1, by omega, by go_num, fun q hq => by
                  rcases Nat.lt_or_eq_of_le (Nat.le_of_lt_succ hq) with h | h
                  · exact HNo.out q h
                  · subst h; exact HEt.out, HO4.out, HB4.out, by omega⟩, by simp [intOf]; omega⟩
        · obtain rfl : j = l.length := by omega
          have HF := Lib.hid (HGood'.out HNo.out)
          go_wp2_with fail
          go_ret
          exact ⟨by rw [HF.out]; rfl, HB1.out.trans (HBr.out.mono HB1.out.size)⟩
end Go.Proofs.YtiaobgapfoogiaaGreatDoor
