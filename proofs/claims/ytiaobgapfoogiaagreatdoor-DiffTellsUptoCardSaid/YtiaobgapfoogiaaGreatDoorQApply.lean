/- The walk of the document's ApplyOf. -/
import Derived.Test.YtiaobgapfoogiaaGreatDoorQDiff
import Derived.Test.YtiaobgapfoogiaaGreatDoorLists
import Derived.Test.YtiaobgapfoogiaaGreatDoorDiffP
set_option linter.unusedSimpArgs false
set_option linter.unusedVariables false
namespace Go.Proofs.YtiaobgapfoogiaaGreatDoor
open Go.RowKit Go.Maps

def applyErrR (a p : List Ent) (gone : List ByteArray) : Int :=
  if firstN (goneAt a p gone) gone.length = 0 then (if 100 < (rest a p gone).length then 4 else 0) else firstN (goneAt a p gone) gone.length
theorem applyErrR_is {a p : List Ent} (ha : Uniq a) (hp : Uniq p) (gone : List ByteArray) : applyErrR a p gone = applyErr a p gone := by
  unfold applyErrR applyErr
  rw [(applied_rest ha hp gone).length_eq]
theorem applyR_bad {a p : List Ent} {gone : List ByteArray} (j : Nat) (hj : j < gone.length) (h0 : ∀ q, q < j → goneAt a p gone q = 0) (h : goneAt a p gone j ≠ 0) : applyErrR a p gone = goneAt a p gone j := by
  have h1 := firstN_at (goneAt a p gone) j h0 h _ hj
  unfold applyErrR
  rw [h1, if_neg h]
theorem applyR_full {a p : List Ent} {gone : List ByteArray} (h0 : ∀ q, q < gone.length → goneAt a p gone q = 0) : applyErrR a p gone = if 100 < (rest a p gone).length then 4 else 0 := by
  unfold applyErrR
  rw [if_pos (firstN_zero _ _ h0)]
def stays (p : List Ent) (gone : List ByteArray) (e : Ent) : Bool := !hasK p e.key && !gone.any (eqs · e.key)
def restN (a p : List Ent) (gone : List ByteArray) (j : Nat) : List Ent := p ++ fN (stays p gone) a j
theorem restN_zero (a p : List Ent) (gone : List ByteArray) : restN a p gone 0 = p := by unfold restN; rw [fN_zero, List.append_nil]
theorem restN_all (a p : List Ent) (gone : List ByteArray) : restN a p gone a.length = rest a p gone := by unfold restN rest; rw [fN_all]; rfl
theorem restN_no {a p : List Ent} {gone : List ByteArray} {j : Nat} (hj : j < a.length) (h : stays p gone a[j] = false) : restN a p gone (j + 1) = restN a p gone j := by unfold restN; rw [fN_no _ _ _ hj h]
theorem restN_yes {a p : List Ent} {gone : List ByteArray} {j : Nat} (hj : j < a.length) (h : stays p gone a[j] = true) : restN a p gone (j + 1) = restN a p gone j ++ [a[j]] := by unfold restN; rw [fN_yes _ _ _ hj h, List.append_assoc]
theorem restN_len (a p : List Ent) (gone : List ByteArray) (j : Nat) : (restN a p gone j).length ≤ p.length + a.length := by unfold restN; rw [List.length_append]; have := fN_len (stays p gone) a j; omega
theorem hasK_idx_none {l : List Ent} {k : ByteArray} (h : entIdx l k = none) : hasK l k = false := entIdx_no.1 h
theorem hasK_idx_some {l : List Ent} {k : ByteArray} {y : Nat} (h : entIdx l k = some y) : hasK l k = true := by
  cases h2 : hasK l k with
  | true => rfl
  | false => rw [entIdx_no.2 h2] at h; cases h

set_option maxHeartbeats 12800000 in
set_option maxRecDepth 100000 in
theorem qapply_any (a p : Bun) (gone : List ByteArray) (u v g : Value) (glo : Nat) (w : World) (ha : BunIn w a u) (hb : BunIn w p v) (hg : ListOk Enc.str w glo w.heap.size g gone) (hgl : gone.length ≤ 140737488355328) (hal : a.ents.length ≤ 100000) (hpl : p.ents.length ≤ 100000) :
    Calls Tryz.prog 15 #[.agg #[.string a.tag, u], .agg #[.string p.tag, v], g] w fun e w' => Below w.heap.size w w' ∧
      ((applyErrR a.ents p.ents gone ≠ 0 ∧ e = .returned (.tuple #[.agg #[.string ByteArray.empty, .slice none 0 0], .int .i64 (applyErrR a.ents p.ents gone)])) ∨
       (applyErrR a.ents p.ents gone = 0 ∧ ∃ V, e = .returned (.tuple #[.agg #[.string p.tag, V], .int .i64 0]) ∧ w'.ownsRow w.heap.size 33 2 V (rest a.ents p.ents gone).length (flatE (qSorted (rest a.ents p.ents gone))))) := by
  obtain ⟨alo, hla⟩ := ha.lo
  obtain ⟨blo, hlb⟩ := hb.lo
  obtain ⟨A, c, rfl, _⟩ := hla.form
  obtain ⟨B, d, rfl, _⟩ := hlb.form
  obtain ⟨G, gc, rfl, hgc⟩ := hg.form
  have HA : Hid (∀ W, Below w.heap.size w W → ListOk Enc.ent W alo w.heap.size (.slice A a.ents.length c) a.ents) := Lib.hid fun W hW => hla.below Enc.ent_laws hW
  have HB : Hid (∀ W, Below w.heap.size w W → ListOk Enc.ent W blo w.heap.size (.slice B p.ents.length d) p.ents) := Lib.hid fun W hW => hlb.below Enc.ent_laws hW
  have HGl : Hid (∀ W, Below w.heap.size w W → ListOk Enc.str W glo w.heap.size (.slice G gone.length gc) gone) := Lib.hid fun W hW => hg.below Enc.str_laws hW
  obtain ⟨at_, al⟩ := a
  obtain ⟨bt, pl⟩ := p
  dsimp only at HA HB hal hpl ⊢
  clear ha hb hla hlb hg
  go_enter Tryz.func15, Tryz.ntmps15
  go_wp2_with fail
  obtain ⟨W0, eW0⟩ : ∃ W0, W0 = ((w.alloc (.cells #[.string at_, .slice A al.length c] 24)).alloc (.cells #[.string bt, .slice B pl.length d] 24)).alloc (.cells #[.string ⟨#[]⟩, .slice none 0 0] 24) := ⟨_, rfl⟩
  have hb0 : Below w.heap.size w W0 := by rw [eW0]; exact (((Below.refl _ _).alloc (Nat.le_refl _) _).alloc (by simp) _).alloc (by simp; omega) _
  have ma0 : Blk W0 w.heap.size 24 #[.string at_, .slice A al.length c] := by rw [eW0]; exact ((Blk.new _ _ _).alloc _).alloc _
  have mb0 : Blk W0 (w.heap.size + 1) 24 #[.string bt, .slice B pl.length d] := by
    rw [eW0]
    have := Blk.new (w.alloc (.cells #[.string at_, .slice A al.length c] 24)) 24 #[.string bt, .slice B pl.length d]
    rw [World.size_alloc] at this
    exact this.alloc _
  have mr0 : Blk W0 (w.heap.size + 1 + 1) 24 #[.string ⟨#[]⟩, .slice none 0 0] := by
    rw [eW0]
    have := Blk.new ((w.alloc (.cells #[.string at_, .slice A al.length c] 24)).alloc (.cells #[.string bt, .slice B pl.length d] 24)) 24 #[.string ⟨#[]⟩, .slice none 0 0]
    simp only [World.size_alloc] at this
    exact this
  have HB0 := Lib.hid hb0
  have HMa := Lib.hid ma0
  have HMb := Lib.hid mb0
  have HMr := Lib.hid mr0
  have hs0 := hb0.size
  have k1 : W0.cell? ⟨w.heap.size, 1, none⟩ = some (.slice A al.length c) := (ma0.cell 1).trans rfl
  have k2 : W0.cell? ⟨w.heap.size + 1, 0, none⟩ = some (.string bt) := (mb0.cell 0).trans rfl
  have k3 : W0.cell? ⟨w.heap.size + 1, 1, none⟩ = some (.slice B pl.length d) := (mb0.cell 1).trans rfl
  have r0 : W0.cell? ⟨w.heap.size + 1 + 1, 0, none⟩ = some (.string ⟨#[]⟩) := (mr0.cell 0).trans rfl
  have r1 : W0.cell? ⟨w.heap.size + 1 + 1, 1, none⟩ = some (.slice none 0 0) := (mr0.cell 1).trans rfl
  have f0 := mr0.frozen 0
  have f1 := mr0.frozen 1
  have hrl := mr0.lt
  rw [← eW0]
  clear eW0 hb0 ma0 mb0 mr0
  go_loopw [8] (fun i wr => ∃ j : Nat, j ≤ gone.length ∧ i = .int .i64 j ∧ (∀ q, q < j → goneAt al pl gone q = 0) ∧ ∃ n, wr = W0.drewN n) (fun i _ => gone.length - (intOf i).toNat)
  case atStart => exact ⟨0, Nat.zero_le _, rfl, fun _ h => absurd h (by omega), 0, rfl⟩
  case round =>
    obtain ⟨j, hj, rfl, hno, n, rfl⟩ := hrel
    have Hno := Lib.hid hno
    clear hno
    by_cases hlt : j < gone.length
    · obtain ⟨gb, go, rfl, _, hgb, x0⟩ := (HGl.out W0 HB0.out).strAt j hlt
      have HGa : Hid (goneAt al pl gone j = if hasK al gone[j] then (if hasK pl gone[j] || (gone.take j).any (eqs · gone[j]) then 5 else 0) else 2) := Lib.hid (goneAt_is j hlt)
      have HEr : Hid (∀ n : Int, n ≠ 0 → goneAt al pl gone j = n → applyErrR al pl gone = n) := Lib.hid fun n hn he => by rw [applyR_bad j hlt Hno.out (by rw [he]; exact hn), he]
      have HEa : Hid (∀ n, Calls Tryz.prog 9 #[.slice A al.length c, .string gone[j]] (W0.drewN n) fun e w' => e = .returned (.int .i64 (idxI (entIdx al gone[j]))) ∧ W0.drewN n = w') := Lib.hid fun n =>
        entat_any _ _ gone[j] _ _ (W0.drewN n) (HA.out _ (below_drewN HB0.out n)) (by omega)
      have HEp : Hid (∀ n, Calls Tryz.prog 9 #[.slice B pl.length d, .string gone[j]] (W0.drewN n) fun e w' => e = .returned (.int .i64 (idxI (entIdx pl gone[j]))) ∧ W0.drewN n = w') := Lib.hid fun n =>
        entat_any _ _ gone[j] _ _ (W0.drewN n) (HB.out _ (below_drewN HB0.out n)) (by omega)
      have HIn : Hid (∀ n, Calls Tryz.prog 33 #[.slice (some ⟨gb, go, none⟩) j gc, .string gone[j]] (W0.drewN n) fun e w' => e = .returned (.bool ((gone.take j).any (eqs · gone[j]))) ∧ W0.drewN n = w') := Lib.hid fun n =>
        in_any _ _ gone[j] _ _ (W0.drewN n) ((HGl.out _ (below_drewN HB0.out n)).take j hj) (by rw [List.length_take]; omega)
      generalize gone[j] = k at *
      generalize (gone.take j).any (eqs · k) = kin at *
      have i1 : (0 : Int) ≤ (j : Int) := Int.natCast_nonneg j
      have i2 : (j : Int) < (gone.length : Int) := by omega
      have i3 : (j : Int) ≤ (gc : Int) := by omega
      cases hix : entIdx al k with
      | none =>
        rw [hix, idxI_none] at HEa
        have HH : Hid (hasK al k = false) := Lib.hid (hasK_idx_none hix)
        clear hix
        go_wp2_with fail
        go_quiet ((go_at_call 9; first | exact quiet_left (HEa.out _) | exact quiet_add_left (HEa.out _)))
        have HE : Hid (applyErrR al pl gone = 2) := Lib.hid (HEr.out 2 (by decide) (by rw [HGa.out, HH.out]; rfl))
        go_wp2_with fail
        refine bodyPost_ret (v := .tuple #[.agg #[.string ByteArray.empty, .slice none 0 0], .int .i64 2]) ?_ rfl ?_
        · simp [results, Tryz.results15, go_sem, r0, r1, f0, f1]
          try rfl
        · exact ⟨Below.setCell (Below.setCell (below_drewN HB0.out _) (by simp; omega) _) (by simp; omega) _, .inl ⟨by rw [HE.out]; decide, by rw [HE.out]⟩⟩
      | some x =>
        rw [hix, idxI_some] at HEa
        have HH : Hid (hasK al k = true) := Lib.hid (hasK_idx_some hix)
        have hx0 : decide ((x : Int) < 0) = false := decide_eq_false (by omega)
        clear hix
        cases kin with
        | true =>
          go_wp2_with fail
          go_quiet ((go_at_call 9; first | exact quiet_left (HEa.out _) | exact quiet_add_left (HEa.out _)))
          go_wp2_with fail
          go_quiet ((go_at_call 33; first | exact quiet_left (HIn.out _) | exact quiet_add_left (HIn.out _)))
          have HE : Hid (applyErrR al pl gone = 5) := Lib.hid (HEr.out 5 (by decide) (by rw [HGa.out, HH.out]; simp))
          go_wp2_with fail
          refine bodyPost_ret (v := .tuple #[.agg #[.string ByteArray.empty, .slice none 0 0], .int .i64 5]) ?_ rfl ?_
          · simp [results, Tryz.results15, go_sem, r0, r1, f0, f1]
            try rfl
          · exact ⟨Below.setCell (Below.setCell (below_drewN HB0.out _) (by simp; omega) _) (by simp; omega) _, .inl ⟨by rw [HE.out]; decide, by rw [HE.out]⟩⟩
        | false =>
          cases hip : entIdx pl k with
          | some y =>
            rw [hip, idxI_some] at HEp
            have HP : Hid (hasK pl k = true) := Lib.hid (hasK_idx_some hip)
            have hy0 : decide ((0 : Int) ≤ (y : Int)) = true := decide_eq_true (by omega)
            clear hip
            go_wp2_with fail
            go_quiet ((go_at_call 9; first | exact quiet_left (HEa.out _) | exact quiet_add_left (HEa.out _)))
            go_wp2_with fail
            go_quiet (first | (go_at_call 33; first | exact quiet_left (HIn.out _) | exact quiet_add_left (HIn.out _)) | (go_at_call 9; first | exact quiet_left (HEp.out _) | exact quiet_add_left (HEp.out _)))
            have HE : Hid (applyErrR al pl gone = 5) := Lib.hid (HEr.out 5 (by decide) (by rw [HGa.out, HH.out, HP.out]; rfl))
            go_wp2_with fail
            refine bodyPost_ret (v := .tuple #[.agg #[.string ByteArray.empty, .slice none 0 0], .int .i64 5]) ?_ rfl ?_
            · simp [results, Tryz.results15, go_sem, r0, r1, f0, f1]
              try rfl
            · exact ⟨Below.setCell (Below.setCell (below_drewN HB0.out _) (by simp; omega) _) (by simp; omega) _, .inl ⟨by rw [HE.out]; decide, by rw [HE.out]⟩⟩
          | none =>
            rw [hip, idxI_none] at HEp
            have HP : Hid (hasK pl k = false) := Lib.hid (hasK_idx_none hip)
            clear hip
            go_wp2_with fail
            go_quiet ((go_at_call 9; first | exact quiet_left (HEa.out _) | exact quiet_add_left (HEa.out _)))
            go_wp2_with fail
            go_quiet (first | (go_at_call 33; first | exact quiet_left (HIn.out _) | exact quiet_add_left (HIn.out _)) | (go_at_call 9; first | exact quiet_left (HEp.out _) | exact quiet_add_left (HEp.out _)))
            go_wp2_with fail
            exact ⟨⟨j + 1, by omega, by go_num, fun q hq => by
              rcases Nat.lt_or_eq_of_le (Nat.le_of_lt_succ hq) with h | h
              · exact Hno.out q h
              · rw [h, HGa.out, HH.out, HP.out]; rfl, _, by first | rfl | (rw [World.drewN_drewN])⟩, by simp [intOf]; omega⟩
    · obtain rfl : j = gone.length := by omega
      have HFu := Lib.hid (applyR_full (a := al) (p := pl) (gone := gone) fun q hq => Hno.out q hq)
      have HNp : Hid (∀ W, Below w.heap.size w W → (pl.length = 0 ∨ ∃ b o, B = some ⟨b, o, none⟩ ∧ ∀ q u, (flatE pl)[q]? = some u → W.cell? ⟨b, o + q, none⟩ = some u)) := Lib.hid fun W hW => news_ents (HB.out W hW)
      obtain ⟨W1, eW1⟩ : ∃ W1, W1 = W0.drewN n := ⟨_, rfl⟩
      have HB1 : Hid (Below w.heap.size w W1) := Lib.hid (by rw [eW1]; exact below_drewN HB0.out n)
      have ma1 : Blk W1 w.heap.size 24 #[.string at_, .slice A al.length c] := by rw [eW1]; exact HMa.out.drewN n
      have mb1 : Blk W1 (w.heap.size + 1) 24 #[.string bt, .slice B pl.length d] := by rw [eW1]; exact HMb.out.drewN n
      have mr1 : Blk W1 (w.heap.size + 1 + 1) 24 #[.string ⟨#[]⟩, .slice none 0 0] := by rw [eW1]; exact HMr.out.drewN n
      rw [← eW1]
      clear k1 k2 k3 r0 r1 f0 f1 eW1 HB0 HMa HMb HMr
      have hs1 := HB1.out.size
      have hrl1 := mr1.lt
      have k2 : W1.cell? ⟨w.heap.size + 1, 0, none⟩ = some (.string bt) := (mb1.cell 0).trans rfl
      have k3 : W1.cell? ⟨w.heap.size + 1, 1, none⟩ = some (.slice B pl.length d) := (mb1.cell 1).trans rfl
      have hb1l := mb1.lt
      obtain ⟨bx, ebx⟩ : ∃ bx, bx = W1.heap.size := ⟨_, rfl⟩
      have mx1 : Blk (W1.alloc (.cells #[.string bt, .slice none 0 0] 24)) bx 24 #[.string bt, .slice none 0 0] := by rw [ebx]; exact Blk.new _ _ _
      have HQ0 : Hid (QdLoop w (W1.alloc (.cells #[.string bt, .slice none 0 0] 24)) bx #[.string at_, .slice A al.length c] #[.string bt, .slice B pl.length d] bt []) := Lib.hid
        ⟨HB1.out.alloc hs1 _, ma1.alloc _, mb1.alloc _, mr1.alloc _, by omega, _, mx1, own_nil⟩
      have HMx := Lib.hid mx1
      clear ma1 mb1 mr1 mx1
      go_wp2_with (at_builtin; refine wpList_append_any rfl _ _ 22 rfl w.heap.size 33 Tryz.underlying22 info_ent rfl (by decide) [] rfl own_nil (flatE pl) rfl (flatE_length pl) (HNp.out _ (HB1.out.alloc hs1 _)) (flatE_one _) (by unfold maxLen; omega) (by omega) (by simp; omega) ?_)
      intro v4 w4 hown4 hgrow4 _
      obtain ⟨A4, c4, rfl, _⟩ := own_slice hown4
      have hbx4 := blk_grown HMx.out hgrow4 (fun e => by cases e)
      have s2 : w4.frozen? ⟨W1.heap.size, 1, none⟩ = false := by rw [← ebx]; exact hbx4.frozen 1
      have s1 : w4.cell? ⟨W1.heap.size, 1, none⟩ = some (.slice none 0 0) := by rw [← ebx]; exact (hbx4.cell 1).trans rfl
      have HQ4 : Hid (QdLoop w (w4.setCell ⟨bx, 1, none⟩ (.slice A4 pl.length c4)) bx #[.string at_, .slice A al.length c] #[.string bt, .slice B pl.length d] bt (restN al pl gone 0)) := Lib.hid (by
        rw [restN_zero]
        exact HQ0.out.set HMx.out own_nil (Below.refl _ _) hgrow4 hown4)
      have HEb := Lib.hid ebx
      clear hown4 hgrow4 hbx4 HQ0 HMx ebx k2 k3
      go_wp2_with fail
      rw [← HEb.out]
      clear s1 s2 HEb
      obtain ⟨W5, eW5⟩ : ∃ W5, W5 = w4.setCell ⟨bx, 1, none⟩ (.slice A4 pl.length c4) := ⟨_, rfl⟩
      rw [← eW5] at HQ4 ⊢
      clear eW5
      go_loopw [10] (fun i wr => ∃ j : Nat, j ≤ al.length ∧ i = .int .i64 j ∧ QdLoop w wr bx #[.string at_, .slice A al.length c] #[.string bt, .slice B pl.length d] bt (restN al pl gone j)) (fun i _ => al.length - (intOf i).toNat)
      case atStart => exact ⟨0, Nat.zero_le _, rfl, HQ4.out⟩
      case round =>
        obtain ⟨j, hj, rfl, hL⟩ := hrel
        have hbs := hL.below.size
        have HLp := Lib.hid hL
        have k1 : wr.cell? ⟨w.heap.size, 1, none⟩ = some (.slice A al.length c) := (hL.ba.cell 1).trans rfl
        have k3 : wr.cell? ⟨w.heap.size + 1, 1, none⟩ = some (.slice B pl.length d) := (hL.bb.cell 1).trans rfl
        have hx := hL.lx
        have HRl := Lib.hid (restN_len al pl gone j)
        clear hL HQ4
        by_cases hlt : j < al.length
        · obtain ⟨xb, xo, rfl, px1, px2, x0, x1⟩ := (HA.out wr HLp.out.below).entAt j hlt
          have HNo : Hid (stays pl gone al[j] = false → restN al pl gone (j + 1) = restN al pl gone j) := Lib.hid fun h => restN_no hlt h
          have HYes : Hid (stays pl gone al[j] = true → restN al pl gone (j + 1) = restN al pl gone j ++ [al[j]]) := Lib.hid fun h => restN_yes hlt h
          have HEp : Hid (∀ n, Calls Tryz.prog 9 #[.slice B pl.length d, .string al[j].key] (wr.drewN n) fun e w' => e = .returned (.int .i64 (idxI (entIdx pl al[j].key))) ∧ wr.drewN n = w') := Lib.hid fun n =>
            entat_any _ _ al[j].key _ _ (wr.drewN n) (HB.out _ (below_drewN HLp.out.below n)) (by omega)
          have HIn : Hid (∀ n, Calls Tryz.prog 33 #[.slice G gone.length gc, .string al[j].key] (wr.drewN n) fun e w' => e = .returned (.bool (gone.any (eqs · al[j].key))) ∧ wr.drewN n = w') := Lib.hid fun n =>
            in_any _ _ al[j].key _ _ (wr.drewN n) (HGl.out _ (below_drewN HLp.out.below n)) hgl
          have HSt : Hid (stays pl gone al[j] = (!hasK pl al[j].key && !gone.any (eqs · al[j].key))) := Lib.hid rfl
          generalize al[j] = e at *
          obtain ⟨ky, tx⟩ := e
          dsimp only at x0 x1 HEp HIn HSt
          generalize gone.any (eqs · ky) = gi at *
          obtain ⟨P, hPe⟩ : ∃ P, P = restN al pl gone j := ⟨_, rfl⟩
          have hPl : P.length ≤ 200000 := by rw [hPe]; have := HRl.out; omega
          rw [← hPe] at HLp HNo HYes
          clear hPe HRl
          obtain ⟨V, hbox, hrow⟩ := HLp.out.box
          obtain ⟨Av, cv, rfl, _⟩ := own_slice hrow
          have HBox := Lib.hid hbox
          have HRow := Lib.hid hrow
          have b1 : wr.cell? ⟨bx, 1, none⟩ = some (.slice Av P.length cv) := (hbox.cell 1).trans rfl
          have f1 := hbox.frozen 1
          have hbxl := hbox.lt
          have i1 : (0 : Int) ≤ (j : Int) := Int.natCast_nonneg j
          have i2 : (j : Int) < (al.length : Int) := by omega
          have HnX : Hid (∀ (W : World), Below wr.heap.size wr W → ∀ q u, ([Value.string ky, .string tx] : List Value)[q]? = some u → (W.alloc (.cells #[.string ky, .string tx] 33)).cell? ⟨W.heap.size, 0 + q, none⟩ = some u) := Lib.hid fun W hW q u hq => by
            rw [Nat.zero_add, (Blk.new W 33 #[.string ky, .string tx]).cell q]; simpa using hq
          clear hbox hrow
          cases hip : entIdx pl ky with
          | some y =>
            rw [hip, idxI_some] at HEp
            have HH : Hid (stays pl gone ⟨ky, tx⟩ = false) := Lib.hid (by rw [HSt.out, hasK_idx_some hip]; rfl)
            have hy0 : decide ((y : Int) < 0) = false := decide_eq_false (by omega)
            clear hip HSt
            go_wp2_with fail
            go_quiet ((go_at_call 9; first | exact quiet_left (HEp.out _) | exact quiet_add_left (HEp.out _)))
            go_wp2_with fail
            exact ⟨⟨j + 1, by omega, by go_num, by rw [HNo.out HH.out]; exact HLp.out.keep (below_drewN (Below.refl _ _) _)⟩, by simp [intOf]; omega⟩
          | none =>
            rw [hip, idxI_none] at HEp
            have HK := Lib.hid (hasK_idx_none hip)
            clear hip
            cases gi with
            | true =>
              have HH : Hid (stays pl gone ⟨ky, tx⟩ = false) := Lib.hid (by rw [HSt.out]; simp)
              clear HSt
              go_wp2_with fail
              go_quiet (first | (go_at_call 33; first | exact quiet_left (HIn.out _) | exact quiet_add_left (HIn.out _)) | (go_at_call 9; first | exact quiet_left (HEp.out _) | exact quiet_add_left (HEp.out _)))
              go_wp2_with fail
              exact ⟨⟨j + 1, by omega, by go_num, by rw [HNo.out HH.out]; exact HLp.out.keep (below_drewN (Below.refl _ _) _)⟩, by simp [intOf]; omega⟩
            | false =>
              have HH : Hid (stays pl gone ⟨ky, tx⟩ = true) := Lib.hid (by rw [HSt.out, HK.out]; rfl)
              clear HSt
              go_wp2_with fail
              go_quiet (first | (go_at_call 33; first | exact quiet_left (HIn.out _) | exact quiet_add_left (HIn.out _)) | (go_at_call 9; first | exact quiet_left (HEp.out _) | exact quiet_add_left (HEp.out _)))
              go_wp2_with fail
              go_region_law
                ((refine step_append_any (by rfl) _ _ 22 (by rfl) w.heap.size 33 Tryz.underlying22 info_ent rfl (by decide) (flatE P) (by rfl) (own_below HRow.out (by repeat (first | exact Below.refl _ _ | refine Below.drew ?_ | refine below_drewN ?_ _ | refine Below.alloc ?_ (by simp) _)) (Nat.le_refl _)) [Value.string ky, Value.string tx] (by rfl) (by rfl) (.inr ⟨_, _, rfl, HnX.out _ (by repeat (first | exact Below.refl _ _ | refine Below.drew ?_ | refine below_drewN ?_ _))⟩) (by simp [Value.oneCell']) (by unfold maxLen; omega) (by omega) (by simp; omega) ?_
                  intro v4 w4 hown4 hgrow4
                  have hbW := (grown_from hgrow4 (w0 := wr) (by repeat (first | exact Below.refl _ _ | refine Below.drew ?_ | refine below_drewN ?_ _ | refine Below.alloc ?_ (by simp) _))).1
                  have hbx4 := blk_grown (HBox.out.below hbW hbxl) hgrow4 (fun e => own_blk_ne HRow.out HBox.out (by decide) e.symm)
                  have s1 : w4.cell? ⟨bx, 1, none⟩ = some (.slice Av P.length cv) := (hbx4.cell 1).trans rfl
                  have s2 := hbx4.frozen 1
                  have HL4 := Lib.hid (HLp.out.push (e := ⟨ky, tx⟩) HBox.out HRow.out hbW hgrow4 hown4)
                  obtain ⟨A4, c4, hv4, _⟩ := own_slice hown4
                  have hv5 : v4 = .slice A4 (P.length + 1) c4 := by rw [hv4]
                  subst hv5
                  clear hbW hbx4 hgrow4 hown4 b1 f1 hv4))
              all_goals
                rw [← HYes.out HH.out] at HL4
                go_wp2_with fail
                exact ⟨⟨j + 1, by omega, by go_num, HL4.out⟩, by simp [intOf]; omega⟩
        · obtain rfl : j = al.length := by omega
          have HRe := Lib.hid (restN_all al pl gone)
          have hRl := HRl.out
          rw [HRe.out] at HLp hRl
          obtain ⟨P, hPe⟩ : ∃ P, P = rest al pl gone := ⟨_, rfl⟩
          rw [← hPe] at HLp hRl HFu
          have HPe := Lib.hid hPe
          clear hPe HRl HRe
          obtain ⟨V, hbox, hrow⟩ := HLp.out.box
          obtain ⟨Av, cv, rfl, _⟩ := own_slice hrow
          have b1 : wr.cell? ⟨bx, 1, none⟩ = some (.slice Av P.length cv) := (hbox.cell 1).trans rfl
          have hen : ListOk Enc.ent wr w.heap.size wr.heap.size (.slice Av P.length cv) P := ents_of_own hrow (Nat.le_refl _) (Nat.le_refl _)
          have HS := Lib.hid (qsorted_any _ P _ wr hen (by omega))
          have HBox := Lib.hid hbox
          have HRes := Lib.hid HLp.out.res
          have HB2 := Lib.hid HLp.out.below
          clear hbox hrow hen HA HB HLp
          by_cases h100 : 100 < P.length
          · have hd : decide ((100 : Int) < (P.length : Int)) = true := decide_eq_true (by omega)
            have HE : Hid (applyErrR al pl gone = 4) := Lib.hid (by rw [HFu.out, if_pos h100])
            have r0 : wr.cell? ⟨w.heap.size + 1 + 1, 0, none⟩ = some (.string ⟨#[]⟩) := (HRes.out.cell 0).trans rfl
            have r1 : wr.cell? ⟨w.heap.size + 1 + 1, 1, none⟩ = some (.slice none 0 0) := (HRes.out.cell 1).trans rfl
            have f0 := HRes.out.frozen 0
            have f1 := HRes.out.frozen 1
            go_wp2_with fail
            refine bodyPost_ret (v := .tuple #[.agg #[.string ByteArray.empty, .slice none 0 0], .int .i64 4]) ?_ rfl ?_
            · simp [results, Tryz.results15, go_sem, r0, r1, f0, f1]
              try rfl
            · exact ⟨Below.setCell (Below.setCell HB2.out (by simp; omega) _) (by simp; omega) _, .inl ⟨by rw [HE.out]; decide, by rw [HE.out]⟩⟩
          · have hd : decide ((100 : Int) < (P.length : Int)) = false := decide_eq_false (by omega)
            have HE : Hid (applyErrR al pl gone = 0) := Lib.hid (by rw [HFu.out, if_neg h100])
            go_wp2_with fail
            refine HS.out.mono ?_
            clear HS
            rintro e w5 ⟨v5, rfl, hown5, hb5⟩
            obtain ⟨A5, c5, rfl, _⟩ := own_slice hown5
            have hbx5 := HBox.out.below hb5 HBox.out.lt
            have s0 : w5.cell? ⟨bx, 0, none⟩ = some (.string bt) := (hbx5.cell 0).trans rfl
            have s1 : w5.cell? ⟨bx, 1, none⟩ = some (.slice Av P.length cv) := (hbx5.cell 1).trans rfl
            have s2 := hbx5.frozen 1
            have hs5 := hb5.size
            have hres5 := HRes.out.below hb5 HRes.out.lt
            have r0 : w5.cell? ⟨w.heap.size + 1 + 1, 0, none⟩ = some (.string ⟨#[]⟩) := (hres5.cell 0).trans rfl
            have r1 : w5.cell? ⟨w.heap.size + 1 + 1, 1, none⟩ = some (.slice none 0 0) := (hres5.cell 1).trans rfl
            have f0 := hres5.frozen 0
            have f1 := hres5.frozen 1
            have hne : ¬ bx = w.heap.size + 1 + 1 := by omega
            have hne2 : ¬ w.heap.size + 1 + 1 = bx := by omega
            have HB5 := Lib.hid (HB2.out.trans (hb5.mono hbs))
            have HO5 := Lib.hid hown5
            have HX5 := Lib.hid hbx5
            have HR5 := Lib.hid hres5
            clear hown5 hb5 hbx5 hres5 b1
            go_wp2_with fail
            refine bodyPost_ret (v := .tuple #[.agg #[.string bt, .slice A5 P.length c5], .int .i64 0]) ?_ rfl ?_
            · simp [results, Tryz.results15, go_sem, r0, r1, f0, f1, hne, hne2]
              try rfl
            · refine ⟨Below.setCell (Below.setCell (Below.setCell HB5.out (by show w.heap.size ≤ bx; omega) _) (by simp; omega) _) (by simp; omega) _, .inr ⟨HE.out, _, rfl, ?_⟩⟩
              rw [← HPe.out]
              refine own_mono (own_keep HO5.out fun k hk hlt => ?_) hbs
              have h1 : k ≠ w.heap.size + 1 + 1 := fun e => own_blk_ne HO5.out HR5.out (by decide) (by rw [hk]; exact congrArg some e)
              have h2 : k ≠ bx := fun e => own_blk_ne HO5.out HX5.out (by decide) (by rw [hk]; exact congrArg some e)
              rw [Below.heap_setCell _ _ _ _ h1, Below.heap_setCell _ _ _ _ h1, Below.heap_setCell _ _ _ _ h2]
end Go.Proofs.YtiaobgapfoogiaaGreatDoor
