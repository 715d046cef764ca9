/- The walk of package diff: Of. -/
import Derived.Test.YtiaobgapfoogiaaGreatDoorDiffW
import Derived.Test.YtiaobgapfoogiaaGreatDoorLayM
import Derived.Test.YtiaobgapfoogiaaGreatDoorBunRow
import Derived.Deep.DeepCutAuto
set_option linter.unusedSimpArgs false
set_option linter.unusedVariables false
namespace Go.Proofs.YtiaobgapfoogiaaGreatDoor
open Go.RowKit Go.Maps

set_option maxHeartbeats 400000 in
theorem ofClosure_any (k t : ByteArray) (g mb n : Nat) (S : List Ent) (W : World) (hc : W.cell? ⟨g, 0, none⟩ = some (.map (some mb))) (ho : OwnsW W mb n S) (hk : k.size ≤ maxLen) :
    Calls Tryz.prog 27 #[.string k, .string t, .pointer (some ⟨g, 0, none⟩)] W fun e w' => e = .returned (.bool (hasK S k)) ∧ W = w' := by
  have hrun := look_ok_str ho k hk
  clear ho
  generalize hasK S k = hb at *
  generalize (textK S k).getD ByteArray.empty = tx at *
  go_enter Tryz.func27, Tryz.ntmps27
  go_wp2_with fail
  go_ret
  exact ⟨rfl, rfl⟩
theorem enters_ofClosure (args : Array Value) (w : World) : (callFunc 27 args).run Tryz.prog w = .ok (.enter 27 args) w := enters_of Tryz.func27 (by kernel_rfl) rfl args w
def goneB (S : List Ent) (kl : Lit) : Bool := match kl with | .string k => hasK S (str k) | _ => false
theorem deleteFunc_any (b n g mb nb : Nat) (S T : List Ent) (w : World) (hown : OwnsW w b n S) (hc : w.cell? ⟨g, 0, none⟩ = some (.map (some mb))) (ho : OwnsW w mb nb T) (hg : g < w.heap.size) (hne : g ≠ b) (hnm : mb ≠ b) :
    Calls Tryz.prog 26 #[.map (some b), .func (.func 27) #[] #[.pointer (some ⟨g, 0, none⟩)]] w fun e w' => e = .returned (.tuple #[]) ∧ OwnsW w' b n (S.filter fun e => !hasK T e.key) ∧ w.grownBy w' (some b) := by
  have h := AnyDf.maps_DeleteFunc Tryz.layDel lawS (plainElem (H := Unit) Tryz.prog 9) (fun kl _ => goneB T kl) 27 #[.pointer (some ⟨g, 0, none⟩)] b n (toD S) w enters_ofClosure hown (fun W key val kl yd yp hgr hkey hval => by
    obtain ⟨x, rfl, rfl, hx⟩ := Maps.keyOf_str Tryz.underlying9 hkey
    obtain ⟨s, rfl, _, _⟩ := plainElem_string_inv Tryz.underlying9 hval
    have hcW : W.cell? ⟨g, 0, none⟩ = some (.map (some mb)) := (World.cell?_of_block (hgr.block g hg (fun e => hne (Option.some.inj e)))).trans hc
    have hoW : OwnsW W mb nb T := World.ownsMap.kept ho hgr (fun e => hnm (Option.some.inj e))
    exact (ofClosure_any (str x) s g mb nb T W hcW hoW (by rw [str_size]; exact hx)).mono fun e w' ⟨he, hw⟩ => ⟨he, hw ▸ ⟨rfl, rfl, rfl, Nat.le_refl _, fun _ _ _ => rfl⟩⟩)
  refine h.mono fun e w' ⟨he, ho', hg'⟩ => ⟨he, ?_, hg'⟩
  have e1 : Lib.deleteFuncD (fun kl (_ : DataW Unit) => goneB T kl) (toD S) = toD (S.filter fun e => !hasK T e.key) := toD_delete (fun e => hasK T e.key) _ S fun e _ => by
    show hasK T (str (bts e.key)) = _
    rw [str_bts]
  rw [e1] at ho'
  exact ho'
/-- What Of answers. -/
def DiffRes (a b : Bun) (w : World) (e : Ending) (w' : World) : Prop :=
  Below w.heap.size w w' ∧ ((bothFault a b ≠ 0 ∧ e = .returned (.tuple #[.agg #[.string ByteArray.empty, .slice none 0 0], .slice none 0 0, errV (bothFault a b)])) ∨
    (bothFault a b = 0 ∧ ∃ V L, e = .returned (.tuple #[.agg #[.string b.tag, V], L, .nilIface]) ∧ w'.ownsRow w.heap.size 33 2 V (diffPut a.ents b.ents).length (flatE (diffPut a.ents b.ents)) ∧
      w'.ownsRow w.heap.size 9 1 L (diffGone a.ents b.ents).length ((diffGone a.ents b.ents).map .string)))
/-- What stands behind the two calls of words. -/
structure TwoMaps (W w : World) (ma mb g : Nat) (a b : List Ent) : Prop where
  below : Below W.heap.size W w
  la : W.heap.size ≤ ma
  lb : W.heap.size ≤ mb
  lg : W.heap.size ≤ g
  oa : OwnsW w ma a.length (srt a)
  ob : OwnsW w mb b.length (srt b)
  cell : w.heap[g]? = some (.cells #[.map (some mb)] 53 (0, 0))
  ne : ma ≠ mb

theorem own_blk_ne {w : World} {base : Nat} {e t : TypeId} {size : Nat} {v : Value} {n : Nat} {xs : List Value} {g : Nat} {cs : Array Value} (h : w.ownsRow base e size v n xs) (k : Blk w g t cs) (hne : e ≠ t) : v.ownBlock ≠ some g := by
  intro hg
  obtain ⟨_, ⟨h2, _⟩ | ⟨g1, cap, cur, hv, hb, hh, r⟩⟩ := h
  · rw [h2] at hg; cases hg
  · rw [hv] at hg; injection hg with hg; subst hg
    unfold Blk at k
    rw [hh] at k; injection k with k; injection k with _ k
    exact hne k
theorem own_map_ne {w : World} {base : Nat} {e : TypeId} {size : Nat} {v : Value} {n : Nat} {xs : List Value} {b m : Nat} {S : List Ent} (h : w.ownsRow base e size v n xs) (k : OwnsW w b m S) : v.ownBlock ≠ some b := by
  intro hg
  obtain ⟨_, ⟨h2, _⟩ | ⟨g1, cap, cur, hv, hb, hh, r⟩⟩ := h
  · rw [h2] at hg; cases hg
  · rw [hv] at hg; injection hg with hg; subst hg
    obtain ⟨es, clock, hm, _⟩ := k
    rw [hh] at hm; cases hm
theorem blk_map_ne {w : World} {g b m : Nat} {t : TypeId} {cs : Array Value} {S : List Ent} (h : Blk w g t cs) (k : OwnsW w b m S) : g ≠ b := by
  rintro rfl
  obtain ⟨es, clock, hm, _⟩ := k
  unfold Blk at h
  rw [h] at hm; cases hm
/-- What Of's loop holds. -/
structure OfLoop (w wr : World) (ma mb g bx : Nat) (bt : ByteArray) (kv : Value) (al bl : List Ent) (j : Nat) : Prop where
  below : Below w.heap.size w wr
  oa : OwnsW wr ma al.length (srt al)
  ob : OwnsW wr mb bl.length (srt bl)
  cell : Blk wr g 53 #[.map (some mb)]
  keys : wr.ownsRow w.heap.size 9 1 kv (srt bl).length ((srt bl).map fun e => .string e.key)
  la : w.heap.size ≤ ma
  lb : w.heap.size ≤ mb
  lg : w.heap.size ≤ g
  lx : w.heap.size ≤ bx
  res : Blk wr (w.heap.size + 1 + 1) 24 #[.string ⟨#[]⟩, .slice none 0 0]
  rx : w.heap.size + 1 + 1 < bx
  box : ∃ V, Blk wr bx 24 #[.string bt, V] ∧ wr.ownsRow w.heap.size 33 2 V (((srt bl).take j).filter fun e => !hasText (srt al) e).length (flatE (((srt bl).take j).filter fun e => !hasText (srt al) e))

def putN (al bl : List Ent) (j : Nat) : List Ent := ((srt bl).take j).filter fun e => !hasText (srt al) e
theorem putN_succ (al bl : List Ent) (j : Nat) (hj : j < (srt bl).length) : putN al bl (j + 1) = if hasText (srt al) (srt bl)[j] then putN al bl j else putN al bl j ++ [(srt bl)[j]] := by
  unfold putN
  rw [List.take_succ_eq_append_getElem hj, List.filter_append]
  cases h : hasText (srt al) (srt bl)[j] <;> simp [h]
theorem OfLoop.stay {w wr : World} {ma mb g bx : Nat} {bt : ByteArray} {kv : Value} {al bl : List Ent} {j : Nat} (h : OfLoop w wr ma mb g bx bt kv al bl j) (hp : putN al bl (j + 1) = putN al bl j) : OfLoop w wr ma mb g bx bt kv al bl (j + 1) :=
  ⟨h.below, h.oa, h.ob, h.cell, h.keys, h.la, h.lb, h.lg, h.lx, h.res, h.rx, by
    obtain ⟨V, h1, h2⟩ := h.box
    refine ⟨V, h1, ?_⟩
    show wr.ownsRow _ _ _ _ (putN al bl (j + 1)).length (flatE (putN al bl (j + 1)))
    rw [hp]; exact h2⟩
theorem flatE_snoc (l : List Ent) (e : Ent) : flatE (l ++ [e]) = flatE l ++ [.string e.key, .string e.text] := by
  unfold flatE; rw [List.flatMap_append]; rfl
theorem OfLoop.push {w wr w4 : World} {ma mb g bx : Nat} {bt : ByteArray} {kv V v4 : Value} {al bl : List Ent} {j : Nat} {e : Ent} {o : Obj} (h : OfLoop w wr ma mb g bx bt kv al bl j) (hbox : Blk wr bx 24 #[.string bt, V])
    (hrow : wr.ownsRow w.heap.size 33 2 V (putN al bl j).length (flatE (putN al bl j))) (hg : (wr.alloc o).grownBy w4 V.ownBlock)
    (hown : w4.ownsRow w.heap.size 33 2 v4 ((putN al bl j).length + 1) (flatE (putN al bl j) ++ [.string e.key, .string e.text])) (hp : putN al bl (j + 1) = putN al bl j ++ [e]) :
    OfLoop w (w4.setCell ⟨bx, 1, none⟩ v4) ma mb g bx bt kv al bl (j + 1) := by
  have hba : Below wr.heap.size wr (wr.alloc o) := (Below.refl _ _).alloc (Nat.le_refl _) _
  have hrow' := own_below hrow hba (Nat.le_refl _)
  have hmap : ∀ {b m : Nat} {S : List Ent}, OwnsW wr b m S → OwnsW (w4.setCell ⟨bx, 1, none⟩ v4) b m S := fun {b m S} ho =>
    World.ownsMap.setCell (World.ownsMap.kept (World.ownsMap.alloc ho o) hg (fun e => own_map_ne hrow ho e.symm)) (fun e => blk_map_ne hbox ho e.symm) v4
  have hblk : ∀ {k : Nat} {t : TypeId} {cs : Array Value}, Blk wr k t cs → 33 ≠ t → k ≠ bx → Blk (w4.setCell ⟨bx, 1, none⟩ v4) k t cs := fun {k t cs} hk ht hx =>
    Blk.far (blk_grown (hk.alloc o) hg (fun e => own_blk_ne hrow hk ht e.symm)) hx v4
  have hb4 : Below w.heap.size w w4 := (h.below.alloc h.below.size o).grown hg (by simp; have := h.below.size; omega) (fun k hk => (own_lt hrow hk).1)
  refine ⟨hb4.setCell h.lx v4, hmap h.oa, hmap h.ob, hblk h.cell (by decide) (fun e => ?_), ?_, h.la, h.lb, h.lg, h.lx, hblk h.res (by decide) (by have := h.rx; omega), h.rx, ?_⟩
  · subst e
    have h1 := h.cell
    unfold Blk at h1 hbox
    rw [hbox] at h1; injection h1 with h1; injection h1 with _ h1; exact absurd h1 (by decide)
  · have hk := own_below h.keys hba (Nat.le_refl _)
    have hk4 : w4.ownsRow w.heap.size 9 1 kv (srt bl).length ((srt bl).map fun e => .string e.key) := own_keep hk fun k hkk hlt => hg.block k hlt fun e => own_types hk hrow' (by decide) hkk e.symm
    refine own_keep hk4 fun k hkk _ => Below.heap_setCell _ _ _ _ fun e => ?_
    subst e
    exact own_blk_ne h.keys hbox (by decide) hkk
  · have hbx4 : Blk w4 bx 24 #[.string bt, V] := blk_grown (hbox.alloc o) hg (fun e => own_blk_ne hrow hbox (by decide) e.symm)
    refine ⟨v4, hbx4.set_ 1 v4, ?_⟩
    show World.ownsRow _ _ _ _ _ (putN al bl (j + 1)).length (flatE (putN al bl (j + 1)))
    rw [hp, flatE_snoc, List.length_append]
    refine own_keep hown fun k hkk _ => Below.heap_setCell _ _ _ _ fun e => ?_
    subst e
    exact own_blk_ne hown hbx4 (by decide) hkk

set_option maxHeartbeats 6400000 in
set_option maxRecDepth 100000 in
theorem diffOf_any (a b : Bun) (u v : Value) (w : World) (ha : BunIn w a u) (hb : BunIn w b v) (hm : MaxVar w) :
    Calls Tryz.prog 8 #[.agg #[.string a.tag, u], .agg #[.string b.tag, v]] w (DiffRes a b w) := by
  have HBo : Hid (∀ W, Below w.heap.size w W → Calls Tryz.prog 22 #[.agg #[.string a.tag, u], .agg #[.string b.tag, v]] W fun e w' => Below W.heap.size W w' ∧ e = .returned (errV (bothFault a b))) := Lib.hid fun W hW => bothBun_any a b u v W (ha.below hW) (hb.below hW) (hm.below hW)
  have HRi : Hid (bothFault a b = 0 → Right a ∧ Right b) := Lib.hid fun h => by
    unfold bothFault at h
    split at h
    · rename_i h1; exact ⟨(right_iff a).1 h1, (right_iff b).1 h⟩
    · rename_i h1; exact absurd h h1
  have HWa : Hid (Right a → ∀ W, Below w.heap.size w W → Calls Tryz.prog 23 #[.agg #[.string a.tag, u]] W fun e w' => Below W.heap.size W w' ∧ ∃ mb, e = .returned (.map (some mb)) ∧ W.heap.size ≤ mb ∧ OwnsW w' mb a.ents.length (srt a.ents)) := Lib.hid fun hr W hW =>
    words_any a u W (ha.below hW) (Nat.le_trans hr.len (by decide)) fun e he => ⟨Nat.le_trans (ha.each e he).1 (by decide), Nat.le_trans (ha.each e he).2 (by decide)⟩
  have HWb : Hid (Right b → ∀ W, Below w.heap.size w W → Calls Tryz.prog 23 #[.agg #[.string b.tag, v]] W fun e w' => Below W.heap.size W w' ∧ ∃ mb, e = .returned (.map (some mb)) ∧ W.heap.size ≤ mb ∧ OwnsW w' mb b.ents.length (srt b.ents)) := Lib.hid fun hr W hW =>
    words_any b v W (hb.below hW) (Nat.le_trans hr.len (by decide)) fun e he => ⟨Nat.le_trans (hb.each e he).1 (by decide), Nat.le_trans (hb.each e he).2 (by decide)⟩
  obtain ⟨_, hla⟩ := ha.lo
  obtain ⟨_, hlb⟩ := hb.lo
  obtain ⟨A, c, rfl, _⟩ := hla.form
  obtain ⟨B, d, rfl, _⟩ := hlb.form
  have HU : Hid (DiffRes a b w = fun e w' => Below w.heap.size w w' ∧ ((bothFault a b ≠ 0 ∧ e = .returned (.tuple #[.agg #[.string ByteArray.empty, .slice none 0 0], .slice none 0 0, errV (bothFault a b)])) ∨
    (bothFault a b = 0 ∧ ∃ V L, e = .returned (.tuple #[.agg #[.string b.tag, V], L, .nilIface]) ∧ w'.ownsRow w.heap.size 33 2 V (diffPut a.ents b.ents).length (flatE (diffPut a.ents b.ents)) ∧
      w'.ownsRow w.heap.size 9 1 L (diffGone a.ents b.ents).length ((diffGone a.ents b.ents).map .string)))) := Lib.hid rfl
  generalize DiffRes a b w = Q at *
  obtain ⟨at_, al⟩ := a
  obtain ⟨bt, bl⟩ := b
  dsimp only at HBo HWa HWb HU ⊢
  generalize bothFault ⟨at_, al⟩ ⟨bt, bl⟩ = F at *
  clear ha hb hla hlb hm
  go_enter Tryz.func8, Tryz.ntmps8
  go_wp2_with fail
  obtain ⟨W0, eW0⟩ : ∃ W0, W0 = ((w.alloc (.cells #[.string at_, .slice A al.length c] 24)).alloc (.cells #[.string bt, .slice B bl.length d] 24)).alloc (.cells #[.string ⟨#[]⟩, .slice none 0 0] 24) := ⟨_, rfl⟩
  have hb0 : Below w.heap.size w W0 := by rw [eW0]; exact (((Below.refl _ _).alloc (Nat.le_refl _) _).alloc (by simp) _).alloc (by simp; omega) _
  have ma0 : Blk W0 w.heap.size 24 #[.string at_, .slice A al.length c] := by rw [eW0]; exact ((Blk.new _ _ _).alloc _).alloc _
  have mb0 : Blk W0 (w.heap.size + 1) 24 #[.string bt, .slice B bl.length d] := by
    rw [eW0]
    have := Blk.new (w.alloc (.cells #[.string at_, .slice A al.length c] 24)) 24 #[.string bt, .slice B bl.length d]
    rw [World.size_alloc] at this
    exact this.alloc _
  have mr0 : Blk W0 (w.heap.size + 1 + 1) 24 #[.string ⟨#[]⟩, .slice none 0 0] := by
    rw [eW0]
    have := Blk.new ((w.alloc (.cells #[.string at_, .slice A al.length c] 24)).alloc (.cells #[.string bt, .slice B bl.length d] 24)) 24 #[.string ⟨#[]⟩, .slice none 0 0]
    simp only [World.size_alloc] at this
    exact this
  rw [← eW0]
  clear eW0
  have HB0 := Lib.hid hb0
  have HMa := Lib.hid ma0
  have HMb := Lib.hid mb0
  have HMr := Lib.hid mr0
  clear hb0 ma0 mb0 mr0
  refine (HBo.out _ HB0.out).mono ?_
  clear HBo
  rintro e w1 ⟨hb1, rfl⟩
  have HB1 := Lib.hid (HB0.out.trans (hb1.mono HB0.out.size))
  have HMa1 := Lib.hid (HMa.out.below hb1 HMa.out.lt)
  have HMb1 := Lib.hid (HMb.out.below hb1 HMb.out.lt)
  have HMr1 := Lib.hid (HMr.out.below hb1 HMr.out.lt)
  have hs1 := HB1.out.size
  clear hb1 HMa HMb HMr HB0
  by_cases hF : F = 0
  · subst hF
    obtain ⟨hra, hrb⟩ := HRi.out rfl
    have HWa' := Lib.hid (HWa.out hra)
    have HWb' := Lib.hid (HWb.out hrb)
    have HRa := Lib.hid hra
    have HRb := Lib.hid hrb
    clear HWa HWb HRi hra hrb
    rw [errV_zero]
    obtain ⟨W0, eW0⟩ : ∃ W0 : World, W0 = w1 := ⟨_, rfl⟩
    rw [← eW0] at HB1 HMa1 HMb1 HMr1 hs1 ⊢
    clear eW0
    go_upto_region 4 with fail
    go_cut [8, 9] (fun x y wx => ∃ ma mb g, x = .map (some ma) ∧ y = .pointer (some ⟨g, 0, none⟩) ∧ TwoMaps W0 wx ma mb g al bl)
    case first =>
      have k0 := HMa1.out.cell 0
      have k1 := HMa1.out.cell 1
      have k2 := HMb1.out.cell 0
      have k3 := HMb1.out.cell 1
      simp at k0 k1 k2 k3
      have ha1 := HMa1.out.lt
      have hb1 := HMb1.out.lt
      have KS : Hid (∀ w', Below W0.heap.size W0 w' → Below W0.heap.size W0 w' ∧ w'.cell? ⟨w.heap.size, 0, none⟩ = some (.string at_) ∧ w'.cell? ⟨w.heap.size, 1, none⟩ = some (.slice A al.length c) ∧ w'.cell? ⟨w.heap.size + 1, 0, none⟩ = some (.string bt) ∧ w'.cell? ⟨w.heap.size + 1, 1, none⟩ = some (.slice B bl.length d)) := Lib.hid fun w' hw => ⟨hw, (hw.cell (p := ⟨w.heap.size, 0, none⟩) ha1).trans k0, (hw.cell (p := ⟨w.heap.size, 1, none⟩) ha1).trans k1, (hw.cell (p := ⟨w.heap.size + 1, 0, none⟩) hb1).trans k2, (hw.cell (p := ⟨w.heap.size + 1, 1, none⟩) hb1).trans k3⟩
      go_region_held3 (fun w' => Below W0.heap.size W0 w' ∧ w'.cell? ⟨w.heap.size, 0, none⟩ = some (.string at_) ∧ w'.cell? ⟨w.heap.size, 1, none⟩ = some (.slice A al.length c) ∧ w'.cell? ⟨w.heap.size + 1, 0, none⟩ = some (.string bt) ∧ w'.cell? ⟨w.heap.size + 1, 1, none⟩ = some (.slice B bl.length d))
        (first
          | exact KS.out _ hbx
          | exact KS.out _ (hbx.alloc hbx.size _)
          | exact KS.out _ (Below.refl _ _).drew
          | exact KS.out _ ((Below.refl _ _).alloc (Nat.le_refl _) _).drew
          | exact KS.out _ (hbx.setCell (by first | exact Nat.le_refl _ | (simp; omega)) _)
          | fail)
        (first
          | (go_at_call 23
             (with_reducible refine (HWa'.out _ (HB1.out.trans (Below.mono (by first | exact hbx | exact hbx.alloc hbx.size _ | exact (Below.refl _ _).drew | exact ((Below.refl _ _).alloc (Nat.le_refl _) _).drew) hs1))).mono ?_)
             clear HWa'
             rintro e wa ⟨hba, ma, rfl, hma, hoa⟩
             have hbx : Below W0.heap.size W0 wa := by first | exact hbx.trans (hba.mono hbx.size) | exact (hbx.alloc hbx.size _).trans (hba.mono (hbx.alloc hbx.size _).size) | exact Below.trans (Below.refl _ _).drew (hba.mono (Nat.le_refl _)) | exact Below.trans ((Below.refl _ _).alloc (Nat.le_refl _) _).drew (hba.mono (((Below.refl _ _).alloc (Nat.le_refl _) _).drew).size)
             have hsx := hbx.size
             have hla := hoa.lt
             have hga : W0.heap.size ≤ ma := by (try simp at hma); omega
             (first | have HOb := Lib.hid (HOb.out.below hba HOb.out.lt) | have HOb := Lib.hid (OwnsW.below (World.ownsMap.alloc HOb.out _) hba (World.ownsMap.alloc HOb.out _).lt) | skip)
             (first | have hne : ma ≠ mb := (by (try simp at hma); omega) | skip)
             (first | have HG := Lib.hid (HG.out.below hba HG.out.lt) | have HG := Lib.hid ((Blk.new W0 53 #[.map none]).drew.below hba (by simp)) | have HG := Lib.hid ((Blk.new _ 53 #[.map none]).below hba (by simp)) | skip)
             (first | (have q0 := HG.out.cell 0; have q1 := HG.out.frozen 0; simp at q0) | skip)
             have HOa := Lib.hid hoa
             clear hba hoa)
          | (go_at_call 23
             (with_reducible refine (HWb'.out _ (HB1.out.trans (Below.mono (by first | exact hbx | exact hbx.alloc hbx.size _ | exact (Below.refl _ _).drew | exact ((Below.refl _ _).alloc (Nat.le_refl _) _).drew) hs1))).mono ?_)
             clear HWb'
             rintro e wb ⟨hbb, mb, rfl, hmb, hob⟩
             have hbx : Below W0.heap.size W0 wb := by first | exact hbx.trans (hbb.mono hbx.size) | exact (hbx.alloc hbx.size _).trans (hbb.mono (hbx.alloc hbx.size _).size) | exact Below.trans (Below.refl _ _).drew (hbb.mono (Nat.le_refl _)) | exact Below.trans ((Below.refl _ _).alloc (Nat.le_refl _) _).drew (hbb.mono (((Below.refl _ _).alloc (Nat.le_refl _) _).drew).size)
             have hsx := hbx.size
             have hlb := hob.lt
             have hgb : W0.heap.size ≤ mb := by (try simp at hmb); omega
             (first | have HOa := Lib.hid (HOa.out.below hbb HOa.out.lt) | have HOa := Lib.hid (OwnsW.below (World.ownsMap.alloc HOa.out _) hbb (World.ownsMap.alloc HOa.out _).lt) | skip)
             (first | have hne : ma ≠ mb := (by (try simp at hmb); omega) | skip)
             (first | have HG := Lib.hid (HG.out.below hbb HG.out.lt) | have HG := Lib.hid ((Blk.new W0 53 #[.map none]).drew.below hbb (by simp)) | have HG := Lib.hid ((Blk.new _ 53 #[.map none]).below hbb (by simp)) | skip)
             (first | (have q0 := HG.out.cell 0; have q1 := HG.out.frozen 0; simp at q0) | skip)
             have HOb := Lib.hid hob
             clear hbb hob)
          | fail)
      all_goals
        clear k0 k1 k2 k3 KS
        have hsb := hbx.size
        (try simp at hma)
        (try simp at hmb)
        go_wp2_with fail
        go_meet
        case rel =>
          first
            | exact ⟨ma, mb, wb.heap.size, rfl, rfl, hbx.alloc hbx.size _, hga, hgb, hbx.size, World.ownsMap.alloc HOa.out _, World.ownsMap.alloc HOb.out _, Blk.new _ _ _, hne⟩
            | exact ⟨ma, mb, _, rfl, rfl, hbx.setCell (by first | exact Nat.le_refl _ | (simp; omega)) _, hga, hgb, by first | exact Nat.le_refl _ | omega, World.ownsMap.setCell HOa.out (by simp; omega) _, World.ownsMap.setCell HOb.out (by simp; omega) _, HG.out.set_ 0 _, hne⟩
    case rest =>
      obtain ⟨ma, mb, g, rfl, rfl, H2⟩ := hcut
      have HT := Lib.hid H2
      have HBc := Lib.hid (HB1.out.trans (H2.below.mono hs1))
      have HMb2 := Lib.hid (HMb1.out.below H2.below HMb1.out.lt)
      have HMr2 := Lib.hid (HMr1.out.below H2.below HMr1.out.lt)
      have hsc := HBc.out.size
      have g0 : wc.cell? ⟨g, 0, none⟩ = some (.map (some mb)) := Blk.cell (t := 53) (cs := #[.map (some mb)]) H2.cell 0
      have hgl : g < wc.heap.size := Blk.lt (t := 53) (cs := #[.map (some mb)]) H2.cell
      have hmb := H2.ob.lt
      have HNe := Lib.hid H2.ne
      have hma := H2.oa.lt
      have k2 := HMb2.out.cell 0
      simp at k2
      have hrw := HMr2.out.lt
      clear H2 HMa1 HMb1 HMr1 HWa' HWb'
      go_wp2_with fail
      obtain ⟨W2, eW2⟩ : ∃ W2, W2 = wc.alloc (.cells #[.string bt, .slice none 0 0] 24) := ⟨_, rfl⟩
      have mx : Blk W2 wc.heap.size 24 #[.string bt, .slice none 0 0] := by rw [eW2]; exact Blk.new _ _ _
      have hb2 : Below wc.heap.size wc W2 := by rw [eW2]; exact (Below.refl _ _).alloc (Nat.le_refl _) _
      have HMx := Lib.hid mx
      have HB2 := Lib.hid hb2
      obtain ⟨bx, ebx⟩ : ∃ bx, bx = wc.heap.size := ⟨_, rfl⟩
      have hbxl : wc.heap.size ≤ bx := Nat.le_of_eq ebx.symm
      rw [← ebx] at HMx
      rw [← eW2, ← ebx]
      clear eW2 mx hb2 ebx
      have hs2 := HB2.out.size
      have HO2 : Hid (OwnsW W2 mb bl.length (srt bl)) := Lib.hid (OwnsW.below HT.out.ob HB2.out hmb)
      have hbw : bl.length ≤ 1000000 := Nat.le_trans HRb.out.len (by decide)
      have hsl : (srt bl).length = bl.length := srt_length HRb.out.uniq
      have HSo := Lib.hid (sorted_any mb bl.length (srt bl) (srt_srt bl) W2 HO2.out (by omega))
      have HSl := Lib.hid hsl
      have hsmall : (srt bl).length ≤ 1000000 := by omega
      clear hsl
      refine (keys_any _ _).mono ?_
      rintro e w5 ⟨rfl, rfl⟩
      go_wp2_with fail
      refine HSo.out.mono ?_
      clear HSo
      rintro e w6 ⟨kv, rfl, hkv, hb6⟩
      have hb6' : Below W2.heap.size W2 w6 := ((Below.refl W2.heap.size W2).alloc (Nat.le_refl _) _).trans (hb6.mono (Nat.le_succ _))
      obtain ⟨kA, kc, rfl, hkc⟩ := own_slice hkv
      have HL0 : Hid (OfLoop w w6 ma mb g bx bt (.slice kA (srt bl).length kc) al bl 0) := Lib.hid (by
        refine ⟨HBc.out.trans ((HB2.out.trans (hb6'.mono hs2)).mono hsc), OwnsW.below (OwnsW.below HT.out.oa HB2.out hma) hb6' (by omega), OwnsW.below HO2.out hb6' (by omega), ?_, own_mono hkv (by omega), by have := HT.out.la; omega, by have := HT.out.lb; omega, by have := HT.out.lg; omega, by omega, (HMr2.out.below HB2.out hrw).below hb6' (by omega), by omega, .slice none 0 0, HMx.out.below hb6' HMx.out.lt, own_nil⟩
        have : Blk W2 g 53 #[.map (some mb)] := Blk.below HT.out.cell HB2.out hgl
        exact this.below hb6' this.lt)
      have HMr6 := Lib.hid ((HMr2.out.below HB2.out hrw).below hb6' (by omega))
      have HMrw : Hid (∀ wr, Below w6.heap.size w6 wr → True) := Lib.hid fun _ _ => trivial
      clear hkv hb6 hb6' HO2 HT HMx HMr2 g0 k2 HB2 HMrw
      have hrl := HMr6.out.lt
      go_wp2_with fail
      go_loopw [12, 13, 14, 33] (fun _ _ _ i wr => ∃ j : Nat, j ≤ (srt bl).length ∧ i = .int .i64 j ∧ OfLoop w wr ma mb g bx bt (.slice kA (srt bl).length kc) al bl j) (fun _ _ _ i _ => (srt bl).length - (intOf i).toNat)
      case atStart => exact ⟨0, Nat.zero_le _, rfl, HL0.out⟩
      case round =>
        obtain ⟨j, hj, rfl, hL⟩ := hrel
        have HLp := Lib.hid hL
        have hbs := hL.below.size
        clear hL
        by_cases hlt : j < (srt bl).length
        · have hkl : ListOk Enc.str wr w.heap.size wr.heap.size (.slice kA (srt bl).length kc) ((srt bl).map (·.key)) := by
            have h := HLp.out.keys
            have e1 : (srt bl).length = ((srt bl).map (·.key)).length := by simp
            have e2 : ((srt bl).map fun e => Value.string e.key) = ((srt bl).map (·.key)).map .string := by rw [List.map_map]; rfl
            rw [e1, e2] at h
            rw [e1]
            exact ListOk.strs_of_own h (Nat.le_refl _) (Nat.le_refl _)
          obtain ⟨kb, ko, rfl, _, hkb, hkc0⟩ := hkl.strAt j (by simpa using hlt)
          rw [List.getElem_map] at hkc0
          have hmem : (srt bl)[j] ∈ srt bl := List.getElem_mem hlt
          obtain ⟨hek, het⟩ := HRb.out.each _ ((mem_srt HRb.out.uniq).1 hmem)
          have HSu := Lib.hid (putN_succ al bl j hlt)
          have htx := textK_some (srt_srt bl).uniq hmem
          have HT : Hid (hasText (srt al) (srt bl)[j] = match textK (srt al) (srt bl)[j].key with | some t => eqs t (srt bl)[j].text | none => false) := Lib.hid rfl
          generalize (srt bl)[j] = e at *
          obtain ⟨ky, tx⟩ := e
          dsimp only at hkc0 hek het htx HT
          have hks : ky.size ≤ maxLen := by
            unfold keyOk at hek
            simp only [Bool.and_eq_true, decide_eq_true_eq] at hek
            unfold maxLen; omega
          have hr1 := look_ok_str HLp.out.oa ky hks
          have hr2 := look_str HLp.out.ob ky hks
          rw [htx] at hr2
          simp only [Option.getD_some] at hr2
          have hg0 : wr.cell? ⟨g, 0, none⟩ = some (.map (some mb)) := Blk.cell (t := 53) (cs := #[.map (some mb)]) HLp.out.cell 0
          have hgl' := Blk.lt (t := 53) (cs := #[.map (some mb)]) HLp.out.cell
          obtain ⟨V, hbox, hrow⟩ := HLp.out.box
          change wr.ownsRow w.heap.size 33 2 V (putN al bl j).length (flatE (putN al bl j)) at hrow
          obtain ⟨Av, cv, rfl, _⟩ := own_slice hrow
          have HBox := Lib.hid hbox
          have HRow := Lib.hid hrow
          have b1 := hbox.cell 1
          simp at b1
          have hbxl' := hbox.lt
          clear hkl hbox hrow hmem hek htx
          cases ht1 : textK (srt al) ky with
          | none =>
            rw [ht1] at HT hr1
            have hh : hasK (srt al) ky = false := textK_none.1 ht1
            rw [hh] at hr1
            rw [HT.out] at HSu
            simp only [Bool.false_eq_true, if_false] at HSu
            clear HT ht1 hh
            have hplen : (putN al bl j).length ≤ (srt bl).length := Nat.le_trans (List.length_filter_le _ _) (by rw [List.length_take]; omega)
            have HnX : Hid (∀ q u, ([Value.string ky, .string tx] : List Value)[q]? = some u → (wr.alloc (.cells #[.string ky, .string tx] 33)).cell? ⟨wr.heap.size, 0 + q, none⟩ = some u) := Lib.hid fun q u hq => by
              rw [Nat.zero_add, (Blk.new wr 33 #[.string ky, .string tx]).cell q]; simpa using hq
            have HOa := Lib.hid (own_below HRow.out ((Below.refl wr.heap.size wr).alloc (Nat.le_refl _) (.cells #[.string ky, .string tx] 33)) (Nat.le_refl _))
            go_wp2_with (at_builtin; refine wpList_append_any rfl _ _ 22 rfl w.heap.size 33 Tryz.underlying22 info_ent rfl (by decide) (flatE (putN al bl j)) rfl HOa.out [.string ky, .string tx] rfl rfl (.inr ⟨_, _, rfl, HnX.out⟩) (by simp [Value.oneCell']) (by unfold maxLen; omega) (by omega) (by simp; omega) ?_)
            intro v4 w4 hown4 hgrow4 _
            have hbx4 := blk_grown (HBox.out.alloc (.cells #[.string ky, .string tx] 33)) hgrow4 (fun e => own_blk_ne HOa.out (HBox.out.alloc _) (by decide) e.symm)
            have HL4 := Lib.hid (HLp.out.push (e := ⟨ky, tx⟩) HBox.out HRow.out hgrow4 hown4 HSu.out)
            have s1 := hbx4.cell 1
            have s2 := hbx4.frozen 1
            simp at s1
            obtain ⟨Aw, cw, rfl, _⟩ := own_slice hown4
            clear hown4 hgrow4 hbx4 HnX HOa hr1 hr2 hg0 b1 hkc0
            go_wp2_with fail
            exact ⟨⟨j + 1, by omega, by go_num, HL4.out⟩, by simp [intOf]; omega⟩
          | some t0 =>
            rw [ht1] at HT hr1
            have hh : hasK (srt al) ky = true := by
              cases h : hasK (srt al) ky with
              | true => rfl
              | false => rw [textK_none.2 h] at ht1; cases ht1
            rw [hh] at hr1
            simp only [Option.getD_some] at hr1
            cases hte : (t0.toList == tx.toList) with
            | true =>
              have HT2 : Hid (hasText (srt al) ⟨ky, tx⟩ = true) := Lib.hid (by rw [HT.out]; exact hte)
              rw [HT2.out, if_pos rfl] at HSu
              have htn : (t0.toList != tx.toList) = false := by simp only [bne, hte]; rfl
              clear HT ht1 hh
              go_wp2_with fail
              exact ⟨⟨j + 1, by omega, by go_num, HLp.out.stay HSu.out⟩, by simp [intOf]; omega⟩
            | false =>
              have HT2 : Hid (hasText (srt al) ⟨ky, tx⟩ = false) := Lib.hid (by rw [HT.out]; exact hte)
              rw [HT2.out] at HSu
              simp only [Bool.false_eq_true, if_false] at HSu
              have htn : (t0.toList != tx.toList) = true := by simp only [bne, hte]; rfl
              clear HT ht1 hh
              have hplen : (putN al bl j).length ≤ (srt bl).length := Nat.le_trans (List.length_filter_le _ _) (by rw [List.length_take]; omega)
              have HnX : Hid (∀ q u, ([Value.string ky, .string tx] : List Value)[q]? = some u → (wr.alloc (.cells #[.string ky, .string tx] 33)).cell? ⟨wr.heap.size, 0 + q, none⟩ = some u) := Lib.hid fun q u hq => by
                rw [Nat.zero_add, (Blk.new wr 33 #[.string ky, .string tx]).cell q]; simpa using hq
              have HOa := Lib.hid (own_below HRow.out ((Below.refl wr.heap.size wr).alloc (Nat.le_refl _) (.cells #[.string ky, .string tx] 33)) (Nat.le_refl _))
              go_wp2_with (at_builtin; refine wpList_append_any rfl _ _ 22 rfl w.heap.size 33 Tryz.underlying22 info_ent rfl (by decide) (flatE (putN al bl j)) rfl HOa.out [.string ky, .string tx] rfl rfl (.inr ⟨_, _, rfl, HnX.out⟩) (by simp [Value.oneCell']) (by unfold maxLen; omega) (by omega) (by simp; omega) ?_)
              intro v4 w4 hown4 hgrow4 _
              have hbx4 := blk_grown (HBox.out.alloc (.cells #[.string ky, .string tx] 33)) hgrow4 (fun e => own_blk_ne HOa.out (HBox.out.alloc _) (by decide) e.symm)
              have HL4 := Lib.hid (HLp.out.push (e := ⟨ky, tx⟩) HBox.out HRow.out hgrow4 hown4 HSu.out)
              have s1 := hbx4.cell 1
              have s2 := hbx4.frozen 1
              simp at s1
              obtain ⟨Aw, cw, rfl, _⟩ := own_slice hown4
              clear hown4 hgrow4 hbx4 HnX HOa hr1 hr2 hg0 b1 hkc0
              go_wp2_with fail
              exact ⟨⟨j + 1, by omega, by go_num, HL4.out⟩, by simp [intOf]; omega⟩
        · obtain rfl : j = (srt bl).length := by omega
          obtain ⟨V, hbox, hrow⟩ := HLp.out.box
          change wr.ownsRow w.heap.size 33 2 V (putN al bl (srt bl).length).length (flatE (putN al bl (srt bl).length)) at hrow
          obtain ⟨Av, cv, rfl, _⟩ := own_slice hrow
          have HP : Hid (putN al bl (srt bl).length = diffPut al bl) := Lib.hid (by
            unfold putN diffPut
            rw [List.take_length]
            congr 1
            funext e
            rw [hasText_perm (srt_srt al).uniq (srt_perm HRa.out.uniq)])
          have hg0 : wr.cell? ⟨g, 0, none⟩ = some (.map (some mb)) := Blk.cell (t := 53) (cs := #[.map (some mb)]) HLp.out.cell 0
          have hgl' := Blk.lt (t := 53) (cs := #[.map (some mb)]) HLp.out.cell
          have HDel := Lib.hid (deleteFunc_any ma al.length g mb bl.length (srt al) (srt bl) wr HLp.out.oa hg0 HLp.out.ob hgl' (blk_map_ne HLp.out.cell HLp.out.oa) (fun e => HNe.out e.symm))
          have HBox := Lib.hid hbox
          have HRow := Lib.hid hrow
          clear hbox hrow hg0
          go_wp2_with fail
          refine HDel.out.mono ?_
          clear HDel
          rintro e w8 ⟨rfl, ho8, hg8⟩
          have eDo : ((srt al).filter fun e => !hasK (srt bl) e.key) = diffOut al bl := by
            unfold diffOut
            congr 1
            funext e
            rw [hasK_perm (srt_perm HRb.out.uniq)]
          rw [eDo] at ho8
          have HO8 := Lib.hid ho8
          have HB8 : Hid (Below w.heap.size w w8) := Lib.hid (HLp.out.below.grown hg8 hbs (fun k hk => by cases hk; exact HLp.out.la))
          have hbox8 : Blk w8 bx 24 #[.string bt, .slice Av (putN al bl (srt bl).length).length cv] := blk_grown HBox.out hg8 (fun e => blk_map_ne HBox.out HLp.out.oa (Option.some.inj e))
          have hres8 : Blk w8 (w.heap.size + 1 + 1) 24 #[.string ⟨#[]⟩, .slice none 0 0] := blk_grown HLp.out.res hg8 (fun e => blk_map_ne HLp.out.res HLp.out.oa (Option.some.inj e))
          have HRow8 : Hid (w8.ownsRow w.heap.size 33 2 (.slice Av (putN al bl (srt bl).length).length cv) (putN al bl (srt bl).length).length (flatE (putN al bl (srt bl).length))) := Lib.hid (own_keep HRow.out fun k hk hlt => hg8.block k hlt fun e => own_map_ne HRow.out HLp.out.oa (hk.trans e))
          have HMr8 := Lib.hid hres8
          have hRx := HLp.out.rx
          have hRl := hres8.lt
          have hbxl8 := hbox8.lt
          have hs8 := HB8.out.size
          have hRa : ma ≠ w.heap.size + 1 + 1 := fun e => blk_map_ne HLp.out.res HLp.out.oa e.symm
          have b0 := hbox8.cell 0
          have b1 := hbox8.cell 1
          have r0 := hres8.cell 0
          have r1 := hres8.cell 1
          have f0 := hres8.frozen 0
          have f1 := hres8.frozen 1
          simp at b0 b1 r0 r1
          have hdl : (diffOut al bl).length ≤ 1000000 := by
            have h1 := out_len (a := al) (b := bl) HRa.out.uniq
            unfold diffGone at h1
            rw [List.length_map] at h1
            have h2 : al.length ≤ 100 := HRa.out.len
            omega
          have HSo : Hid (∀ W p, Blk W p 53 #[.map (some ma)] → OwnsW W ma al.length (diffOut al bl) → Calls Tryz.prog 24 #[.func (.func 38) #[] #[.pointer (some ⟨p, 0, none⟩)]] W fun e w' =>
              ∃ v, e = .returned v ∧ w'.ownsRow W.heap.size 9 1 v (diffOut al bl).length ((diffOut al bl).map fun e => .string e.key) ∧ Below W.heap.size W w') := Lib.hid fun W p hB hO =>
            sorted_gen ma al.length p (diffOut al bl) (out_srt al bl) W (hB.cell 0) hB.lt hO hdl
          have KS : Hid (∀ w', Fr w8 w' (· = w.heap.size + 1 + 1) → w'.cell? ⟨bx, 0, none⟩ = some (.string bt) ∧ w'.cell? ⟨bx, 1, none⟩ = some (.slice Av (putN al bl (srt bl).length).length cv)) := Lib.hid fun w' hf => ⟨(hf.cell (p := ⟨bx, 0, none⟩) hbxl8 (by show ¬ bx = _; omega)).trans b0, (hf.cell (p := ⟨bx, 1, none⟩) hbxl8 (by show ¬ bx = _; omega)).trans b1⟩
          clear ho8 hg8 hbox8 hres8 HLp HBox HRow
          go_wp2_with fail
          go_region_held3 (fun w' => w'.cell? ⟨bx, 0, none⟩ = some (.string bt) ∧ w'.cell? ⟨bx, 1, none⟩ = some (.slice Av (putN al bl (srt bl).length).length cv))
            (first
              | exact KS.out _ (hfx)
              | exact KS.out _ ((Fr.refl _ _).drew)
              | exact KS.out _ (((Fr.refl _ _).alloc _).drew)
              | exact KS.out _ (((hfx.setCell (S := (· = w.heap.size + 1 + 1)) (.inl (rfl : w.heap.size + 1 + 1 = _)) _).setCell (.inl (rfl : w.heap.size + 1 + 1 = _)) _))
              | exact KS.out _ ((((Fr.refl _ _).setCell (S := (· = w.heap.size + 1 + 1)) (.inl (rfl : w.heap.size + 1 + 1 = _)) _).setCell (.inl (rfl : w.heap.size + 1 + 1 = _)) _).drew)
              | exact KS.out _ (((((Fr.refl _ _).alloc _).setCell (S := (· = w.heap.size + 1 + 1)) (.inl (rfl : w.heap.size + 1 + 1 = _)) _).setCell (.inl (rfl : w.heap.size + 1 + 1 = _)) _).drew)
              | exact KS.out _ (((((Fr.refl _ _).setCell (S := (· = w.heap.size + 1 + 1)) (.inl (rfl : w.heap.size + 1 + 1 = _)) _).setCell (.inl (rfl : w.heap.size + 1 + 1 = _)) _).alloc _).drew)
              | fail)
            (first
              | (go_at_call 25
                 (with_reducible refine (keys_any _ _).mono ?_)
                 rintro e w9 ⟨rfl, rfl⟩)
              | (go_at_call 24
                 refine (HSo.out _ _ (by first | exact Blk.new _ _ _ | exact (Blk.far (Blk.far (Blk.new _ _ _) (by simp; omega) _) (by simp; omega) _)) (by first | exact World.ownsMap.alloc HO8.out _ | exact World.ownsMap.setCell (World.ownsMap.setCell (World.ownsMap.alloc HO8.out _) hRa _) hRa _ | exact World.ownsMap.alloc (World.ownsMap.setCell (World.ownsMap.setCell HO8.out hRa _) hRa _) _)).mono ?_
                 rintro e w10 ⟨kv2, rfl, hkv2, hb10⟩
                 have hfx : Fr w8 w10 (· = w.heap.size + 1 + 1) := Fr.then_below (by repeat (first | exact Fr.refl _ _ | refine Fr.drew ?_ | refine Fr.alloc ?_ _ | refine Fr.setCell ?_ (.inl rfl) _)) hb10
                 obtain ⟨Ak, ck, rfl, _⟩ := own_slice hkv2
                 have HKv := Lib.hid (own_mono hkv2 (base' := w8.heap.size) (by simp))
                 (first
                   | have HRu : Hid (Blk w10 (w.heap.size + 1 + 1) 24 #[.string ⟨#[]⟩, .slice none 0 0]) := Lib.hid (Blk.below ((HMr8.out.alloc _)) hb10 (Blk.lt ((HMr8.out.alloc _))))
                   | have HRu : Hid (Blk w10 (w.heap.size + 1 + 1) 24 #[.string ⟨#[]⟩, .slice none 0 0]) := Lib.hid (Blk.below ((HMr8.out.alloc _).drew) hb10 (Blk.lt ((HMr8.out.alloc _).drew)))
                   | have HRs : Hid (Blk w10 (w.heap.size + 1 + 1) 24 #[.string bt, .slice Av (putN al bl (srt bl).length).length cv]) := Lib.hid (Blk.below (((HMr8.out.set_ 0 _).set_ 1 _).alloc _) hb10 (Blk.lt (((HMr8.out.set_ 0 _).set_ 1 _).alloc _)))
                   | have HRs : Hid (Blk w10 (w.heap.size + 1 + 1) 24 #[.string bt, .slice Av (putN al bl (srt bl).length).length cv]) := Lib.hid (Blk.below ((((HMr8.out.set_ 0 _).set_ 1 _).alloc _).drew) hb10 (Blk.lt ((((HMr8.out.set_ 0 _).set_ 1 _).alloc _).drew)))
                   | have HRs : Hid (Blk w10 (w.heap.size + 1 + 1) 24 #[.string bt, .slice Av (putN al bl (srt bl).length).length cv]) := Lib.hid (Blk.below (((HMr8.out.alloc _).set_ 0 _).set_ 1 _) hb10 (Blk.lt (((HMr8.out.alloc _).set_ 0 _).set_ 1 _)))
                   | have HRs : Hid (Blk w10 (w.heap.size + 1 + 1) 24 #[.string bt, .slice Av (putN al bl (srt bl).length).length cv]) := Lib.hid (Blk.below ((((HMr8.out.alloc _).set_ 0 _).set_ 1 _).drew) hb10 (Blk.lt ((((HMr8.out.alloc _).set_ 0 _).set_ 1 _).drew)))
                   | fail)
                 (first | (have q0 := HRu.out.cell 0; have q1 := HRu.out.cell 1; have q2 := HRu.out.frozen 0; have q3 := HRu.out.frozen 1; simp at q0 q1) | (have q0 := HRs.out.cell 0; have q1 := HRs.out.cell 1; simp at q0 q1) | skip)
                 clear hkv2 hb10)
              | fail)
          all_goals
            have hfin := (hfx.setCell (S := (· = w.heap.size + 1 + 1)) (p := ⟨w.heap.size + 1 + 1, 0, none⟩) (.inl (rfl : w.heap.size + 1 + 1 = _)) (.string bt)).setCell (p := ⟨w.heap.size + 1 + 1, 1, none⟩) (.inl (rfl : w.heap.size + 1 + 1 = _)) (.slice Av (putN al bl (srt bl).length).length cv)
            have HFin := Lib.hid hfin
            clear hfx hfin KS HSo
            go_wp2_with fail
            refine bodyPost_ret (v := .tuple #[.agg #[.string bt, .slice Av (putN al bl (srt bl).length).length cv], .slice Ak (diffOut al bl).length ck, .nilIface]) ?_ rfl ?_
            · simp [results, Tryz.results8, go_sem, q0, q1, q2, q3]
              try rfl
            · rw [HU.out]
              refine ⟨Fr.below HB8.out HFin.out hs8 (fun i hi => by have : i = w.heap.size + 1 + 1 := hi; omega), .inr ⟨by simp, _, _, rfl, ?_, ?_⟩⟩
              · rw [← HP.out]
                exact own_keep HRow8.out fun k hk hlt => HFin.out.block k hlt fun e => own_blk_ne HRow8.out HMr8.out (by decide) (by rw [hk]; exact congrArg some e)
              · have hk2 : ((diffGone al bl).map Value.string) = (diffOut al bl).map fun e => .string e.key := by unfold diffGone; rw [List.map_map]; rfl
                have hk3 : (diffGone al bl).length = (diffOut al bl).length := by unfold diffGone; rw [List.length_map]
                show World.ownsRow _ _ _ _ _ (diffGone al bl).length ((diffGone al bl).map Value.string)
                rw [hk2, hk3]
                refine own_mono (own_keep HKv.out fun k hk hlt => ?_) hs8
                have := (own_lt HKv.out hk).1
                rw [Below.heap_setCell _ _ _ _ (by simp; omega), Below.heap_setCell _ _ _ _ (by simp; omega)]
  · have HE := Lib.hid (errV_ne hF)
    rw [errV_ne hF]
    have HF0 := Lib.hid hF
    have r0 := HMr1.out.cell 0
    have r1 := HMr1.out.cell 1
    have f0 := HMr1.out.frozen 0
    have f1 := HMr1.out.frozen 1
    simp at r0 r1
    clear hF HWa HWb HRi HMa1 HMb1
    go_wp2_with fail
    refine bodyPost_ret (v := .tuple #[.agg #[.string ByteArray.empty, .slice none 0 0], .slice none 0 0, .iface 38 (.int .i64 F)]) ?_ rfl ?_
    · simp [results, Tryz.results8, go_sem, r0, r1, f0, f1]
      try rfl
    · rw [HU.out]
      refine ⟨Below.setCell (Below.setCell HB1.out (by simp; omega) _) (by simp; omega) _, .inl ⟨HF0.out, by rw [HE.out]⟩⟩
end Go.Proofs.YtiaobgapfoogiaaGreatDoor
