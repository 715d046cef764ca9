/- The walk of package diff: Apply. -/
import Derived.Test.YtiaobgapfoogiaaGreatDoorDiffOf
import Derived.Test.YtiaobgapfoogiaaGreatDoorDiffP
import Derived.Maps.OwnSet
set_option linter.unusedSimpArgs false
set_option linter.unusedVariables false
namespace Go.Proofs.YtiaobgapfoogiaaGreatDoor
open Go.RowKit Go.Maps

theorem copy_any (b n s m : Nat) (S T : List Ent) (w : World) (ho : OwnsW w b n S) (hs : OwnsW w s m T) (hne : b ≠ s) (hroom : n + T.length ≤ maxLen) :
    Calls Tryz.prog 29 #[.map (some b), .map (some s)] w fun e w' => e = .returned (.tuple #[]) ∧ OwnsW w' b (n + T.length) (T.foldl putE S) ∧ w.grownBy w' (some b) := by
  have h := AnyX.maps_Copy Tryz.layCopy lawS (plainElem (H := Unit) Tryz.prog 9) b s n m (toD S) (toD T) w ho hs hne (by rw [toD_size]; exact hroom)
  rw [toD_size, toD_merge] at h
  exact h.mono fun e w' ⟨h1, h2, _, h3⟩ => ⟨h1, h2, h3⟩
def applyFault (a p : Bun) (gone : List ByteArray) : Int := if bothFault a p = 0 then applyErr a.ents p.ents gone else bothFault a p
/-- What Apply answers. -/
def ApplyRes (a p : Bun) (gone : List ByteArray) (w : World) (e : Ending) (w' : World) : Prop :=
  Below w.heap.size w w' ∧ ((applyFault a p gone ≠ 0 ∧ e = .returned (.tuple #[.agg #[.string ByteArray.empty, .slice none 0 0], errV (applyFault a p gone)])) ∨
    (applyFault a p gone = 0 ∧ ∃ V, e = .returned (.tuple #[.agg #[.string p.tag, V], .nilIface]) ∧ w'.ownsRow w.heap.size 33 2 V (applied a.ents p.ents gone).length (flatE (applied a.ents p.ents gone))))
/-- What the loop over the keys that go holds. -/
structure ApLoop (w wr : World) (ma mb : Nat) (ca cp : Array Value) (al pl : List Ent) (gone : List ByteArray) (j : Nat) : Prop where
  below : Below w.heap.size w wr
  oa : OwnsW wr ma al.length (cutN al gone j)
  ob : OwnsW wr mb pl.length (srt pl)
  la : w.heap.size ≤ ma
  lb : w.heap.size ≤ mb
  ne : ma ≠ mb
  ba : Blk wr w.heap.size 24 ca
  bp : Blk wr (w.heap.size + 1) 24 cp
  res : Blk wr (w.heap.size + 1 + 1) 24 #[.string ⟨#[]⟩, .slice none 0 0]
theorem ApLoop.keep {w wr w1 : World} {ma mb : Nat} {ca cp : Array Value} {al pl : List Ent} {gone : List ByteArray} {j : Nat} (h : ApLoop w wr ma mb ca cp al pl gone j) (hb : Below wr.heap.size wr w1) : ApLoop w w1 ma mb ca cp al pl gone j :=
  ⟨h.below.trans (hb.mono h.below.size), OwnsW.below h.oa hb h.oa.lt, OwnsW.below h.ob hb h.ob.lt, h.la, h.lb, h.ne, h.ba.below hb h.ba.lt, h.bp.below hb h.bp.lt, h.res.below hb h.res.lt⟩
theorem ApLoop.cut {w wr w1 : World} {ma mb : Nat} {ca cp : Array Value} {al pl : List Ent} {gone : List ByteArray} {j : Nat} (h : ApLoop w wr ma mb ca cp al pl gone j) (hg : wr.grownBy w1 (some ma)) (ho : OwnsW w1 ma al.length (cutN al gone (j + 1))) : ApLoop w w1 ma mb ca cp al pl gone (j + 1) :=
  ⟨h.below.grown hg h.below.size (fun k hk => by cases hk; exact h.la), ho, World.ownsMap.kept h.ob hg (fun e => h.ne (Option.some.inj e).symm), h.la, h.lb, h.ne,
   blk_grown h.ba hg (fun e => blk_map_ne h.ba h.oa (Option.some.inj e)), blk_grown h.bp hg (fun e => blk_map_ne h.bp h.oa (Option.some.inj e)), blk_grown h.res hg (fun e => blk_map_ne h.res h.oa (Option.some.inj e))⟩
/-- What the loop over the keys that are there holds. -/
structure ApPut (w wr : World) (ma bx nn : Nat) (pt : ByteArray) (kv : Value) (L : List Ent) (j : Nat) : Prop where
  below : Below w.heap.size w wr
  oa : OwnsW wr ma nn L
  keys : wr.ownsRow w.heap.size 9 1 kv L.length (L.map fun e => .string e.key)
  la : w.heap.size ≤ ma
  lx : w.heap.size ≤ bx
  res : Blk wr (w.heap.size + 1 + 1) 24 #[.string ⟨#[]⟩, .slice none 0 0]
  rx : w.heap.size + 1 + 1 < bx
  box : ∃ V, Blk wr bx 24 #[.string pt, V] ∧ wr.ownsRow w.heap.size 33 2 V (L.take j).length (flatE (L.take j))
theorem ApPut.push {w wr w4 : World} {ma bx nn : Nat} {pt : ByteArray} {kv V v4 : Value} {L : List Ent} {j : Nat} {e : Ent} {o : Obj} (h : ApPut w wr ma bx nn pt kv L j) (hbox : Blk wr bx 24 #[.string pt, V])
    (hrow : wr.ownsRow w.heap.size 33 2 V (L.take j).length (flatE (L.take j))) (hg : (wr.alloc o).grownBy w4 V.ownBlock)
    (hown : w4.ownsRow w.heap.size 33 2 v4 ((L.take j).length + 1) (flatE (L.take j) ++ [.string e.key, .string e.text])) (hp : L.take (j + 1) = L.take j ++ [e]) :
    ApPut w (w4.setCell ⟨bx, 1, none⟩ v4) ma bx nn pt kv L (j + 1) := by
  have hba : Below wr.heap.size wr (wr.alloc o) := (Below.refl _ _).alloc (Nat.le_refl _) _
  have hrow' := own_below hrow hba (Nat.le_refl _)
  have hmap : ∀ {b m : Nat} {S : List Ent}, OwnsW wr b m S → OwnsW (w4.setCell ⟨bx, 1, none⟩ v4) b m S := fun {b m S} ho =>
    World.ownsMap.setCell (World.ownsMap.kept (World.ownsMap.alloc ho o) hg (fun e => own_map_ne hrow ho e.symm)) (fun e => blk_map_ne hbox ho e.symm) v4
  have hblk : ∀ {k : Nat} {t : TypeId} {cs : Array Value}, Blk wr k t cs → 33 ≠ t → k ≠ bx → Blk (w4.setCell ⟨bx, 1, none⟩ v4) k t cs := fun {k t cs} hk ht hx =>
    Blk.far (blk_grown (hk.alloc o) hg (fun e => own_blk_ne hrow hk ht e.symm)) hx v4
  have hb4 : Below w.heap.size w w4 := (h.below.alloc h.below.size o).grown hg (by simp; have := h.below.size; omega) (fun k hk => (own_lt hrow hk).1)
  refine ⟨hb4.setCell h.lx v4, hmap h.oa, ?_, h.la, h.lx, hblk h.res (by decide) (by have := h.rx; omega), h.rx, ?_⟩
  · have hk := own_below h.keys hba (Nat.le_refl _)
    have hk4 : w4.ownsRow w.heap.size 9 1 kv L.length (L.map fun e => .string e.key) := own_keep hk fun k hkk hlt => hg.block k hlt fun e => own_types hk hrow' (by decide) hkk e.symm
    refine own_keep hk4 fun k hkk _ => Below.heap_setCell _ _ _ _ fun e => ?_
    subst e
    exact own_blk_ne h.keys hbox (by decide) hkk
  · have hbx4 : Blk w4 bx 24 #[.string pt, V] := blk_grown (hbox.alloc o) hg (fun e => own_blk_ne hrow hbox (by decide) e.symm)
    refine ⟨v4, hbx4.set_ 1 v4, ?_⟩
    rw [hp, flatE_snoc, List.length_append]
    refine own_keep hown fun k hkk _ => Below.heap_setCell _ _ _ _ fun e => ?_
    subst e
    exact own_blk_ne hown hbx4 (by decide) hkk
structure TwoWords (W w : World) (ma mb : Nat) (a b : List Ent) : Prop where
  below : Below W.heap.size W w
  la : W.heap.size ≤ ma
  lb : W.heap.size ≤ mb
  oa : OwnsW w ma a.length (srt a)
  ob : OwnsW w mb b.length (srt b)
  ne : ma ≠ mb

set_option maxHeartbeats 6400000 in
set_option maxRecDepth 100000 in
theorem apply_any (a b : Bun) (gone : List ByteArray) (u v g : Value) (glo : Nat) (w : World) (ha : BunIn w a u) (hb : BunIn w b v) (hg : ListOk Enc.str w glo w.heap.size g gone) (hgl : gone.length ≤ 140737488355328) (hgs : ∀ x ∈ gone, x.size ≤ maxLen) (hm : MaxVar w) :
    Calls Tryz.prog 10 #[.agg #[.string a.tag, u], .agg #[.string b.tag, v], g] w (ApplyRes a b gone w) := by
  have HBo : Hid (∀ W, Below w.heap.size w W → Calls Tryz.prog 22 #[.agg #[.string a.tag, u], .agg #[.string b.tag, v]] W fun e w' => Below W.heap.size W w' ∧ e = .returned (errV (bothFault a b))) := Lib.hid fun W hW => bothBun_any a b u v W (ha.below hW) (hb.below hW) (hm.below hW)
  have HRi : Hid (bothFault a b = 0 → Right a ∧ Right b) := Lib.hid fun h => by
    unfold bothFault at h
    split at h
    · rename_i h1; exact ⟨(right_iff a).1 h1, (right_iff b).1 h⟩
    · rename_i h1; exact absurd h h1
  have HWa : Hid (Right a → ∀ W, Below w.heap.size w W → Calls Tryz.prog 23 #[.agg #[.string a.tag, u]] W fun e w' => Below W.heap.size W w' ∧ ∃ mb, e = .returned (.map (some mb)) ∧ W.heap.size ≤ mb ∧ OwnsW w' mb a.ents.length (srt a.ents)) := Lib.hid fun hr W hW =>
    words_any a u W (ha.below hW) (Nat.le_trans hr.len (by decide)) fun e he => ⟨Nat.le_trans (ha.each e he).1 (by decide), Nat.le_trans (ha.each e he).2 (by decide)⟩
  have HWb : Hid (Right b → ∀ W, Below w.heap.size w W → Calls Tryz.prog 23 #[.agg #[.string b.tag, v]] W fun e w' => Below W.heap.size W w' ∧ ∃ mb, e = .returned (.map (some mb)) ∧ W.heap.size ≤ mb ∧ OwnsW w' mb b.ents.length (srt b.ents)) := Lib.hid fun hr W hW =>
    words_any b v W (hb.below hW) (Nat.le_trans hr.len (by decide)) fun e he => ⟨Nat.le_trans (hb.each e he).1 (by decide), Nat.le_trans (hb.each e he).2 (by decide)⟩
  obtain ⟨_, hla⟩ := ha.lo
  obtain ⟨_, hlb⟩ := hb.lo
  obtain ⟨A, c, rfl, _⟩ := hla.form
  obtain ⟨B, d, rfl, _⟩ := hlb.form
  obtain ⟨G, gc, rfl, hgc⟩ := hg.form
  have HGl : Hid (∀ W, Below w.heap.size w W → ListOk Enc.str W glo w.heap.size (.slice G gone.length gc) gone) := Lib.hid fun W hW => hg.below Enc.str_laws hW
  have HGs := Lib.hid hgs
  have HU : Hid (ApplyRes a b gone w = fun e w' => Below w.heap.size w w' ∧ ((applyFault a b gone ≠ 0 ∧ e = .returned (.tuple #[.agg #[.string ByteArray.empty, .slice none 0 0], errV (applyFault a b gone)])) ∨
    (applyFault a b gone = 0 ∧ ∃ V, e = .returned (.tuple #[.agg #[.string b.tag, V], .nilIface]) ∧ w'.ownsRow w.heap.size 33 2 V (applied a.ents b.ents gone).length (flatE (applied a.ents b.ents gone))))) := Lib.hid rfl
  have HAf : Hid (applyFault a b gone = if bothFault a b = 0 then applyErr a.ents b.ents gone else bothFault a b) := Lib.hid rfl
  generalize ApplyRes a b gone w = Q at *
  generalize applyFault a b gone = AF at HU HAf
  obtain ⟨at_, al⟩ := a
  obtain ⟨bt, bl⟩ := b
  dsimp only at HBo HWa HWb HU HAf ⊢
  generalize bothFault ⟨at_, al⟩ ⟨bt, bl⟩ = F at *
  clear ha hb hla hlb hm hg hgs
  go_enter Tryz.func10, Tryz.ntmps10
  go_wp2_with fail
  obtain ⟨W0, eW0⟩ : ∃ W0, W0 = ((w.alloc (.cells #[.string at_, .slice A al.length c] 24)).alloc (.cells #[.string bt, .slice B bl.length d] 24)).alloc (.cells #[.string ⟨#[]⟩, .slice none 0 0] 24) := ⟨_, rfl⟩
  have hb0 : Below w.heap.size w W0 := by rw [eW0]; exact (((Below.refl _ _).alloc (Nat.le_refl _) _).alloc (by simp) _).alloc (by simp; omega) _
  have ma0 : Blk W0 w.heap.size 24 #[.string at_, .slice A al.length c] := by rw [eW0]; exact ((Blk.new _ _ _).alloc _).alloc _
  have mb0 : Blk W0 (w.heap.size + 1) 24 #[.string bt, .slice B bl.length d] := by
    rw [eW0]
    have := Blk.new (w.alloc (.cells #[.string at_, .slice A al.length c] 24)) 24 #[.string bt, .slice B bl.length d]
    rw [World.size_alloc] at this
    exact this.alloc _
  have mr0 : Blk W0 (w.heap.size + 1 + 1) 24 #[.string ⟨#[]⟩, .slice none 0 0] := by
    rw [eW0]
    have := Blk.new ((w.alloc (.cells #[.string at_, .slice A al.length c] 24)).alloc (.cells #[.string bt, .slice B bl.length d] 24)) 24 #[.string ⟨#[]⟩, .slice none 0 0]
    simp only [World.size_alloc] at this
    exact this
  rw [← eW0]
  clear eW0
  have HB0 := Lib.hid hb0
  have HMa := Lib.hid ma0
  have HMb := Lib.hid mb0
  have HMr := Lib.hid mr0
  clear hb0 ma0 mb0 mr0
  refine (HBo.out _ HB0.out).mono ?_
  clear HBo
  rintro e w1 ⟨hb1, rfl⟩
  have HB1 := Lib.hid (HB0.out.trans (hb1.mono HB0.out.size))
  have HMa1 := Lib.hid (HMa.out.below hb1 HMa.out.lt)
  have HMb1 := Lib.hid (HMb.out.below hb1 HMb.out.lt)
  have HMr1 := Lib.hid (HMr.out.below hb1 HMr.out.lt)
  have hs1 := HB1.out.size
  clear hb1 HMa HMb HMr HB0
  by_cases hF : F = 0
  · subst hF
    rw [if_pos rfl] at HAf
    obtain ⟨hra, hrb⟩ := HRi.out rfl
    have HWa' := Lib.hid (HWa.out hra)
    have HWb' := Lib.hid (HWb.out hrb)
    have HRa := Lib.hid hra
    have HRb := Lib.hid hrb
    have hal : al.length ≤ 100 := hra.len
    have hbl : bl.length ≤ 100 := hrb.len
    clear HWa HWb HRi hra hrb
    rw [errV_zero]
    obtain ⟨W0, eW0⟩ : ∃ W0 : World, W0 = w1 := ⟨_, rfl⟩
    rw [← eW0] at HB1 HMa1 HMb1 HMr1 hs1 ⊢
    clear eW0
    go_upto_region 4 with fail
    go_cut [9, 10] (fun x y wx => ∃ ma mb, x = .map (some ma) ∧ y = .map (some mb) ∧ TwoWords W0 wx ma mb al bl)
    case first =>
      have k0 := HMa1.out.cell 0
      have k1 := HMa1.out.cell 1
      have k2 := HMb1.out.cell 0
      have k3 := HMb1.out.cell 1
      simp at k0 k1 k2 k3
      have ha1 := HMa1.out.lt
      have hb1 := HMb1.out.lt
      have KS : Hid (∀ w', Below W0.heap.size W0 w' → Below W0.heap.size W0 w' ∧ w'.cell? ⟨w.heap.size, 0, none⟩ = some (.string at_) ∧ w'.cell? ⟨w.heap.size, 1, none⟩ = some (.slice A al.length c) ∧ w'.cell? ⟨w.heap.size + 1, 0, none⟩ = some (.string bt) ∧ w'.cell? ⟨w.heap.size + 1, 1, none⟩ = some (.slice B bl.length d)) := Lib.hid fun w' hw => ⟨hw, (hw.cell (p := ⟨w.heap.size, 0, none⟩) ha1).trans k0, (hw.cell (p := ⟨w.heap.size, 1, none⟩) ha1).trans k1, (hw.cell (p := ⟨w.heap.size + 1, 0, none⟩) hb1).trans k2, (hw.cell (p := ⟨w.heap.size + 1, 1, none⟩) hb1).trans k3⟩
      go_region_held3 (fun w' => Below W0.heap.size W0 w' ∧ w'.cell? ⟨w.heap.size, 0, none⟩ = some (.string at_) ∧ w'.cell? ⟨w.heap.size, 1, none⟩ = some (.slice A al.length c) ∧ w'.cell? ⟨w.heap.size + 1, 0, none⟩ = some (.string bt) ∧ w'.cell? ⟨w.heap.size + 1, 1, none⟩ = some (.slice B bl.length d))
        (first
          | exact KS.out _ hbx
          | exact KS.out _ (Below.refl _ _).drew
          | fail)
        (first
          | (go_at_call 23
             (with_reducible refine (HWa'.out _ (HB1.out.trans (Below.mono (by first | exact hbx | exact (Below.refl _ _).drew) hs1))).mono ?_)
             clear HWa'
             rintro e wa ⟨hba, ma, rfl, hma, hoa⟩
             have hbx : Below W0.heap.size W0 wa := by first | exact hbx.trans (hba.mono hbx.size) | exact Below.trans (Below.refl _ _).drew (hba.mono (Nat.le_refl _))
             have hsx := hbx.size
             have hla := hoa.lt
             have hga : W0.heap.size ≤ ma := by (try simp at hma); omega
             (first | have HOb := Lib.hid (HOb.out.below hba HOb.out.lt) | skip)
             (first | have hne : ma ≠ mb := (by (try simp at hma); omega) | skip)
             have HOa := Lib.hid hoa
             clear hba hoa)
          | (go_at_call 23
             (with_reducible refine (HWb'.out _ (HB1.out.trans (Below.mono (by first | exact hbx | exact (Below.refl _ _).drew) hs1))).mono ?_)
             clear HWb'
             rintro e wb ⟨hbb, mb, rfl, hmb, hob⟩
             have hbx : Below W0.heap.size W0 wb := by first | exact hbx.trans (hbb.mono hbx.size) | exact Below.trans (Below.refl _ _).drew (hbb.mono (Nat.le_refl _))
             have hsx := hbx.size
             have hlb := hob.lt
             have hgb : W0.heap.size ≤ mb := by (try simp at hmb); omega
             (first | have HOa := Lib.hid (HOa.out.below hbb HOa.out.lt) | skip)
             (first | have hne : ma ≠ mb := (by (try simp at hmb); omega) | skip)
             have HOb := Lib.hid hob
             clear hbb hob)
          | fail)
      all_goals
        clear k0 k1 k2 k3 KS
        go_wp2_with fail
        go_meet
        case rel => exact ⟨ma, mb, rfl, rfl, hbx, hga, hgb, HOa.out, HOb.out, hne⟩
    case rest =>
      obtain ⟨ma, mb, rfl, rfl, H2⟩ := hcut
      have HL0 : Hid (ApLoop w wc ma mb #[.string at_, .slice A al.length c] #[.string bt, .slice B bl.length d] al bl gone 0) := Lib.hid
        ⟨HB1.out.trans (H2.below.mono hs1), by rw [cutN_zero]; exact H2.oa, H2.ob, Nat.le_trans hs1 H2.la, Nat.le_trans hs1 H2.lb, H2.ne, HMa1.out.below H2.below HMa1.out.lt, HMb1.out.below H2.below HMb1.out.lt, HMr1.out.below H2.below HMr1.out.lt⟩
      clear H2 HMa1 HMb1 HMr1 HB1 HWb' hs1
      have HWa : Hid (∀ W, Below w.heap.size w W → Calls Tryz.prog 23 #[.agg #[.string at_, .slice A al.length c]] W fun e w' => Below W.heap.size W w' ∧ ∃ mb, e = .returned (.map (some mb)) ∧ W.heap.size ≤ mb ∧ OwnsW w' mb al.length (srt al)) := HWa'
      clear HWa'
      have hsr : (srt bl).length = bl.length := srt_length HRb.out.uniq
      have HpA : Hid (∀ k, hasK (srt al) k = hasK al k) := Lib.hid (hasK_perm (srt_perm HRa.out.uniq))
      have HpB : Hid (∀ k, hasK (srt bl) k = hasK bl k) := Lib.hid (hasK_perm (srt_perm HRb.out.uniq))
      go_wp2_with fail
      go_loopw [11, 12, 13, 14, 15, 16, 33] (fun _ _ _ _ _ _ i wr => ∃ j : Nat, j ≤ gone.length ∧ i = .int .i64 j ∧ (∀ q, q < j → goneAt al bl gone q = 0) ∧ ApLoop w wr ma mb #[.string at_, .slice A al.length c] #[.string bt, .slice B bl.length d] al bl gone j) (fun _ _ _ _ _ _ i _ => gone.length - (intOf i).toNat)
      case atStart => exact ⟨0, Nat.zero_le _, rfl, fun _ h => absurd h (by omega), HL0.out⟩
      case round =>
        obtain ⟨j, hj, rfl, hno, hL⟩ := hrel
        have HLp := Lib.hid hL
        have Hno := Lib.hid hno
        have hbs := hL.below.size
        have k0 : wr.cell? ⟨w.heap.size, 0, none⟩ = some (.string at_) := (hL.ba.cell 0).trans (by simp)
        have k1 : wr.cell? ⟨w.heap.size, 1, none⟩ = some (.slice A al.length c) := (hL.ba.cell 1).trans (by simp)
        clear hL hno HL0
        by_cases hlt : j < gone.length
        · obtain ⟨gb, go, rfl, _, hgb, x0⟩ := (HGl.out wr HLp.out.below).strAt j hlt
          have hks : gone[j].size ≤ maxLen := HGs.out _ (List.getElem_mem hlt)
          have HGa : Hid (goneAt al bl gone j = if hasK al gone[j] then (if hasK bl gone[j] || (gone.take j).any (eqs · gone[j]) then 5 else 0) else 2) := Lib.hid (goneAt_is j hlt)
          have HEr : Hid (∀ n : Int, n ≠ 0 → goneAt al bl gone j = n → AF = n) := Lib.hid fun n hn he => by rw [HAf.out, apply_bad j hlt Hno.out (by rw [he]; exact hn), he]
          have HCu := Lib.hid (cutN_succ al gone j hlt)
          have HCo : Hid (∀ W, Below wr.heap.size wr W → Calls Tryz.prog 28 #[.slice (some ⟨gb, go, none⟩) j gc, .string gone[j]] W fun e w' => e = .returned (.bool ((gone.take j).any (eqs · gone[j]))) ∧ W = w') := Lib.hid fun W hW => by
            have hcs : ∀ q, q < gone.length → W.cell? ⟨gb, go + q, none⟩ = some (.string (gone.getD q ByteArray.empty)) := fun q hq => by
              obtain ⟨b', o', he, _, _, hc'⟩ := (HGl.out W (HLp.out.below.trans (hW.mono hbs))).strAt q hq
              injection he with he
              injection he with e1 e2
              subst e1; subst e2
              rw [hc', List.getD_eq_getElem?_getD, List.getElem?_eq_getElem hq]; rfl
            have hco := Tryz.slices_Contains_string gb go j gc gone gone[j] W (by omega) (by omega) hcs
            have : (gone.take j).any (eqs · gone[j]) = Lib.containsS (gone.take j) gone[j] := by
              rw [Bool.eq_iff_iff, List.any_eq_true, Lib.containsS_iff]
              constructor
              · rintro ⟨x, hx, he⟩; rw [← (eqs_iff _ _).1 he]; exact hx
              · intro hx; exact ⟨_, hx, eqs_self _⟩
            rw [this]
            exact hco.mono fun e w' ⟨h1, h2⟩ => ⟨h1, by first | exact h2 | exact h2.symm⟩
          have hpa := HpA.out gone[j]
          have hpb := HpB.out gone[j]
          generalize gone[j] = k at *
          have HK := Lib.hid (key_str hks)
          have HKs := Lib.hid hks
          generalize (gone.take j).any (eqs · k) = kin at *
          have HPa := Lib.hid hpa
          have HPb := Lib.hid hpb
          clear hpa hpb hks
          go_wp2_with fail
          refine (HWa.out _ HLp.out.below).mono ?_
          rintro e w5 ⟨hb5, mc, rfl, hmc, hoc⟩
          have HL5 := Lib.hid (HLp.out.keep hb5)
          have HC5 := Lib.hid (HCo.out w5 hb5)
          have hr1 := look_ok_str hoc k HKs.out
          have hr2 := look_ok_str HL5.out.ob k HKs.out
          rw [HPa.out] at hr1
          rw [HPb.out] at hr2
          generalize (textK (srt al) k).getD ByteArray.empty = ta at hr1
          generalize (textK (srt bl) k).getD ByteArray.empty = tb at hr2
          have r0 : w5.cell? ⟨w.heap.size + 1 + 1, 0, none⟩ = some (.string ⟨#[]⟩) := (HL5.out.res.cell 0).trans (by simp)
          have r1 : w5.cell? ⟨w.heap.size + 1 + 1, 1, none⟩ = some (.slice none 0 0) := (HL5.out.res.cell 1).trans (by simp)
          have f0 := HL5.out.res.frozen 0
          have f1 := HL5.out.res.frozen 1
          clear hb5 hoc hmc x0 k0 k1 HCo
          cases hka : hasK al k with
          | false =>
            rw [hka] at hr1
            have HE2 : Hid (AF = 2) := Lib.hid (HEr.out 2 (by decide) (by rw [HGa.out, hka]; rfl))
            clear hka hr2
            go_wp2_with fail
            refine bodyPost_ret (v := .tuple #[.agg #[.string ByteArray.empty, .slice none 0 0], .iface 38 (.int .i64 2)]) ?_ rfl ?_
            · simp [results, Tryz.results10, go_sem, r0, r1, f0, f1]
              try rfl
            · rw [HU.out]
              exact ⟨Below.setCell (Below.setCell HL5.out.below (by simp; omega) _) (by simp; omega) _, .inl ⟨by rw [HE2.out]; decide, by rw [HE2.out, errV_ne (by decide)]⟩⟩
          | true =>
            rw [hka] at hr1
            cases hkb : hasK bl k with
            | true =>
              rw [hkb] at hr2
              have HE5 : Hid (AF = 5) := Lib.hid (HEr.out 5 (by decide) (by rw [HGa.out, hka, hkb]; rfl))
              clear hka hkb
              go_wp2_with fail
              refine bodyPost_ret (v := .tuple #[.agg #[.string ByteArray.empty, .slice none 0 0], .iface 38 (.int .i64 5)]) ?_ rfl ?_
              · simp [results, Tryz.results10, go_sem, r0, r1, f0, f1]
                try rfl
              · rw [HU.out]
                exact ⟨Below.setCell (Below.setCell HL5.out.below (by simp; omega) _) (by simp; omega) _, .inl ⟨by rw [HE5.out]; decide, by rw [HE5.out, errV_ne (by decide)]⟩⟩
            | false =>
              rw [hkb] at hr2
              rw [hka, hkb] at HGa
              clear hka hkb
              cases kin with
              | true =>
                have HE5 : Hid (AF = 5) := Lib.hid (HEr.out 5 (by decide) (by rw [HGa.out]; rfl))
                go_wp2_with fail
                refine HC5.out.mono ?_
                clear HC5
                rintro e w6 ⟨rfl, rfl⟩
                go_wp2_with fail
                refine bodyPost_ret (v := .tuple #[.agg #[.string ByteArray.empty, .slice none 0 0], .iface 38 (.int .i64 5)]) ?_ rfl ?_
                · simp [results, Tryz.results10, go_sem, r0, r1, f0, f1]
                  try rfl
                · rw [HU.out]
                  exact ⟨Below.setCell (Below.setCell HL5.out.below (by simp; omega) _) (by simp; omega) _, .inl ⟨by rw [HE5.out]; decide, by rw [HE5.out, errV_ne (by decide)]⟩⟩
              | false =>
                have HG0 : Hid (goneAt al bl gone j = 0) := Lib.hid (by rw [HGa.out]; rfl)
                go_wp2_with fail
                refine HC5.out.mono ?_
                clear HC5
                rintro e w6 ⟨rfl, rfl⟩
                go_wp2_with (at_delete; refine wpList_delete_own _ rfl _ _ 53 9 rfl 9 lawS Tryz.underlying53 (plainElem (H := Unit) Tryz.prog 9) ma al.length _ rfl HL5.out.oa _ _ rfl HK.out ?_)
                intro w7 hown7 hturn7
                have HL7 : Hid (ApLoop w w7 ma mb #[.string at_, .slice A al.length c] #[.string bt, .slice B bl.length d] al bl gone (j + 1)) := Lib.hid (HL5.out.cut hturn7.grown (by
                  show w7.ownsMap _ _ _ _ _ (toD (cutN al gone (j + 1)))
                  rw [HCu.out, ← toD_del]; exact hown7))
                clear hown7 hturn7 r0 r1 f0 f1 hr1 hr2
                go_wp2_with fail
                exact ⟨⟨j + 1, by omega, by go_num, fun q hq => by
                  rcases Nat.lt_or_eq_of_le (Nat.le_of_lt_succ hq) with h | h
                  · exact Hno.out q h
                  · rw [h]; exact HG0.out, HL7.out⟩, by simp [intOf]; omega⟩
        · obtain rfl : j = gone.length := by omega
          have hoa := HLp.out.oa
          rw [cutN_all] at hoa
          have HFu := Lib.hid (apply_full (a := al) (p := bl) (gone := gone) fun q hq => Hno.out q hq)
          have hcl : (cutAll al gone).length ≤ al.length := by
            have h1 : (cutAll al gone).length ≤ (srt al).length := List.length_filter_le _ _
            rw [srt_length HRa.out.uniq] at h1; exact h1
          have hLl : (applied al bl gone).length ≤ 200 := by
            have h1 : (applied al bl gone).length ≤ _ := foldPut_len (srt bl) (cutAll al gone)
            omega
          have hLs : Srt (applied al bl gone) := foldPut_srt _ _ ((srt_srt al).filter _)
          have hLk : ∀ e ∈ applied al bl gone, e.key.size ≤ maxLen := fun e he => by
            have h1 := (applied_rest HRa.out.uniq HRb.out.uniq gone).mem_iff.1 he
            have h2 : keyOk e.key = true := by
              rcases List.mem_append.1 h1 with h | h
              · exact (HRb.out.each e h).1
              · exact (HRa.out.each e (List.mem_filter.1 h).1).1
            unfold keyOk at h2
            simp only [Bool.and_eq_true, decide_eq_true_eq] at h2
            unfold maxLen; omega
          have HCp : Hid (Calls Tryz.prog 29 #[.map (some ma), .map (some mb)] wr fun e w' => e = .returned (.tuple #[]) ∧ OwnsW w' ma (al.length + (srt bl).length) (applied al bl gone) ∧ wr.grownBy w' (some ma)) := Lib.hid (copy_any ma al.length mb bl.length (cutAll al gone) (srt bl) wr hoa HLp.out.ob HLp.out.ne (by unfold maxLen; omega))
          have HLs := Lib.hid hLs
          have HLk := Lib.hid hLk
          clear hoa hcl hLs hLk HWa Hno HGl HGs
          generalize applied al bl gone = L at *
          obtain ⟨nn, enn⟩ : ∃ nn, nn = al.length + (srt bl).length := ⟨_, rfl⟩
          rw [← enn] at HCp
          clear enn
          go_wp2_with fail
          refine HCp.out.mono ?_
          clear HCp
          rintro e w7 ⟨rfl, ho7, hg7⟩
          have HO7 := Lib.hid ho7
          have HB7 : Hid (Below w.heap.size w w7) := Lib.hid (HLp.out.below.grown hg7 hbs (fun k hk => by cases hk; exact HLp.out.la))
          have hs7 := HB7.out.size
          have HR7 : Hid (Blk w7 (w.heap.size + 1 + 1) 24 #[.string ⟨#[]⟩, .slice none 0 0]) := Lib.hid (blk_grown HLp.out.res hg7 (fun e => blk_map_ne HLp.out.res HLp.out.oa (Option.some.inj e)))
          have hbp7 : Blk w7 (w.heap.size + 1) 24 #[.string bt, .slice B bl.length d] := blk_grown HLp.out.bp hg7 (fun e => blk_map_ne HLp.out.bp HLp.out.oa (Option.some.inj e))
          have k2 : w7.cell? ⟨w.heap.size + 1, 0, none⟩ = some (.string bt) := (hbp7.cell 0).trans (by simp)
          have hLa := HLp.out.la
          have hma7 := ho7.lt
          have hrl7 := HR7.out.lt
          clear ho7 hg7 hbp7 k0 k1 HLp
          by_cases h100 : 100 < L.length
          · have HE4 : Hid (AF = 4) := Lib.hid (by rw [HAf.out, HFu.out, if_pos h100])
            have r0 : w7.cell? ⟨w.heap.size + 1 + 1, 0, none⟩ = some (.string ⟨#[]⟩) := (HR7.out.cell 0).trans (by simp)
            have r1 : w7.cell? ⟨w.heap.size + 1 + 1, 1, none⟩ = some (.slice none 0 0) := (HR7.out.cell 1).trans (by simp)
            have f0 := HR7.out.frozen 0
            have f1 := HR7.out.frozen 1
            have hd : decide ((100 : Int) < (L.length : Int)) = true := decide_eq_true (by omega)
            go_wp2_with (at_len; refine wpList_len_own _ rfl _ 53 rfl 9 9 Tryz.underlying53 (plainElem (H := Unit) Tryz.prog 9) ma nn _ rfl HO7.out ?_; rw [toD_size])
            refine bodyPost_ret (v := .tuple #[.agg #[.string ByteArray.empty, .slice none 0 0], .iface 38 (.int .i64 4)]) ?_ rfl ?_
            · simp [results, Tryz.results10, go_sem, r0, r1, f0, f1]
              try rfl
            · rw [HU.out]
              exact ⟨Below.setCell (Below.setCell HB7.out (by simp; omega) _) (by simp; omega) _, .inl ⟨by rw [HE4.out]; decide, by rw [HE4.out, errV_ne (by decide)]⟩⟩
          · have HE0 : Hid (AF = 0) := Lib.hid (by rw [HAf.out, HFu.out, if_neg h100])
            have hd : decide ((100 : Int) < (L.length : Int)) = false := decide_eq_false (by omega)
            go_wp2_with (at_len; refine wpList_len_own _ rfl _ 53 rfl 9 9 Tryz.underlying53 (plainElem (H := Unit) Tryz.prog 9) ma nn _ rfl HO7.out ?_; rw [toD_size])
            obtain ⟨W2, eW2⟩ : ∃ W2, W2 = w7.alloc (.cells #[.string bt, .slice none 0 0] 24) := ⟨_, rfl⟩
            have mx : Blk W2 w7.heap.size 24 #[.string bt, .slice none 0 0] := by rw [eW2]; exact Blk.new _ _ _
            have hb2 : Below w7.heap.size w7 W2 := by rw [eW2]; exact (Below.refl _ _).alloc (Nat.le_refl _) _
            have HMx := Lib.hid mx
            have HB2 := Lib.hid hb2
            obtain ⟨bx, ebx⟩ : ∃ bx, bx = w7.heap.size := ⟨_, rfl⟩
            have hbxl : w7.heap.size ≤ bx := Nat.le_of_eq ebx.symm
            rw [← ebx] at HMx
            rw [← eW2, ← ebx]
            clear eW2 mx hb2 ebx
            have hs2 := HB2.out.size
            have HO2 : Hid (OwnsW W2 ma nn L) := Lib.hid (OwnsW.below HO7.out HB2.out hma7)
            have HSo := Lib.hid (sorted_any ma nn L HLs.out W2 HO2.out (by omega))
            refine (keys_any _ _).mono ?_
            rintro e w5 ⟨rfl, rfl⟩
            go_wp2_with fail
            refine HSo.out.mono ?_
            clear HSo
            rintro e w6 ⟨kv, rfl, hkv, hb6⟩
            have hb6' : Below W2.heap.size W2 w6 := ((Below.refl W2.heap.size W2).alloc (Nat.le_refl _) _).trans (hb6.mono (Nat.le_succ _))
            obtain ⟨kA, kc, rfl, hkc⟩ := own_slice hkv
            have HP0 : Hid (ApPut w w6 ma bx nn bt (.slice kA L.length kc) L 0) := Lib.hid
              ⟨HB7.out.trans ((HB2.out.trans (hb6'.mono hs2)).mono hs7), OwnsW.below HO2.out hb6' (by omega), own_mono hkv (by omega), hLa, by omega, (HR7.out.below HB2.out hrl7).below hb6' (by omega), by omega, .slice none 0 0, HMx.out.below hb6' HMx.out.lt, own_nil⟩
            clear hkv hb6 hb6' HO2 HMx HB2 k2 HR7 HO7
            go_wp2_with fail
            go_loopw [19, 83] (fun _ i wr => ∃ j : Nat, j ≤ L.length ∧ i = .int .i64 j ∧ ApPut w wr ma bx nn bt (.slice kA L.length kc) L j) (fun _ i _ => L.length - (intOf i).toNat)
            case atStart => exact ⟨0, Nat.zero_le _, rfl, HP0.out⟩
            case round =>
              obtain ⟨j, hj, rfl, hL⟩ := hrel
              have HLp := Lib.hid hL
              have hbs := hL.below.size
              clear hL HP0
              by_cases hlt : j < L.length
              · have hkl : ListOk Enc.str wr w.heap.size wr.heap.size (.slice kA L.length kc) (L.map (·.key)) := by
                  have h := HLp.out.keys
                  have e1 : L.length = (L.map (·.key)).length := by simp
                  have e2 : (L.map fun e => Value.string e.key) = (L.map (·.key)).map .string := by rw [List.map_map]; rfl
                  rw [e1, e2] at h
                  rw [e1]
                  exact ListOk.strs_of_own h (Nat.le_refl _) (Nat.le_refl _)
                obtain ⟨kb, ko, rfl, _, hkb, hkc0⟩ := hkl.strAt j (by simpa using hlt)
                rw [List.getElem_map] at hkc0
                have hmem : L[j] ∈ L := List.getElem_mem hlt
                have hks := HLk.out _ hmem
                have htx := textK_some HLs.out.uniq hmem
                have HSu : Hid (L.take (j + 1) = L.take j ++ [L[j]]) := Lib.hid (by rw [List.take_succ_eq_append_getElem hlt])
                generalize L[j] = e at *
                obtain ⟨ky, tx⟩ := e
                dsimp only at hkc0 hks htx
                have hr2 := look_str HLp.out.oa ky hks
                rw [htx] at hr2
                simp only [Option.getD_some] at hr2
                obtain ⟨V, hbox, hrow⟩ := HLp.out.box
                obtain ⟨Av, cv, rfl, _⟩ := own_slice hrow
                have HBox := Lib.hid hbox
                have HRow := Lib.hid hrow
                have b1 : wr.cell? ⟨bx, 1, none⟩ = some (.slice Av (L.take j).length cv) := (hbox.cell 1).trans rfl
                have hbxl' := hbox.lt
                clear hkl hbox hrow hmem htx hks
                have hplen : (L.take j).length ≤ L.length := by rw [List.length_take]; omega
                have HnX : Hid (∀ q u, ([Value.string ky, .string tx] : List Value)[q]? = some u → (wr.alloc (.cells #[.string ky, .string tx] 33)).cell? ⟨wr.heap.size, 0 + q, none⟩ = some u) := Lib.hid fun q u hq => by
                  rw [Nat.zero_add, (Blk.new wr 33 #[.string ky, .string tx]).cell q]; simpa using hq
                have HOa := Lib.hid (own_below HRow.out ((Below.refl wr.heap.size wr).alloc (Nat.le_refl _) (.cells #[.string ky, .string tx] 33)) (Nat.le_refl _))
                obtain ⟨tk, etk⟩ : ∃ tk, tk = L.take j := ⟨_, rfl⟩
                have HTk := Lib.hid etk
                rw [← etk] at HOa hplen b1 HBox HRow
                clear etk
                go_wp2_with (at_builtin; refine wpList_append_any rfl _ _ 22 rfl w.heap.size 33 Tryz.underlying22 info_ent rfl (by decide) (flatE tk) rfl HOa.out [.string ky, .string tx] rfl rfl (.inr ⟨_, _, rfl, HnX.out⟩) (by simp [Value.oneCell']) (by unfold maxLen; omega) (by omega) (by simp; omega) ?_)
                intro v4 w4 hown4 hgrow4 _
                have hbx4 := blk_grown (HBox.out.alloc (.cells #[.string ky, .string tx] 33)) hgrow4 (fun e => own_blk_ne HOa.out (HBox.out.alloc _) (by decide) e.symm)
                have HL4 : Hid (ApPut w (w4.setCell ⟨bx, 1, none⟩ v4) ma bx nn bt (.slice (some ⟨kb, ko, none⟩) L.length kc) L (j + 1)) := Lib.hid (by
                  have e := HTk.out
                  subst e
                  exact HLp.out.push (e := ⟨ky, tx⟩) HBox.out HRow.out hgrow4 hown4 HSu.out)
                have s1 := hbx4.cell 1
                have s2 := hbx4.frozen 1
                simp at s1
                obtain ⟨Aw, cw, rfl, _⟩ := own_slice hown4
                clear hown4 hgrow4 hbx4 HnX HOa hr2 b1 hkc0 HTk
                go_wp2_with fail
                exact ⟨⟨j + 1, by omega, by go_num, HL4.out⟩, by simp [intOf]; omega⟩
              · obtain rfl : j = L.length := by omega
                obtain ⟨V, hbox, hrow⟩ := HLp.out.box
                rw [List.take_length] at hrow
                obtain ⟨Av, cv, rfl, _⟩ := own_slice hrow
                have b0 := hbox.cell 0
                have b1 := hbox.cell 1
                have HRow := Lib.hid hrow
                have HRes := Lib.hid HLp.out.res
                have HBw := Lib.hid HLp.out.below
                have hrx := HLp.out.rx
                have r0 := HRes.out.cell 0
                have r1 := HRes.out.cell 1
                have f0 := HRes.out.frozen 0
                have f1 := HRes.out.frozen 1
                simp at b0 b1 r0 r1
                clear hbox hrow HLp
                go_wp2_with fail
                refine bodyPost_ret (v := .tuple #[.agg #[.string bt, .slice Av L.length cv], .nilIface]) ?_ rfl ?_
                · simp [results, Tryz.results10, go_sem, r0, r1, f0, f1]
                  try rfl
                · rw [HU.out]
                  refine ⟨Below.setCell (Below.setCell HBw.out (by simp; omega) _) (by simp; omega) _, .inr ⟨HE0.out, _, rfl, ?_⟩⟩
                  exact own_keep HRow.out fun k hk hlt => by
                    have : k ≠ w.heap.size + 1 + 1 := fun e => own_blk_ne HRow.out HRes.out (by decide) (by rw [hk]; exact congrArg some e)
                    rw [Below.heap_setCell _ _ _ _ this, Below.heap_setCell _ _ _ _ this]
  · have HE := Lib.hid (errV_ne hF)
    rw [if_neg hF] at HAf
    rw [errV_ne hF]
    have HF0 := Lib.hid hF
    have r0 := HMr1.out.cell 0
    have r1 := HMr1.out.cell 1
    have f0 := HMr1.out.frozen 0
    have f1 := HMr1.out.frozen 1
    simp at r0 r1
    clear hF HWa HWb HRi HMa1 HMb1
    go_wp2_with fail
    refine bodyPost_ret (v := .tuple #[.agg #[.string ByteArray.empty, .slice none 0 0], .iface 38 (.int .i64 F)]) ?_ rfl ?_
    · simp [results, Tryz.results10, go_sem, r0, r1, f0, f1]
      try rfl
    · rw [HU.out]
      refine ⟨Below.setCell (Below.setCell HB1.out (by simp; omega) _) (by simp; omega) _, .inl ⟨by rw [HAf.out]; exact HF0.out, by rw [HAf.out, HE.out]⟩⟩
end Go.Proofs.YtiaobgapfoogiaaGreatDoor
