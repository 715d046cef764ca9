/- pack.Decode, the rest: head, tag, number, the loop over the entries. -/
import Derived.Test.YtmpjfomfibkbnaaGreatDoorPackE
import Derived.Test.YtmpjfomfibkbnaaGreatDoorPackQ
import Derived.Test.YtmpjfomfibkbnaaGreatDoorBunRow
import Derived.Test.YtmpjfomfibkbnaaGreatDoorPackI
set_option linter.unusedSimpArgs false
set_option linter.unusedVariables false
namespace Go.Proofs.YtmpjfomfibkbnaaGreatDoor
open Go.RowKit

/-- What Decode tells of an error. -/
def decErr (x : Int) : Ending := .returned (.tuple #[.agg #[.string ⟨#[]⟩, .slice none 0 0], .iface 42 (.int .i64 x)])
/-- What Decode does, in plain words. -/
def DecRes (w : World) (l : List UInt8) (e : Ending) (w' : World) : Prop :=
  Below w.heap.size w w' ∧ ((unpackE l ≠ 0 ∧ e = decErr (unpackE l)) ∨
    (unpackE l = 0 ∧ ∃ u, e = .returned (.tuple #[.agg #[.string (unpackB l).tag, u], .nilIface]) ∧ w'.ownsRow w.heap.size 32 2 u (unpackB l).ents.length (flatE (unpackB l).ents)))
theorem decres_err {w W : World} {l : List UInt8} {x : Int} (hx : unpackE l = x) (h0 : x ≠ 0) (hb : Below w.heap.size w W) : DecRes w l (decErr x) W := by
  subst hx; exact ⟨hb, .inl ⟨h0, rfl⟩⟩
theorem own_blk_ne {w : World} {base : Nat} {e t : TypeId} {size : Nat} {v : Value} {n : Nat} {xs : List Value} {g : Nat} {cs : Array Value} (h : w.ownsRow base e size v n xs) (k : Blk w g t cs) (hne : e ≠ t) : v.ownBlock ≠ some g := by
  intro hg
  obtain ⟨_, ⟨h2, _⟩ | ⟨g1, cap, cur, hv, hb, hh, r⟩⟩ := h
  · rw [h2] at hg; cases hg
  · rw [hv] at hg; injection hg with hg; subst hg
    have k' := hh.symm.trans k
    injection k' with k'
    injection k' with _ k' _
    exact hne k'
theorem unB_ok {l r : List UInt8} {b : Bun} (h0 : unpackE l = 0) (hr : rdB (l.drop 4) = some (b, r)) : unpackB l = b := by unfold unpackB; rw [if_pos h0, hr]
theorem rd1_small {l r : List UInt8} {s : ByteArray} (h : rd1 l = some (s, r)) : s.size < 256 := by
  match l, h with
  | x :: q, h =>
    obtain ⟨_, e2⟩ := takeN_inv (show takeN x.toNat q = some (s, r) from h)
    have := x.toNat_lt; omega
theorem rd2_small {l r : List UInt8} {s : ByteArray} (h : rd2 l = some (s, r)) : s.size < 65536 := by
  match l, h with
  | x :: y :: q, h =>
    obtain ⟨_, e2⟩ := takeN_inv (show takeN (256 * x.toNat + y.toNat) q = some (s, r) from h)
    have := x.toNat_lt; have := y.toNat_lt; omega
  | [_], h => cases h
  | [], h => cases h
theorem rdEs_small : ∀ {n : Nat} {l r : List UInt8} {es : List Ent}, rdEs n l = some (es, r) → ∀ e ∈ es, e.key.size < 256 ∧ e.text.size < 65536
  | 0, l, r, es, h => by
    injection h with h; injection h with h1 h2
    subst h1; intro e he; cases he
  | n + 1, l, r, es, h => by
    unfold rdEs at h
    split at h
    · cases h
    · rename_i x q h1
      split at h
      · cases h
      · rename_i xs z h2
        injection h with h; injection h with h3 h4
        subst h3
        intro e he
        rcases List.mem_cons.1 he with rfl | he
        · unfold rdE at h1
          split at h1
          · cases h1
          · rename_i k q' g1
            split at h1
            · cases h1
            · rename_i t s' g2
              injection h1 with h1; injection h1 with h5 h6
              subst h5
              exact ⟨rd1_small g1, rd2_small g2⟩
        · exact rdEs_small h2 e he
theorem last_no {t : ByteArray} {es : List Ent} (h : upTo es (es.length - 1) = false) : (sortedE es && decide (bunFault ⟨t, es⟩ = 0)) = false := by
  by_cases h0 : bunFault ⟨t, es⟩ = 0
  · have hu : Uniq es := ((right_iff ⟨t, es⟩).1 h0).uniq
    rw [← upTo_sortedE hu, h]; rfl
  · rw [decide_eq_false h0, Bool.and_false]
theorem last_yes {t : ByteArray} {es : List Ent} (h : upTo es (es.length - 1) = true) (h0 : bunFault ⟨t, es⟩ = 0) : (sortedE es && decide (bunFault ⟨t, es⟩ = 0)) = true := by
  have hu : Uniq es := ((right_iff ⟨t, es⟩).1 h0).uniq
  rw [← upTo_sortedE hu, h, decide_eq_true h0]; rfl
/-- A call of a Go function as one step of a region that draws its order. -/
theorem step_enter {P : Program} {w : World} {ops : Array Oper} {o : Oper} {a : Act} {K : Act → World → Prop} {Q : Exit → Act → World → Prop} {E : Prop} (hgd : o.guard = none) (f : FuncId) (args : Array Value)
    (hrun : (execOp a.eval o).run P w = .ok (.enter f args) w) {R : Ending → World → Prop} (hc : Calls P f args w R) (hR : ∀ e w', R e w' → ∃ v, e = .returned v ∧ K (a.put o.dst v) w') :
    if Region.wanted o (yielded ops a.tmps) = true then Oper.wp P o a w K Q else E := by
  have hw : Region.wanted o (yielded ops a.tmps) = true := by simp [Region.wanted, hgd]
  rw [if_pos hw]
  unfold Oper.wp
  rw [hrun, Oper.upon_enter]
  refine hc.mono fun e w' h => ?_
  obtain ⟨v, rfl, hk⟩ := hR e w' h
  exact hk
theorem step_panics {P : Program} {w : World} {ops : Array Oper} {o : Oper} {a : Act} {K : Act → World → Prop} {Q : Exit → Act → World → Prop} {E : Prop} (hgd : o.guard = none) (f : FuncId) (args : Array Value)
    (hrun : (execOp a.eval o).run P w = .ok (.enter f args) w) {R : Ending → World → Prop} (hc : Calls P f args w R) (hR : ∀ e w', R e w' → ∃ c, e = .panicked c ∧ Q (.panic c) a w') :
    if Region.wanted o (yielded ops a.tmps) = true then Oper.wp P o a w K Q else E := by
  have hw : Region.wanted o (yielded ops a.tmps) = true := by simp [Region.wanted, hgd]
  rw [if_pos hw]
  unfold Oper.wp
  rw [hrun, Oper.upon_enter]
  refine hc.mono fun e w' h => ?_
  obtain ⟨c, rfl, hk⟩ := hR e w' h
  exact hk
/-- Between two rounds of Decode's loop. -/
structure DecSt (lo : Nat) (w wr : World) (rv : Value) (tg : ByteArray) (es : List Ent) (u : Value) (l : List UInt8) (a : Nat) : Prop where
  k0 : Blk wr w.heap.size 24 #[.string tg, u]
  k1 : Blk wr (w.heap.size + 1) 28 #[.nilIface]
  rd : Rd lo (w.heap.size + 1 + 1) wr (w.heap.size + 1 + 1) rv l a
  row : wr.ownsRow w.heap.size 32 2 u es.length (flatE es)
  below : Below w.heap.size w wr
theorem DecSt.size {lo : Nat} {w wr : World} {rv : Value} {tg : ByteArray} {es : List Ent} {u : Value} {l : List UInt8} {a : Nat} (h : DecSt lo w wr rv tg es u l a) : w.heap.size + 1 + 1 < wr.heap.size := h.rd.at_.1.lt
theorem DecSt.moved {lo : Nat} {w wr W : World} {rv : Value} {tg : ByteArray} {es : List Ent} {u : Value} {l : List UInt8} {a a' : Nat} (h : DecSt lo w wr rv tg es u l a) (hr : Rd lo (w.heap.size + 1 + 1) W (w.heap.size + 1 + 1) rv l a') (hf : Fr wr W (· = w.heap.size + 1 + 1)) : DecSt lo w W rv tg es u l a' :=
  ⟨h.k0.fr hf (by show ¬ w.heap.size = _; omega), h.k1.fr hf (by show ¬ w.heap.size + 1 = _; omega), hr,
    own_keep h.row fun g hg hlt => hf.block g hlt fun (e : g = _) => own_blk_ne h.row h.rd.at_.1 (by decide) (by rw [hg, e]),
    Fr.below h.below hf (by have := h.size; omega) fun i e => by have : i = w.heap.size + 1 + 1 := e; omega⟩
theorem DecSt.keep {lo : Nat} {w wr W : World} {rv : Value} {tg : ByteArray} {es : List Ent} {u : Value} {l : List UInt8} {a : Nat} (h : DecSt lo w wr rv tg es u l a) (hb : Below wr.heap.size wr W) : DecSt lo w W rv tg es u l a :=
  h.moved (h.rd.keep hb (by have := h.size; omega)) (Fr.of_below hb _)
theorem flatE_snoc (es : List Ent) (e : Ent) : flatE (es ++ [e]) = flatE es ++ entCells e := by simp [flatE]
theorem DecSt.push {lo : Nat} {w W w7 : World} {rv v : Value} {tg : ByteArray} {es : List Ent} {u : Value} {l : List UInt8} {a : Nat} {e : Ent} (h : DecSt lo w W rv tg es u l a) (hl : ListOk Enc.byte w lo w.heap.size rv l) (hg : W.grownBy w7 u.ownBlock)
    (hown : w7.ownsRow w.heap.size 32 2 v (es.length + 1) (flatE es ++ entCells e)) : DecSt lo w (w7.setCell ⟨w.heap.size, 1, none⟩ v) rv tg (es ++ [e]) v l a := by
  have q0 := blk_grown h.k0 hg (fun e => own_blk_ne h.row h.k0 (by decide) e.symm)
  have q1 := blk_grown h.k1 hg (fun e => own_blk_ne h.row h.k1 (by decide) e.symm)
  have q2 := blk_grown h.rd.at_.1 hg (fun e => own_blk_ne h.row h.rd.at_.1 (by decide) e.symm)
  have hsz := h.size
  have hb7 : Below w.heap.size w (w7.setCell ⟨w.heap.size, 1, none⟩ v) := (h.below.grown hg (by omega) (fun k hk => (own_lt h.row hk).1)).setCell (Nat.le_refl _) _
  refine ⟨q0.set_ 1 v, q1.far (p := ⟨w.heap.size, 1, none⟩) (by simp) v, ⟨h.rd.lo_, h.rd.le, q2.far (p := ⟨w.heap.size, 1, none⟩) (show w.heap.size + 1 + 1 ≠ w.heap.size by omega) v, (hl.below Enc.byte_laws hb7).mono Enc.byte_laws (Nat.le_refl _) (by omega)⟩, ?_, hb7⟩
  rw [flatE_snoc, List.length_append]
  exact own_keep hown fun g hg' _ => Below.heap_setCell _ _ _ _ (fun (e : g = w.heap.size) => own_blk_ne hown q0 (by decide) (by rw [hg', e]))
set_option maxHeartbeats 3200000 in
set_option maxRecDepth 100000 in
theorem dec_rest (lo : Nat) (v : Value) (l : List UInt8) (w : World) (h : ListOk Enc.byte w lo w.heap.size v l) (hl : l.length ≤ 1000000000) (hn : 4 ≤ l.length) (hm : l.take 4 = magicB) (hmv : MaxVar w) :
    Calls Tryz.prog 12 #[v] w fun e w' => DecRes w l e w' := by
  have hmf : ∀ (fn : Fn) (first cap : Array Value) (w : World), (Instr.makeFunc fn first cap).run Tryz.prog w = .ok (.func fn first cap) w := fun _ _ _ _ => rfl
  obtain ⟨A, c, rfl, hc⟩ := h.form
  have H := Lib.hid h
  clear h
  go_enter_defers Tryz.func12, Tryz.ntmps12
  go_wp2_with fail
  obtain ⟨W, eW⟩ : ∃ W, W = ((w.alloc (.cells #[.string ⟨#[]⟩, .slice none 0 0] 24)).alloc (.cells #[.nilIface] 28)).alloc (.cells #[.slice A l.length c, .int .i64 0] 64) := ⟨_, rfl⟩
  obtain ⟨hb, k0, k1, hr, hsz⟩ := dec_frame lo A c l w W H.out eW
  have hp := piece_ok lo (w.heap.size + 1 + 1) (w.heap.size + 1 + 1) 0 4 l W hr hsz hl (by omega) (by omega)
  rw [← eW]
  have K0 := Lib.hid k0
  have K1 := Lib.hid k1
  have HB := Lib.hid hb
  clear eW hb k0 k1 hr
  refine hp.mono ?_
  clear hp
  rintro e w1 ⟨⟨v, rfl, hv⟩, hr1, hb1, hs1⟩
  replace hb1 := hb1.low hsz (Nat.le_refl _)
  rw [List.drop_zero, hm] at hv
  obtain ⟨A1, c1, rfl, _⟩ := hv.form
  have hcv := conv_str hv rfl
  have hd : ((str magicB).toList == [76, 71, 66, 49]) = true := by
    rw [str_toList, beq_iff_eq]; rfl
  have hms : magicB.length = 4 := rfl
  rw [hms] at hcv ⊢
  have HR1 := Lib.hid hr1
  have HB1 := Lib.hid (HB.out.trans (hb1.mono (by omega)))
  have K01 := Lib.hid (K0.out.below hb1 (by omega))
  have K11 := Lib.hid (K1.out.below hb1 (by omega))
  clear hv hr1 hb1 K0 K1 HB hms
  go_wp2_with fail
  by_cases t1 : 4 + 1 ≤ l.length
  · by_cases t2 : 4 + 1 + numOf ((l.drop 4).take 1) ≤ l.length
    · have ht := rtext_ok lo (w.heap.size + 1 + 1) (w.heap.size + 1 + 1) 4 1 _ l w1 HR1.out hs1 hl (by omega) t1 (by omega) rfl t2
      generalize hTg : str ((l.drop (4 + 1)).take (numOf ((l.drop 4).take 1))) = tg at ht
      have HTAG := Lib.hid (rd1_ok (l := l) (a := 4) t1 rfl t2)
      generalize ha2 : 4 + 1 + numOf ((l.drop 4).take 1) = a2 at ht t2 HTAG
      rw [hTg] at HTAG
      clear hTg ha2
      refine ht.mono ?_
      clear ht
      rintro e w2 ⟨rfl, hr2, hb2, hs2⟩
      replace hb2 := hb2.low hs1 (Nat.le_refl _)
      have HR2 := Lib.hid hr2
      have HB2 := Lib.hid (HB1.out.trans (hb2.mono (by omega)))
      have K02 := Lib.hid (K01.out.below hb2 (by omega))
      have K12 := Lib.hid (K11.out.below hb2 (by omega))
      have b0 : w2.cell? ⟨w.heap.size, 0, none⟩ = some (.string ⟨#[]⟩) := (K02.out.cell 0).trans rfl
      have f0 := K02.out.frozen 0
      clear hr2 hb2 HR1 HB1 K01 K11 hcv hd
      go_wp2_with fail
      have k3 := K02.out.set_ 0 (.string tg)
      have HB3 := Lib.hid ((Below.refl w.heap.size w2).setCell (Nat.le_refl _) (.string tg) (p := ⟨w.heap.size, 0, none⟩))
      have HR3 : Hid (Rd lo (w.heap.size + 1 + 1) (w2.setCell ⟨w.heap.size, 0, none⟩ (.string tg)) (w.heap.size + 1 + 1) (.slice A l.length c) l a2) := Lib.hid ⟨Nat.le_refl _, t2, HR2.out.at_.1.far (p := ⟨w.heap.size, 0, none⟩) (show w.heap.size + 1 + 1 ≠ w.heap.size by omega) (.string tg), (H.out.below Enc.byte_laws (HB2.out.trans HB3.out)).mono Enc.byte_laws (Nat.le_refl _) (by omega)⟩
      have K13 := Lib.hid (K12.out.far (p := ⟨w.heap.size, 0, none⟩) (by simp) (.string tg))
      have K03 := Lib.hid k3
      have hs3 : w.heap.size + 1 + 1 ≤ (w2.setCell ⟨w.heap.size, 0, none⟩ (.string tg)).heap.size := by simpa using hs2
      clear k3
      generalize w2.setCell ⟨w.heap.size, 0, none⟩ (.string tg) = w3 at *
      by_cases t3 : a2 + 2 ≤ l.length
      · have ht := rnumber_ok lo (w.heap.size + 1 + 1) (w.heap.size + 1 + 1) a2 2 l w3 HR3.out hs3 hl (by omega) t3 (by omega)
        generalize hN : numOf ((l.drop a2).take 2) = N at ht
        have HN := Lib.hid hN
        have HNUM := Lib.hid (rdN_ok (l := l) (a := a2) t3 hN)
        refine ht.mono ?_
        clear ht hN
        rintro e w4 ⟨rfl, hr4, hb4, hs4⟩
        replace hb4 := hb4.low hs3 (Nat.le_refl _)
        have DS : Hid (DecSt lo w w4 (.slice A l.length c) tg [] (.slice none 0 0) l (a2 + 2)) := Lib.hid ⟨K03.out.below hb4 (by omega), K13.out.below hb4 (by omega), hr4, own_nil, (HB2.out.trans HB3.out).trans (hb4.mono (by omega))⟩
        have HN2 : N < 65536 := by
          have := numOf_lt 2 ((l.drop a2).take 2) (by simp; omega)
          rw [HN.out] at this; exact this
        clear hr4 hb4 HR3 HB3 K03 K13 hs3 HR2 HB2 K02 K12 b0 f0
        go_wp2_with fail
        go_loopw [5, 22] (fun _ i wr => ∃ (j a' : Nat) (es : List Ent) (u : Value), j ≤ N ∧ i = .int .i64 j ∧ rdEs j (l.drop (a2 + 2)) = some (es, l.drop a') ∧ DecSt lo w wr (.slice A l.length c) tg es u l a') (fun _ i _ => N - (intOf i).toNat)
        case atStart => exact ⟨0, a2 + 2, [], .slice none 0 0, Nat.zero_le _, rfl, rfl, DS.out⟩
        case round =>
          clear DS
          obtain ⟨j, a', es, u, hj, rfl, hes, hds⟩ := hrel
          have DS := Lib.hid hds
          have HES := Lib.hid hes
          have hsz := hds.size
          obtain ⟨Au, cu, rfl, _⟩ := own_slice hds.row
          clear hds hes
          by_cases hlt : j < N
          · by_cases u1 : a' + 1 ≤ l.length
            · generalize hn1 : numOf ((l.drop a').take 1) = n1
              by_cases u2 : a' + 1 + n1 ≤ l.length
              · have ht := rtext_ok lo (w.heap.size + 1 + 1) (w.heap.size + 1 + 1) a' 1 n1 l wr DS.out.rd (by omega) hl (by omega) u1 (by omega) hn1 u2
                generalize hky : str ((l.drop (a' + 1)).take n1) = ky at ht
                generalize ha5 : a' + 1 + n1 = a5 at ht
                have H1 : Hid (rd1 (l.drop a') = some (ky, l.drop a5)) := Lib.hid (by rw [← hky, ← ha5]; exact rd1_ok u1 hn1 u2)
                rw [ha5] at u2
                clear hky ha5 hn1 u1
                go_wp2_with fail
                refine ht.mono ?_
                clear ht
                rintro e w5 ⟨rfl, hr5, hf5, hs5⟩
                have D5 := Lib.hid (DS.out.moved hr5 hf5)
                have hsz5 := D5.out.size
                clear DS hr5 hf5 hs5 hsz
                go_wp2_with fail
                by_cases v1 : a5 + 2 ≤ l.length
                · generalize hn2 : numOf ((l.drop a5).take 2) = n2
                  by_cases v2 : a5 + 2 + n2 ≤ l.length
                  · have HT : Hid (∀ W, Below w5.heap.size w5 W → Calls Tryz.prog 30 #[.pointer (some ⟨w.heap.size + 1 + 1, 0, none⟩), .int .i64 2] W fun e w' => e = .returned (.string (str ((l.drop (a5 + 2)).take n2))) ∧ DecSt lo w w' (.slice A l.length c) tg es (.slice Au es.length cu) l (a5 + 2 + n2)) := Lib.hid fun W hW => by
                      have dW := D5.out.keep hW
                      refine (rtext_ok lo (w.heap.size + 1 + 1) (w.heap.size + 1 + 1) a5 2 n2 l W dW.rd (by have := dW.size; omega) hl (by omega) v1 (by omega) hn2 v2).mono ?_
                      rintro e w' ⟨rfl, h1, h2, _⟩
                      exact ⟨rfl, dW.moved h1 h2⟩
                    have HR : Hid (rdE (l.drop a') = some (⟨ky, str ((l.drop (a5 + 2)).take n2)⟩, l.drop (a5 + 2 + n2))) := Lib.hid (rdE_ok H1.out (rd2_ok v1 hn2 v2))
                    generalize str ((l.drop (a5 + 2)).take n2) = tx at HT HR
                    generalize a5 + 2 + n2 = a7 at HT HR
                    have hel : Hid (es.length = j) := Lib.hid (rdEs_inv HES.out).2
                    have hel2 : es.length ≤ 65536 := by rw [hel.out]; omega
                    have HnX : Hid (∀ (W : World) (q : Nat) (x : Value), ([Value.string ky, .string tx] : List Value)[q]? = some x → (W.alloc (.cells #[.string ky, .string tx] 32)).cell? ⟨W.heap.size, 0 + q, none⟩ = some x) := Lib.hid fun W q x hq => by
                      rw [Nat.zero_add, (Blk.new W 32 #[.string ky, .string tx]).cell q]; simpa using hq
                    have b1 : w5.cell? ⟨w.heap.size, 1, none⟩ = some (.slice Au es.length cu) := (D5.out.k0.cell 1).trans rfl
                    clear v1 v2 hn2 H1
                    refine wp_region_noPanic ?_
                    go_region_law
                      (first
                        | (refine step_enter (by rfl) 30 #[.pointer (some ⟨w.heap.size + 1 + 1, 0, none⟩), .int .i64 2] (by go_simp) (HT.out _ (by first | exact Below.refl _ _ | exact (Below.refl _ _).drew)) ?_
                           rintro e w6 ⟨rfl, d6⟩
                           refine ⟨_, rfl, ?_⟩
                           have D6 := Lib.hid d6
                           have b6 : w6.cell? ⟨w.heap.size, 1, none⟩ = some (.slice Au es.length cu) := (d6.k0.cell 1).trans rfl
                           have hsz6 := d6.size
                           have b7 : ∀ o : Obj, (w6.alloc o).cell? ⟨w.heap.size, 1, none⟩ = some (.slice Au es.length cu) := fun o => ((d6.k0.alloc o).cell 1).trans rfl
                           clear d6)
                        | (refine step_append_any (by rfl) _ _ 22 (by rfl) w.heap.size 32 Tryz.underlying22 info_ent rfl (by decide) (flatE es) (by rfl) (own_below D6.out.row (by repeat (first | exact Below.refl _ _ | refine Below.drew ?_ | refine below_drewN ?_ _ | refine Below.alloc ?_ (by simp) _)) (Nat.le_refl _)) [Value.string ky, Value.string tx] (by rfl) (by rfl) (.inr ⟨_, _, rfl, HnX.out _⟩) (by simp [Value.oneCell']) (by unfold maxLen; omega) (by omega) (by simp; omega) ?_
                           intro v7 w7 hown7 hgrow7
                           have d6a := D6.out.keep (W := w6.alloc (.cells #[.string ky, .string tx] 32)) ((Below.refl _ _).alloc (Nat.le_refl _) _)
                           have D8 := Lib.hid (d6a.push (e := ⟨ky, tx⟩) H.out hgrow7 hown7)
                           have q0 := blk_grown d6a.k0 hgrow7 (fun e => own_blk_ne d6a.row d6a.k0 (by decide) e.symm)
                           have c1 : w7.cell? ⟨w.heap.size, 1, none⟩ = some (.slice Au es.length cu) := (q0.cell 1).trans rfl
                           have f1 := q0.frozen 1
                           obtain ⟨A7, c7, hv7, _⟩ := own_slice hown7
                           have hv8 : v7 = .slice A7 (es.length + 1) c7 := by rw [hv7]
                           subst hv8
                           clear d6a q0 hown7 hgrow7 hv7))
                    all_goals
                      have HE8 : Hid (rdEs (j + 1) (l.drop (a2 + 2)) = some (es ++ [⟨ky, tx⟩], l.drop a7)) := Lib.hid (rdEs_snoc HES.out HR.out)
                      clear HES HR HT HnX
                      refine NoPanic.normal ?_
                      go_wp2_with fail
                      exact ⟨⟨j + 1, a7, es ++ [⟨ky, tx⟩], _, by omega, by go_num, HE8.out, D8.out⟩, by simp [intOf]; omega⟩
                  · skip
                    have HSh : Hid (∀ W, Below w5.heap.size w5 W → Calls Tryz.prog 30 #[.pointer (some ⟨w.heap.size + 1 + 1, 0, none⟩), .int .i64 2] W fun e w' => e = .panicked short ∧ Blk w' w.heap.size 24 #[.string tg, .slice Au es.length cu] ∧ Blk w' (w.heap.size + 1) 28 #[.nilIface] ∧ Below w.heap.size w w') := Lib.hid fun W hW => by
                      have dW := D5.out.keep hW
                      have hzW := dW.size
                      refine (rtext_short2 lo (w.heap.size + 1 + 1) (w.heap.size + 1 + 1) a5 2 l W dW.rd (by omega) hl (by omega) v1 (by omega) (by omega)).mono ?_
                      rintro e w' ⟨rfl, h1⟩
                      have h2 : Fr W w' (· = w.heap.size + 1 + 1) := h1
                      exact ⟨rfl, dW.k0.fr h2 (by show ¬ w.heap.size = _; omega), dW.k1.fr h2 (by show ¬ w.heap.size + 1 = _; omega), Fr.below dW.below h2 (by omega) fun i e => by have : i = w.heap.size + 1 + 1 := e; omega⟩
                    have HE6 : Hid (unpackE l = 6) := Lib.hid (un_short hn hm (rdB_no3 HTAG.out HNUM.out (rdEs_none hlt HES.out (rdE_no2 H1.out (rd2_no2 v1 hn2 v2)))))
                    have b1 : w5.cell? ⟨w.heap.size, 1, none⟩ = some (.slice Au es.length cu) := (D5.out.k0.cell 1).trans rfl
                    refine wp_region_held_drew (S := fun _ => True) (by kernel_rfl) trivial fun _ => ?_
                    refine wpAnyH_take (i := 0) (v := .pointer (some ⟨w.heap.size, 1, none⟩)) rfl (by kernel_rfl) (by kernel_rfl) (by kernel_rfl) (fun c a w h => dec_slot 26 _ (by decide) (by decide) h) (Or.inl ⟨by rfl, by intro w _; go_simp⟩) trivial ?_
                    refine wpAnyH_take (i := 2) (v := .string ky) rfl (by kernel_rfl) (by kernel_rfl) (by kernel_rfl) (fun c a w h => dec_slot 28 _ (by decide) (by decide) h) (Or.inl ⟨by rfl, by intro w _; go_simp⟩) trivial ?_
                    refine wpAnyH_take (i := 3) (v := .pointer (some ⟨w.heap.size + 1 + 1, 0, none⟩)) rfl (by kernel_rfl) (by kernel_rfl) (by kernel_rfl) (fun c a w h => dec_slot 29 _ (by decide) (by decide) h) (Or.inl ⟨by rfl, by intro w _; go_simp⟩) trivial ?_
                    refine wpAnyH_ready (rs := [1, 4]) (by kernel_rfl) (by simp) ?_
                    refine AllReadyH.cons rfl ?_ (AllReadyH.cons rfl ?_ AllReadyH.nil)
                    · intro K' hK
                      go_simp
                      refine hK.out _ _ trivial fun _ => ?_
                      refine wpAnyH_ready (rs := [4]) (by kernel_rfl) (by simp) ?_
                      refine AllReadyH.cons rfl ?_ AllReadyH.nil
                      intro K2 hK2
                      refine step_panics (by rfl) 30 #[.pointer (some ⟨w.heap.size + 1 + 1, 0, none⟩), .int .i64 2] (by go_simp) (HSh.out _ (Below.refl _ _).drew) ?_
                      rintro e w6 ⟨rfl, k0, k1, hb6⟩
                      refine ⟨_, rfl, ?_⟩
                      exact dec_thrown w.heap.size 6 _ _ tg (.slice Au es.length cu) .nilIface w6 rfl rfl k0 k1 fun W2 hW2 => decres_err HE6.out (by decide) (hb6.trans hW2)
                    · intro K2 hK2
                      refine step_panics (by rfl) 30 #[.pointer (some ⟨w.heap.size + 1 + 1, 0, none⟩), .int .i64 2] (by go_simp) (HSh.out _ (Below.refl _ _).drew) ?_
                      rintro e w6 ⟨rfl, k0, k1, hb6⟩
                      refine ⟨_, rfl, ?_⟩
                      exact dec_thrown w.heap.size 6 _ _ tg (.slice Au es.length cu) .nilIface w6 rfl rfl k0 k1 fun W2 hW2 => decres_err HE6.out (by decide) (hb6.trans hW2)
                · skip
                  have HSh : Hid (∀ W, Below w5.heap.size w5 W → Calls Tryz.prog 30 #[.pointer (some ⟨w.heap.size + 1 + 1, 0, none⟩), .int .i64 2] W fun e w' => e = .panicked short ∧ Blk w' w.heap.size 24 #[.string tg, .slice Au es.length cu] ∧ Blk w' (w.heap.size + 1) 28 #[.nilIface] ∧ Below w.heap.size w w') := Lib.hid fun W hW => by
                    have dW := D5.out.keep hW
                    have hzW := dW.size
                    refine (rtext_short1 lo (w.heap.size + 1 + 1) (w.heap.size + 1 + 1) a5 2 l W dW.rd (by omega) hl (by omega)).mono ?_
                    rintro e w' ⟨rfl, h1⟩
                    have h2 : Fr W w' (· = w.heap.size + 1 + 1) := Fr.of_below h1 _
                    exact ⟨rfl, dW.k0.fr h2 (by show ¬ w.heap.size = _; omega), dW.k1.fr h2 (by show ¬ w.heap.size + 1 = _; omega), Fr.below dW.below h2 (by omega) fun i e => by have : i = w.heap.size + 1 + 1 := e; omega⟩
                  have HE6 : Hid (unpackE l = 6) := Lib.hid (un_short hn hm (rdB_no3 HTAG.out HNUM.out (rdEs_none hlt HES.out (rdE_no2 H1.out (rd2_no1 v1)))))
                  have b1 : w5.cell? ⟨w.heap.size, 1, none⟩ = some (.slice Au es.length cu) := (D5.out.k0.cell 1).trans rfl
                  refine wp_region_held_drew (S := fun _ => True) (by kernel_rfl) trivial fun _ => ?_
                  refine wpAnyH_take (i := 0) (v := .pointer (some ⟨w.heap.size, 1, none⟩)) rfl (by kernel_rfl) (by kernel_rfl) (by kernel_rfl) (fun c a w h => dec_slot 26 _ (by decide) (by decide) h) (Or.inl ⟨by rfl, by intro w _; go_simp⟩) trivial ?_
                  refine wpAnyH_take (i := 2) (v := .string ky) rfl (by kernel_rfl) (by kernel_rfl) (by kernel_rfl) (fun c a w h => dec_slot 28 _ (by decide) (by decide) h) (Or.inl ⟨by rfl, by intro w _; go_simp⟩) trivial ?_
                  refine wpAnyH_take (i := 3) (v := .pointer (some ⟨w.heap.size + 1 + 1, 0, none⟩)) rfl (by kernel_rfl) (by kernel_rfl) (by kernel_rfl) (fun c a w h => dec_slot 29 _ (by decide) (by decide) h) (Or.inl ⟨by rfl, by intro w _; go_simp⟩) trivial ?_
                  refine wpAnyH_ready (rs := [1, 4]) (by kernel_rfl) (by simp) ?_
                  refine AllReadyH.cons rfl ?_ (AllReadyH.cons rfl ?_ AllReadyH.nil)
                  · intro K' hK
                    go_simp
                    refine hK.out _ _ trivial fun _ => ?_
                    refine wpAnyH_ready (rs := [4]) (by kernel_rfl) (by simp) ?_
                    refine AllReadyH.cons rfl ?_ AllReadyH.nil
                    intro K2 hK2
                    refine step_panics (by rfl) 30 #[.pointer (some ⟨w.heap.size + 1 + 1, 0, none⟩), .int .i64 2] (by go_simp) (HSh.out _ (Below.refl _ _).drew) ?_
                    rintro e w6 ⟨rfl, k0, k1, hb6⟩
                    refine ⟨_, rfl, ?_⟩
                    exact dec_thrown w.heap.size 6 _ _ tg (.slice Au es.length cu) .nilIface w6 rfl rfl k0 k1 fun W2 hW2 => decres_err HE6.out (by decide) (hb6.trans hW2)
                  · intro K2 hK2
                    refine step_panics (by rfl) 30 #[.pointer (some ⟨w.heap.size + 1 + 1, 0, none⟩), .int .i64 2] (by go_simp) (HSh.out _ (Below.refl _ _).drew) ?_
                    rintro e w6 ⟨rfl, k0, k1, hb6⟩
                    refine ⟨_, rfl, ?_⟩
                    exact dec_thrown w.heap.size 6 _ _ tg (.slice Au es.length cu) .nilIface w6 rfl rfl k0 k1 fun W2 hW2 => decres_err HE6.out (by decide) (hb6.trans hW2)
              · have D0 := DS.out
                go_wp2_with fail
                refine (rtext_short2 lo (w.heap.size + 1 + 1) (w.heap.size + 1 + 1) a' 1 l wr D0.rd (by omega) hl (by omega) u1 (by omega) (by omega)).mono ?_
                rintro e w5 ⟨rfl, h2⟩
                exact dec_thrown w.heap.size 6 _ _ tg (.slice Au es.length cu) .nilIface w5 rfl rfl (D0.k0.fr h2 (by show ¬ w.heap.size = _; omega)) (D0.k1.fr h2 (by show ¬ w.heap.size + 1 = _; omega)) fun W2 hW2 => decres_err (un_short hn hm (rdB_no3 HTAG.out HNUM.out (rdEs_none hlt HES.out (rdE_no1 (rd1_no2 u1 hn1 u2))))) (by decide) ((Fr.below D0.below h2 (by omega) fun i e => by have : i = w.heap.size + 1 + 1 := e; omega).trans hW2)
            · have D0 := DS.out
              go_wp2_with fail
              refine (rtext_short1 lo (w.heap.size + 1 + 1) (w.heap.size + 1 + 1) a' 1 l wr D0.rd (by omega) hl (by omega)).mono ?_
              rintro e w5 ⟨rfl, h1⟩
              exact dec_thrown w.heap.size 6 _ _ tg (.slice Au es.length cu) .nilIface w5 rfl rfl (D0.k0.below h1 (by omega)) (D0.k1.below h1 (by omega)) fun W2 hW2 => decres_err (un_short hn hm (rdB_no3 HTAG.out HNUM.out (rdEs_none hlt HES.out (rdE_no1 (rd1_no1 u1))))) (by decide) ((D0.below.trans (h1.mono (by omega))).trans hW2)
          · obtain rfl : j = N := by omega
            have D0 := DS.out
            have hal : a' ≤ l.length := D0.rd.le
            have HRB := Lib.hid (rdB_ok HTAG.out HNUM.out HES.out)
            have hes : es.length ≤ 65535 := by have := (rdEs_inv HES.out).2; omega
            have HSm := Lib.hid (rdEs_small HES.out)
            have htg := rd1_small HTAG.out
            have r1 : wr.cell? ⟨w.heap.size + 1 + 1, 1, none⟩ = some (.int .i64 a') := (D0.rd.at_.1.cell 1).trans rfl
            obtain ⟨b, o, rfl, _⟩ := H.out.byteAt 0 (by omega)
            have hac : a' ≤ c := by omega
            have hsl : ListOk Enc.byte wr lo wr.heap.size (.slice (some ⟨b, o, none⟩) a' c) (l.take a') := by
              have h1 := ((H.out.below Enc.byte_laws D0.below).mono Enc.byte_laws (Nat.le_refl _) (show w.heap.size ≤ wr.heap.size by omega)).mid rfl 0 a' (by omega)
              rw [List.drop_zero] at h1
              simpa using h1
            have HSum := Lib.hid (sum_any _ _ _ _ hsl (by rw [List.length_take]; omega))
            have hsl32 := sumOf_lt (l.take a')
            clear D0 hsl
            go_wp2_with fail
            refine HSum.out.mono ?_
            clear HSum
            rintro e w5 ⟨rfl, hb5⟩
            have D5 := Lib.hid (DS.out.keep hb5)
            have hsz5 := D5.out.size
            clear DS hb5 hsz r1
            generalize hS : sumOf (l.take a') = S at *
            have HSu := Lib.hid hS
            clear hS
            go_wp2_with fail
            by_cases z1 : a' + 4 ≤ l.length
            · have ht := rnumber_ok lo (w.heap.size + 1 + 1) (w.heap.size + 1 + 1) a' 4 l w5 D5.out.rd (by omega) hl (by omega) z1 (by omega)
              have hT32 := numOf_lt 4 ((l.drop a').take 4) (by simp; omega)
              generalize hT : numOf ((l.drop a').take 4) = T at ht hT32
              have HT := Lib.hid hT
              clear hT
              refine ht.mono ?_
              clear ht
              rintro e w6 ⟨rfl, hr6, hf6, _⟩
              have D6 := Lib.hid (D5.out.moved hr6 hf6)
              have hsz6 := D6.out.size
              have r1 : w6.cell? ⟨w.heap.size + 1 + 1, 1, none⟩ = some (.int .i64 ((a' + 4 : Nat) : Int)) := (D6.out.rd.at_.1.cell 1).trans rfl
              have hT2 : T < 4294967296 := hT32
              have hTw : IntKind.u32.wrap (T : Int) = T := by rw [IntKind.wrap_u32']; omega
              clear D5 hr6 hf6 hT32
              by_cases z2 : a' + 4 < l.length
              · have hd : decide (((a' + 4 : Nat) : Int) < l.length) = true := decide_eq_true (by omega)
                have HE6 : Hid (unpackE l = 3) := Lib.hid (by rw [un_left hn hm HRB.out]; exact left_more z2)
                have D0 := D6.out
                go_wp2_with fail
                exact dec_thrown w.heap.size 3 _ _ tg (.slice Au es.length cu) .nilIface w6 rfl rfl D0.k0 D0.k1 fun W2 hW2 => decres_err HE6.out (by decide) (D0.below.trans hW2)
              · have hd : decide (((a' + 4 : Nat) : Int) < l.length) = false := decide_eq_false (by omega)
                have hal4 : a' + 4 = l.length := by omega
                by_cases z3 : T = S
                · subst z3
                  have HE := Lib.hid ((un_left hn hm HRB.out).trans (left_last hal4 (by rw [HT.out, HSu.out])))
                  have c1 : w6.cell? ⟨w.heap.size, 1, none⟩ = some (.slice Au es.length cu) := (D6.out.k0.cell 1).trans rfl
                  have hent : ListOk Enc.ent w6 w.heap.size w6.heap.size (.slice Au es.length cu) es := ents_of_own D6.out.row (Nat.le_refl _) (Nat.le_refl _)
                  have HIs := Lib.hid (issorted_any _ es Au cu w6 hent (by omega))
                  clear hent HSu HT
                  go_wp2_with fail
                  refine HIs.out.mono ?_
                  clear HIs
                  rintro e w7 ⟨rfl, hb7⟩
                  have D7 := Lib.hid (D6.out.keep hb7)
                  clear hb7 D6 c1 r1
                  cases hup : upTo es (es.length - 1) with
                  | false =>
                    have HE6 : Hid (unpackE l = 3) := Lib.hid (by rw [HE.out, last_no hup]; rfl)
                    have D0 := D7.out
                    go_wp2_with fail
                    exact dec_thrown w.heap.size 3 _ _ tg (.slice Au es.length cu) .nilIface w7 rfl rfl D0.k0 D0.k1 fun W2 hW2 => decres_err HE6.out (by decide) (D0.below.trans hW2)
                  | true =>
                    have c0 : w7.cell? ⟨w.heap.size, 0, none⟩ = some (.string tg) := (D7.out.k0.cell 0).trans rfl
                    have c1 : w7.cell? ⟨w.heap.size, 1, none⟩ = some (.slice Au es.length cu) := (D7.out.k0.cell 1).trans rfl
                    have hbi : BunIn w7 ⟨tg, es⟩ (.slice Au es.length cu) := ⟨⟨w.heap.size, ents_of_own D7.out.row (Nat.le_refl _) (Nat.le_refl _)⟩, by show tg.size < _; omega, by show es.length ≤ _; omega, fun e he => by have := HSm.out e he; omega⟩
                    have HCk := Lib.hid (bunCheck_any ⟨tg, es⟩ _ w7 hbi (hmv.below D7.out.below))
                    dsimp only at HCk
                    clear hbi
                    go_wp2_with fail
                    refine HCk.out.mono ?_
                    clear HCk
                    rintro e w8 ⟨rfl, hb8⟩
                    have D8 := Lib.hid (D7.out.keep hb8)
                    clear hb8 D7 c0 c1
                    by_cases hf : bunFault ⟨tg, es⟩ = 0
                    · have HE0 : Hid (unpackE l = 0) := Lib.hid (by rw [HE.out, last_yes hup hf]; rfl)
                      rw [hf, errV_zero]
                      have c0 : w8.cell? ⟨w.heap.size, 0, none⟩ = some (.string tg) := (D8.out.k0.cell 0).trans rfl
                      have c1 : w8.cell? ⟨w.heap.size, 1, none⟩ = some (.slice Au es.length cu) := (D8.out.k0.cell 1).trans rfl
                      have f0 := D8.out.k0.frozen 0
                      have f1 := D8.out.k0.frozen 1
                      have c2 : w8.cell? ⟨w.heap.size + 1, 0, none⟩ = some .nilIface := (D8.out.k1.cell 0).trans rfl
                      have f2 := D8.out.k1.frozen 0
                      clear hf hup
                      go_wp2_with fail
                      have hb9 : Below w.heap.size w (((w8.setCell ⟨w.heap.size, 0, none⟩ (.string tg)).setCell ⟨w.heap.size, 1, none⟩ (.slice Au es.length cu)).setCell ⟨w.heap.size + 1, 0, none⟩ .nilIface) := ((D8.out.below.setCell (Nat.le_refl _) _).setCell (Nat.le_refl _) _).setCell (by simp) _
                      have k0 := ((D8.out.k0.set_ 0 (.string tg)).set_ 1 (.slice Au es.length cu)).far (p := ⟨w.heap.size + 1, 0, none⟩) (show w.heap.size ≠ w.heap.size + 1 by omega) .nilIface
                      have k1 := ((D8.out.k1.far (p := ⟨w.heap.size, 0, none⟩) (show w.heap.size + 1 ≠ w.heap.size by omega) (.string tg)).far (p := ⟨w.heap.size, 1, none⟩) (show w.heap.size + 1 ≠ w.heap.size by omega) (.slice Au es.length cu)).set_ 0 .nilIface
                      have hrow : World.ownsRow (((w8.setCell ⟨w.heap.size, 0, none⟩ (.string tg)).setCell ⟨w.heap.size, 1, none⟩ (.slice Au es.length cu)).setCell ⟨w.heap.size + 1, 0, none⟩ .nilIface) w.heap.size 32 2 (.slice Au es.length cu) es.length (flatE es) := own_keep D8.out.row fun g hg _ => by
                        have n0 : g ≠ w.heap.size := fun e => own_blk_ne D8.out.row D8.out.k0 (by decide) (by rw [hg, e])
                        have n1 : g ≠ w.heap.size + 1 := fun e => own_blk_ne D8.out.row D8.out.k1 (by decide) (by rw [hg, e])
                        rw [Below.heap_setCell _ _ _ _ n1, Below.heap_setCell _ _ _ _ n0, Below.heap_setCell _ _ _ _ n0]
                      exact dec_told w.heap.size _ _ tg (.slice Au es.length cu) .nilIface _ rfl rfl k0 k1 ⟨hb9, .inr ⟨HE0.out, _, by rw [unB_ok HE0.out HRB.out], by rw [unB_ok HE0.out HRB.out]; exact hrow⟩⟩
                    · have HE6 : Hid (unpackE l = 3) := Lib.hid (by rw [HE.out, decide_eq_false hf, Bool.and_false]; rfl)
                      rw [errV_ne hf]
                      have D0 := D8.out
                      go_wp2_with fail
                      exact dec_thrown w.heap.size 3 _ _ tg (.slice Au es.length cu) .nilIface w8 rfl rfl D0.k0 D0.k1 fun W2 hW2 => decres_err HE6.out (by decide) (D0.below.trans hW2)
                · have hd3 : ((T : Int) != S) = true := by simp; omega
                  have HE6 : Hid (unpackE l = 8) := Lib.hid (by rw [un_left hn hm HRB.out]; exact left_sum hal4 (by rw [HT.out, HSu.out]; exact z3))
                  have D0 := D6.out
                  go_wp2_with fail
                  exact dec_thrown w.heap.size 8 _ _ tg (.slice Au es.length cu) .nilIface w6 rfl rfl D0.k0 D0.k1 fun W2 hW2 => decres_err HE6.out (by decide) (D0.below.trans hW2)
            · have D0 := D5.out
              refine (rnumber_short lo (w.heap.size + 1 + 1) (w.heap.size + 1 + 1) a' 4 l w5 D0.rd (by omega) hl (by omega)).mono ?_
              rintro e w6 ⟨rfl, h1⟩
              exact dec_thrown w.heap.size 6 _ _ tg (.slice Au es.length cu) .nilIface w6 rfl rfl (D0.k0.below h1 (by omega)) (D0.k1.below h1 (by omega)) fun W2 hW2 => decres_err ((un_left hn hm HRB.out).trans (left_short z1)) (by decide) ((D0.below.trans (h1.mono (by omega))).trans hW2)
      · refine (rnumber_short lo (w.heap.size + 1 + 1) (w.heap.size + 1 + 1) a2 2 l w3 HR3.out hs3 hl (by omega)).mono ?_
        rintro e w4 ⟨rfl, hb4⟩
        exact dec_thrown w.heap.size 6 _ _ tg (.slice none 0 0) .nilIface w4 rfl rfl (K03.out.below hb4 (by omega)) (K13.out.below hb4 (by omega)) fun W2 h2 => decres_err (un_short hn hm (rdB_no2 HTAG.out (rdN_no t3))) (by decide) (((HB2.out.trans HB3.out).trans (hb4.mono (by omega))).trans h2)
    · refine (rtext_short2 lo (w.heap.size + 1 + 1) (w.heap.size + 1 + 1) 4 1 l w1 HR1.out hs1 hl (by omega) t1 (by omega) (by omega)).mono ?_
      rintro e w2 ⟨rfl, hb2⟩
      replace hb2 := hb2.low hs1 (Nat.le_refl _)
      exact dec_thrown w.heap.size 6 _ _ ByteArray.empty (.slice none 0 0) .nilIface w2 rfl rfl (K01.out.below hb2 (by omega)) (K11.out.below hb2 (by omega)) fun W2 h2 => decres_err (un_short hn hm (rdB_no1 (rd1_no2 t1 rfl t2))) (by decide) ((HB1.out.trans (hb2.mono (by omega))).trans h2)
  · refine (rtext_short1 lo (w.heap.size + 1 + 1) (w.heap.size + 1 + 1) 4 1 l w1 HR1.out hs1 hl (by omega)).mono ?_
    rintro e w2 ⟨rfl, hb2⟩
    exact dec_thrown w.heap.size 6 _ _ ByteArray.empty (.slice none 0 0) .nilIface w2 rfl rfl (K01.out.below hb2 (by omega)) (K11.out.below hb2 (by omega)) fun W2 h2 => decres_err (un_short hn hm (rdB_no1 (rd1_no1 t1))) (by decide) ((HB1.out.trans (hb2.mono (by omega))).trans h2)
/-- Decode, at any bytes. -/
theorem decode_any (lo : Nat) (v : Value) (l : List UInt8) (w : World) (h : ListOk Enc.byte w lo w.heap.size v l) (hl : l.length ≤ 1000000000) (hmv : MaxVar w) :
    Calls Tryz.prog 12 #[v] w fun e w' => DecRes w l e w' := by
  by_cases hn : 4 ≤ l.length
  · by_cases hm : l.take 4 = magicB
    · exact dec_rest lo v l w h hl hn hm hmv
    · refine (dec_form0 lo v l w h hl hn hm).mono ?_
      rintro e w' ⟨rfl, hb⟩
      exact decres_err (un_form0 hn hm) (by decide) hb
  · refine (dec_short0 lo v l w h hl (by omega)).mono ?_
    rintro e w' ⟨rfl, hb⟩
    exact decres_err (un_short0 (by omega)) (by decide) hb
end Go.Proofs.YtmpjfomfibkbnaaGreatDoor
