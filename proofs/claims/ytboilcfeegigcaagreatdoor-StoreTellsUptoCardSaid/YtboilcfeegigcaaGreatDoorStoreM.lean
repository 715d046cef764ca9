/- The walk of package store: Load, its loops. -/
import Derived.Test.YtboilcfeegigcaaGreatDoorStoreL
import Derived.Test.YtboilcfeegigcaaGreatDoorBunRow
namespace Go.Proofs.YtboilcfeegigcaaGreatDoor
open Go.RowKit Go.Maps

def loadE (l : List Bun) : Int := if 20 < l.length then 4 else loadFault l
/-- What Load answers. -/
def LoadRes (B b1 p M : Nat) (w : World) (vs : List VR) (l : List Bun) (e : Ending) (w' : World) : Prop :=
  Fr w w' (StX p M vs) ∧ ((loadE l ≠ 0 ∧ e = .returned (.tuple #[.int .i64 0, errV (loadE l)]) ∧ StoreSt B b1 w' p M vs) ∨
   (loadE l = 0 ∧ ∃ r : VR, r.held = 0 ∧ r.buns = l ∧ e = .returned (.tuple #[.int .i64 ((vs.length + 1 : Nat) : Int), errV 0]) ∧ StoreSt B b1 w' p M (vs ++ [r])))
theorem load_err {B b1 p M : Nat} {w W : World} {vs : List VR} {l : List Bun} {x : Int} (hS : StoreSt B b1 w p M vs) (hb : Below w.heap.size w W) (hx : loadE l = x) (h0 : x ≠ 0) : LoadRes B b1 p M w vs l (.returned (.tuple #[.int .i64 0, errV x])) W :=
  ⟨Fr.of_below hb _, .inl ⟨by rw [hx]; exact h0, by rw [hx], hS.keep hb⟩⟩
theorem Words.mono {w : World} {base base' : Nat} {S : List Ent} {buns : List Bun} (h : Words w base S buns) (hb : base' ≤ base) : Words w base' S buns :=
  ⟨fun b hb' => let ⟨mb, k, h1, h2, h3⟩ := h.yes b hb'; ⟨mb, k, h1, Nat.le_trans hb h2, h3⟩, h.no⟩
/-- The new version lies among the others. -/
theorem load_in {B b1 p M vb wb n : Nat} {w wr w7 : World} {vs : List VR} {l : List Bun} {S : List Ent} (h : StoreSt B b1 w p M vs) (hb1 : b1 ≤ w.heap.size) (st : LoadSt w wr vb wb S l l.length) (hl : loadFault l = 0)
    (hn : n ≤ vs.length) (hO : OwnsN w7 M (n + 1) (keptV vs ++ [(vs.length + 1, vb)])) (hF : Fr wr w7 (fun k => k = p ∨ k = M)) (hB : Blk w7 p 54 #[.int .i64 ((vs.length + 1 : Nat) : Int), .map (some M)]) :
    StoreIn B b1 w7 p M (vs ++ [⟨vb, 0, l⟩]) (pickV (fun k x => k == vs.length + 1 || live vs.length k x) 1 (vs ++ [⟨vb, 0, l⟩])) := by
  have hp := h.lp.2
  have hM := h.lM.2
  have hlo := st.lo
  have hlv := st.lv
  have hr := h.keep st.below
  refine ⟨h.lp, h.lM, ?_, ⟨n + 1, by rw [List.length_append]; exact Nat.succ_le_succ hn, ?_⟩, fun r hr' => ?_, ?_⟩
  · rw [List.length_append]; exact hB
  · rw [kept_more vs ⟨vb, 0, l⟩] at hO
    exact hO
  · rcases List.mem_append.1 hr' with h1 | h1
    · exact (hr.vers r h1).fr hF fun k hk => by rcases hk with rfl | rfl <;> omega
    · rw [List.mem_singleton.1 h1]
      refine ⟨Nat.le_trans hb1 hlv, hl, wb, S, _, st.blk.fr hF (fun e => by omega), Nat.le_trans hb1 hlo, owns_fr st.map hF (fun e => by omega), ?_⟩
      have hw := st.words
      rw [List.take_length] at hw
      exact (hw.fr hF fun mb k T hm _ e => by omega).mono (by omega)
  · rw [List.pairwise_append]
    refine ⟨h.apart, List.pairwise_singleton _ _, fun a ha b hb => ?_⟩
    rw [List.mem_singleton.1 hb]
    have := (h.vers a ha).lt
    show a.blk ≠ vb
    omega
theorem live_more (vs : List VR) (r : VR) (i : Nat) (hi : i < (vs ++ [r]).length) (h : live (vs ++ [r]).length (1 + i) (vs ++ [r])[i] = true) : ((1 + i == vs.length + 1) || live vs.length (1 + i) (vs ++ [r])[i]) = true := by
  unfold live at h ⊢
  rw [List.length_append] at h
  rw [Bool.or_eq_true] at h ⊢
  rcases h with h | h
  · exact .inl h
  · rw [h, Bool.or_true]; exact .inr rfl
set_option maxHeartbeats 6400000 in
set_option maxRecDepth 100000 in
theorem load_any {B b1 p M : Nat} {w : World} {vs : List VR} (h : StoreSt B b1 w p M vs) (l : List Bun) (vl : Value) (hl : BunsIn w vl l) (hm : MaxVar w) (hn : vs.length ≤ 1200000) (hb1 : b1 ≤ w.heap.size) :
    Calls Tryz.prog 8 #[.pointer (some ⟨p, 0, none⟩), vl] w fun e w' => LoadRes B b1 p M w vs l e w' := by
  have hmm := @run_makeMap Tryz.prog
  obtain ⟨lo, hlo⟩ := hl.lo
  obtain ⟨A, c, rfl, _⟩ := hlo.form
  have HI := Lib.hid hl
  have HM := Lib.hid hm
  have HS := Lib.hid h
  clear h hl hm hlo
  by_cases h20 : 20 < l.length
  · have hd : decide (20 < (l.length : Int)) = true := decide_eq_true (by omega)
    have HE : Hid (loadE l = 4) := Lib.hid (by unfold loadE; rw [if_pos h20])
    go_enter Tryz.func8, Tryz.ntmps8
    go_wp2_with fail
    go_ret2
    exact load_err HS.out (Below.refl _ _) HE.out (by decide)
  · have hd : decide (20 < (l.length : Int)) = false := decide_eq_false (by omega)
    have HE : Hid (loadE l = loadFault l) := Lib.hid (by unfold loadE; rw [if_neg h20])
    have hl20 : l.length ≤ 20 := by omega
    go_enter Tryz.func8, Tryz.ntmps8
    go_wp2_with fail
    obtain ⟨W1, eW1⟩ : ∃ W1, W1 = (w.alloc (.map #[] 0)).alloc (.cells #[.map (some w.heap.size), .int .i64 0] 58) := ⟨_, rfl⟩
    have L1 : Hid (LoadSt w W1 (w.heap.size + 1) w.heap.size [] l 0) := Lib.hid ⟨Nat.le_refl _, Nat.le_succ _, by
        rw [eW1]
        have := Blk.new (w.alloc (.map #[] 0)) 58 #[.map (some w.heap.size), .int .i64 0]
        rw [World.size_alloc] at this
        exact this, by rw [eW1]; exact World.ownsMap.alloc (World.ownsMap_made (H := Unit) w Tryz.prog 9 mapR) _, ⟨fun b hb => by simp at hb, fun tag _ => rfl⟩, by rw [eW1]; exact ((Below.refl _ _).alloc (Nat.le_refl _) _).alloc (by simp) _⟩
    rw [← eW1]
    clear eW1 hd h20
    go_loopw [21] (fun i wr => ∃ (j : Nat) (S : List Ent), j ≤ l.length ∧ i = .int .i64 j ∧ (∀ q, q < j → loadAt l q = 0) ∧ LoadSt w wr (w.heap.size + 1) w.heap.size S l j) (fun i _ => l.length - (intOf i).toNat)
    case atStart => exact ⟨0, [], Nat.zero_le _, rfl, fun q hq => absurd hq (by omega), L1.out⟩
    case round =>
      clear L1
      obtain ⟨j, S, hj, rfl, hno, hst⟩ := hrel
      have ST := Lib.hid hst
      have HNo := Lib.hid hno
      clear hst hno
      by_cases hlt : j < l.length
      · obtain ⟨b, o, V, rfl, hbl, z0, z1, hinw⟩ := HI.out.bunAt j hlt
        have x0 := (ST.out.below.cell (p := ⟨b, o + j * 2, none⟩) hbl).trans z0
        have x1 := (ST.out.below.cell (p := ⟨b, o + j * 2 + 1, none⟩) hbl).trans z1
        have hin := hinw.below ST.out.below
        obtain ⟨lo2, hel⟩ := hinw.lo
        obtain ⟨Ae, ce, rfl, _⟩ := hel.form
        have HEnt : Hid (∀ W, Below w.heap.size w W → ListOk Enc.ent W lo2 w.heap.size (.slice Ae l[j].ents.length ce) l[j].ents) := Lib.hid fun W hW => hel.below Enc.ent_laws hW
        clear z0 z1 hinw
        have ST2 := Lib.hid (ST.out.keep (W := wr.alloc (.cells #[.string l[j].tag, .slice Ae l[j].ents.length ce] 27)) ((Below.refl _ _).alloc (Nat.le_refl _) _))
        have HCk := Lib.hid (bunCheck_any l[j] _ (wr.alloc (.cells #[.string l[j].tag, .slice Ae l[j].ents.length ce] 27)) (hin.below ((Below.refl _ _).alloc (Nat.le_refl _) _)) (HM.out.below ST2.out.below))
        obtain ⟨bx, hbx⟩ : ∃ bx, bx = wr.heap.size := ⟨_, rfl⟩
        have MB : Hid (Blk (wr.alloc (.cells #[.string l[j].tag, .slice Ae l[j].ents.length ce] 27)) bx 27 #[.string l[j].tag, .slice Ae l[j].ents.length ce]) := Lib.hid (by rw [hbx]; exact Blk.new _ _ _)
        have hbw : w.heap.size ≤ bx := by rw [hbx]; exact ST.out.below.size
        have HEl := Lib.hid (HI.out.each l[j] (List.getElem_mem hlt))
        have HFa := Lib.hid (fun hf => load_bad j hlt (fun q hq => HNo.out q hq) hf)
        have HTw := Lib.hid (fun hf q hq ht => load_twice j hlt (fun q hq => HNo.out q hq) hf q hq ht)
        have HNx := Lib.hid (fun hf hd => load_next j hlt hf hd)
        have HPush := Lib.hid (fun (W3 W : World) (mb n : Nat) (h3 : LoadSt w W3 (w.heap.size + 1) w.heap.size S l j) hno (hf : Fr W3 W (· = w.heap.size)) (hm : W3.heap.size ≤ mb) (hA : OwnsA W w.heap.size (j + 1) (putE S ⟨l[j].tag, adr mb⟩)) (hO : OwnsW W mb n (srt l[j].ents)) => h3.push hlt hno hf hm hA hO)
        clear hin hel ST
        generalize l[j] = lj at *
        obtain ⟨tg, es⟩ := lj
        dsimp only at *
        go_upto_region 7 with fail
        rw [← hbx]
        generalize wr.alloc (.cells #[.string tg, .slice Ae es.length ce] 27) = w2 at *
        have y0 := MB.out.cell 0
        have y1 := MB.out.cell 1
        simp at y0 y1
        clear hbx x0 x1
        go_wp2_with fail
        refine HCk.out.mono ?_
        clear HCk
        rintro e w3 ⟨rfl, hb3⟩
        have ST3 := Lib.hid (ST2.out.keep hb3)
        have MB3 := Lib.hid (MB.out.below hb3 MB.out.lt)
        clear hb3 ST2 MB y0 y1
        by_cases hf : bunFault ⟨tg, es⟩ = 0
        · rw [hf, errV_zero]
          have y0 : w3.cell? ⟨bx, 0, none⟩ = some (.string tg) := (MB3.out.cell 0).trans rfl
          have v0 := ST3.out.blk.cell 0
          simp at v0
          by_cases hq : ∃ q, ∃ hq : q < j, l[q].tag = tg
          · obtain ⟨q, hqj, hqt⟩ := hq
            have HE5 := Lib.hid (HE.out.trans (HTw.out hf q hqj hqt))
            obtain ⟨mb, k, k1, _, _⟩ := ST3.out.words.yes l[q] (List.mem_iff_getElem.2 ⟨q, by rw [List.length_take]; omega, by rw [List.getElem_take]⟩)
            rw [hqt] at k1
            have hr : ∀ n, (Instr.lookup 56 (.map (some w.heap.size)) (.string tg) false).run Tryz.prog (w3.drewN n) = .ok (.map (some mb)) (w3.drewN n) := fun n => look_yes (w := w3.drewN n) ST3.out.map tg (by have := HEl.out.1; unfold maxLen; omega) k1
            have hnq := neq_map_some mb
            clear hqt k1 hf
            go_wp2_with fail
            go_quiet (fail)
            go_wp2_with fail
            go_ret2
            exact load_err HS.out (below_drewN ST3.out.below _) HE5.out (by decide)
          · have hdis : ∀ q (hq' : q < j), l[q].tag ≠ tg := fun q hq' e => hq ⟨q, hq', e⟩
            have HDis := Lib.hid hdis
            have HNo2 := Lib.hid (HNx.out hf hdis)
            have hnoT : ∀ b ∈ l.take j, b.tag ≠ tg := fun b hb => by
              obtain ⟨q, hq, rfl⟩ := List.mem_iff_getElem.1 hb
              rw [List.length_take] at hq
              rw [List.getElem_take]
              exact hdis q (by omega)
            have htg : tg.size ≤ maxLen := by have := HEl.out.1; unfold maxLen; omega
            have hes : es.length ≤ 100 := (show Right ⟨tg, es⟩ from (right_iff _).1 hf).len
            have hr : ∀ n, (Instr.lookup 56 (.map (some w.heap.size)) (.string tg) false).run Tryz.prog (w3.drewN n) = .ok (.map none) (w3.drewN n) := fun n => look_no (w := w3.drewN n) ST3.out.map tg htg (ST3.out.words.no tg hnoT)
            have HKT := Lib.hid (key_str htg)
            have hnq := neq_map_none
            clear hq hdis hnoT hf HFa HTw HNx htg
            go_wp2_with fail
            go_quiet (fail)
            go_wp2_with fail
            obtain ⟨w4, ew4⟩ : ∃ w4, w4 = w3.drewN nq := ⟨_, rfl⟩
            have ST4 : Hid (LoadSt w w4 (w.heap.size + 1) w.heap.size S l j) := Lib.hid (by rw [ew4]; exact ST3.out.keep (below_drewN (Below.refl _ _) _))
            have MB4 : Hid (Blk w4 bx 27 #[.string tg, .slice Ae es.length ce]) := Lib.hid (by rw [ew4]; exact MB3.out)
            rw [← ew4]
            clear ew4 ST3 MB3 y0 v0 hr hnq
            go_cut [] (fun wx => ∃ mb, w4.heap.size ≤ mb ∧ Fr w4 wx (· = w.heap.size) ∧ OwnsA wx w.heap.size (j + 1) (putE S ⟨tg, adr mb⟩) ∧ OwnsW wx mb 0 [])
            case first =>
              have y0 : w4.cell? ⟨bx, 0, none⟩ = some (.string tg) := (MB4.out.cell 0).trans rfl
              have v0 : w4.cell? ⟨w.heap.size + 1, 0, none⟩ = some (.map (some w.heap.size)) := (ST4.out.blk.cell 0).trans rfl
              have hlv := ST4.out.blk.lt
              have hlx := MB4.out.lt
              have HV : Hid (mapR (.map (some w4.heap.size)) = some (.lit (.string (bts (adr w4.heap.size))), [])) := Lib.hid (mapR_some _)
              have HMd : Hid (OwnsW (w4.alloc (.map #[] 0)) w4.heap.size 0 []) := Lib.hid (World.ownsMap_made (H := Unit) w4 Tryz.prog 9 (plainElem (H := Unit) Tryz.prog 9))
              have hlw := owns_lt ST4.out.map
              obtain ⟨w5, hrun, r1, r2⟩ := World.ownsMap.update (H := Unit) (w := (w4.alloc (.map #[] 0)).drew) (owns_fr (X := fun _ => False) ST4.out.map (Fr.of_below (((Below.refl _ w4).alloc (Nat.le_refl _) _).drew) _) id) lawS Tryz.underlying56 (by unfold maxLen; omega) HKT.out HV.out
              have F5 : Hid (Fr w4 w5 (· = w.heap.size)) := Lib.hid ((Fr.of_below (((Below.refl _ w4).alloc (Nat.le_refl _) _).drew) _).grown r2 (fun k hk => .inl (Option.some.inj hk).symm))
              have O5 : Hid (OwnsW w5 w4.heap.size 0 []) := Lib.hid (owns_fr (w := (w4.alloc (.map #[] 0)).drew) HMd.out ((Fr.refl _ (· = w.heap.size)).grown r2 (fun k hk => .inl (Option.some.inj hk).symm)) (by omega))
              have A5 : Hid (OwnsA w5 w.heap.size (j + 1) (putE S ⟨tg, adr w4.heap.size⟩)) := Lib.hid (by
                have h := toD_put S ⟨tg, adr w4.heap.size⟩
                rw [h] at r1
                exact r1)
              clear r1 r2
              go_region
              all_goals
                go_wp2_with fail
                go_meet
                case rel => exact ⟨_, Nat.le_refl _, F5.out, A5.out, O5.out⟩
            case rest =>
              obtain ⟨mb, hmb, hf5, hA5, hO5⟩ := hcut
              have hlw4 := owns_lt ST4.out.map
              have hlx4 := MB4.out.lt
              have hlv4 := ST4.out.blk.lt
              have hbb4 := ST4.out.below
              have hbc : Below w.heap.size w wc := Fr.below ST4.out.below hf5 hbb4.size fun i e => by have : i = w.heap.size := e; omega
              have c1 : wc.cell? ⟨bx, 1, none⟩ = some (.slice Ae es.length ce) := ((MB4.out.fr hf5 (fun e => owns_ne_blk ST4.out.map MB4.out e.symm)).cell 1).trans rfl
              have MBc := Lib.hid (MB4.out.fr hf5 (fun e => owns_ne_blk ST4.out.map MB4.out e.symm))
              have VBc := Lib.hid (ST4.out.blk.fr hf5 (fun e => owns_ne_blk ST4.out.map ST4.out.blk e.symm))
              have F5 := Lib.hid hf5
              have A5 := Lib.hid hA5
              have O5 := Lib.hid hO5
              have BC := Lib.hid hbc
              have hsz := hf5.size
              have hlm := owns_lt hO5
              clear hf5 hA5 hO5 hbc hbb4
              go_wp2_with fail
              go_loopw [11, 49] (fun _ i wr2 => ∃ j2 : Nat, j2 ≤ es.length ∧ i = .int .i64 j2 ∧ OwnsW wr2 mb j2 (srtN es j2) ∧ Fr wc wr2 (· = mb)) (fun _ i _ => es.length - (intOf i).toNat)
              case atStart => exact ⟨0, Nat.zero_le _, rfl, O5.out, Fr.refl _ _⟩
              case round =>
                obtain ⟨j2, hj2, rfl, hown, hfr⟩ := hrel
                have HO := Lib.hid hown
                have HFr := Lib.hid hfr
                have hbr : Below w.heap.size w wr := Fr.below BC.out hfr BC.out.size fun i e => by have : i = mb := e; have := BC.out.size; have := ST4.out.below.size; omega
                have HBr := Lib.hid hbr
                have hszr := hfr.size
                clear hown hfr hbr
                by_cases hlt2 : j2 < es.length
                · obtain ⟨eb, eo, rfl, p1, p2, e0, e1⟩ := (HEnt.out wr HBr.out).entAt j2 hlt2
                  have hes2 := HEl.out.2.2 _ (List.getElem_mem hlt2)
                  have HSu := Lib.hid (srtN_succ es j2 hlt2)
                  generalize es[j2] = e at *
                  obtain ⟨ky, tx⟩ := e
                  dsimp only at e0 e1 hes2 HSu
                  have htg : tg.size ≤ maxLen := by have := HEl.out.1; unfold maxLen; omega
                  have hbm : Fr wr ((wr.alloc (.cells #[.string ky, .string tx] 62)).drew) (fun _ => False) := Fr.of_below (((Below.refl _ wr).alloc (Nat.le_refl _) _).drew) _
                  have hAr := owns_fr A5.out HFr.out (by omega)
                  have hkt : textK (putE S ⟨tg, adr mb⟩) tg = some (adr mb) := by
                    have hS0 : hasK S tg = false := ST4.out.words.no tg fun b hb => by
                      obtain ⟨q, hq, rfl⟩ := List.mem_iff_getElem.1 hb
                      rw [List.length_take] at hq
                      rw [List.getElem_take]
                      exact HDis.out q (by omega)
                    rw [putE_text S ⟨tg, adr mb⟩ tg hS0]
                    show (if eqs tg tg then _ else _) = _
                    rw [eqs_self]; rfl
                  have hlk := look_yes (owns_fr hAr hbm id) tg htg hkt
                  obtain ⟨w7, hrun, r1, r2⟩ := World.ownsMap.update (H := Unit) (w := (wr.alloc (.cells #[.string ky, .string tx] 62)).drew) (owns_fr HO.out hbm id) lawS Tryz.underlying60 (by unfold maxLen; omega) (key_str hes2.1) (plainElem_string (H := Unit) (P := Tryz.prog) Tryz.underlying9 hes2.2)
                  have O7 : Hid (OwnsW w7 mb (j2 + 1) (srtN es (j2 + 1))) := Lib.hid (by
                    show w7.ownsMap _ _ _ _ _ (toD (srtN es (j2 + 1)))
                    rw [HSu.out]; exact r1)
                  have F7 : Hid (Fr wc w7 (· = mb)) := Lib.hid (HFr.out.and ((hbm.mono (fun k hk => hk.elim) (S' := (· = mb))).grown r2 (fun k hk => .inl (Option.some.inj hk).symm)) (fun k hk => .inl hk))
                  have d0 : wr.cell? ⟨w.heap.size + 1, 0, none⟩ = some (.map (some w.heap.size)) := ((VBc.out.fr HFr.out (by omega)).cell 0).trans rfl
                  have b0 : wr.cell? ⟨bx, 0, none⟩ = some (.string tg) := ((MBc.out.fr HFr.out (by omega)).cell 0).trans rfl
                  have l1 : w.heap.size + 1 < wr.heap.size := by omega
                  have l2 : bx < wr.heap.size := by omega
                  clear hAr hkt hbm r1 r2 HSu htg
                  go_wp2_with fail
                  go_region
                  all_goals
                    go_wp2_with fail
                    exact ⟨⟨j2 + 1, by omega, by go_num, O7.out, F7.out⟩, by simp [intOf]; omega⟩
                · obtain rfl : j2 = es.length := by omega
                  have HO2 : Hid (OwnsW wr mb es.length (srt es)) := Lib.hid (by
                    have := HO.out
                    unfold srtN at this
                    rwa [List.take_length] at this)
                  have FF : Hid (Fr w4 wr (· = w.heap.size)) := Lib.hid (F5.out.and HFr.out (fun k hk => .inr (by have : k = mb := hk; omega)))
                  have LS := Lib.hid (HPush.out w4 wr mb es.length ST4.out HDis.out FF.out hmb (owns_fr A5.out HFr.out (by omega)) HO2.out)
                  have HN3 : Hid (∀ q, q < j + 1 → loadAt l q = 0) := Lib.hid fun q hq => by
                    rcases Nat.lt_or_eq_of_le (Nat.le_of_lt_succ hq) with h | h
                    · exact HNo.out q h
                    · rw [h]; exact HNo2.out
                  clear HO HO2 FF HPush
                  go_wp2_with fail
                  exact ⟨⟨j + 1, _, hlt, by go_num, HN3.out, LS.out⟩, by simp [intOf]; omega⟩
        · have HE5 := Lib.hid (HE.out.trans (HFa.out hf))
          have HF0 := Lib.hid hf
          rw [errV_ne hf]
          have HB3 := Lib.hid ST3.out.below
          generalize bunFault ⟨tg, es⟩ = F at *
          clear hf HFa HTw HNx
          go_wp2_with fail
          go_ret2
          have := load_err HS.out HB3.out HE5.out HF0.out
          rw [errV_ne HF0.out] at this
          exact this
      · obtain rfl : j = l.length := by omega
        have HF0 : Hid (loadE l = 0) := Lib.hid (HE.out.trans ((firstN_zero_iff _ _).2 fun q hq => HNo.out q hq))
        have hS := HS.out.keep ST.out.below
        have c0 : wr.cell? ⟨p, 0, none⟩ = some (.int .i64 vs.length) := (hS.box.cell 0).trans rfl
        have f0 := hS.box.frozen 0
        have HSr := Lib.hid hS
        have hw : IntKind.i64.wrap ((vs.length : Int) + 1) = ((vs.length + 1 : Nat) : Int) := by rw [IntKind.wrap_i64]; omega
        have hw2 : wrap64 ((vs.length : Int) + 1) = ((vs.length + 1 : Nat) : Int) := by unfold wrap64; omega
        clear hS HNo hlt
        go_upto_region 20 with fail
        obtain ⟨wA, eA⟩ : ∃ wA, wA = wr.setCell ⟨p, 0, none⟩ (.int .i64 ((vs.length : Int) + 1)) := ⟨_, rfl⟩
        have hpM : M ≠ p := by obtain ⟨n, _, hM⟩ := HSr.out.all; exact owns_ne_blk hM HSr.out.box
        have hq : ((vs.length + 1 : Nat) : Int) = (vs.length : Int) + 1 := by omega
        have FA : Fr wr wA (fun k => k = p ∨ k = M) := by rw [eA]; exact (Fr.refl wr _).setCell (.inl (.inl rfl)) _
        have BA : Blk wA p 54 #[.int .i64 ((vs.length + 1 : Nat) : Int), .map (some M)] := by
          rw [eA, hq]; exact HSr.out.box.set_ 0 (.int .i64 ((vs.length : Int) + 1))
        obtain ⟨n, hn2, hM⟩ := HSr.out.all
        have hMA : OwnsN wA M n (keptV vs) := by rw [eA]; exact owns_fr hM ((Fr.refl wr (· = p)).setCell (.inl rfl) _) hpM
        obtain ⟨w7, hrun, r1, r2⟩ := World.ownsMap.update (H := Nat) (w := wA.drew) (owns_fr (X := fun _ => False) hMA (Fr.of_below (Below.refl _ _).drew _) id) lawI Tryz.underlying52 (by unfold maxLen; omega) (key_num (n := ((vs.length + 1 : Nat) : Int)) (by omega) (by omega)) (val := .pointer (some ⟨w.heap.size + 1, 0, none⟩)) (d := .held (w.heap.size + 1)) (ps := []) rfl
        have F7 : Fr wr w7 (fun k => k = p ∨ k = M) := (FA.trans (Fr.of_below (Below.refl _ wA).drew _)).grown r2 (fun k hk => .inl (.inr (Option.some.inj hk).symm))
        have B7 := blk_grown (show Blk wA.drew p 54 _ from BA) r2 (fun e => hpM (Option.some.inj e).symm)
        have O7 : OwnsN w7 M (n + 1) (keptV vs ++ [(vs.length + 1, w.heap.size + 1)]) := by
          have h := toV_put (keptV vs) (vs.length + 1) (w.heap.size + 1) fun x hx => by
            obtain ⟨i, hi, h1, _⟩ := mem_pickV.1 (show (x.1, x.2) ∈ pickV (live vs.length) 1 vs from hx)
            omega
          rw [h] at r1
          exact r1
        have HI7 := Lib.hid (load_in HS.out hb1 ST.out (HE.out.symm.trans HF0.out) hn2 O7 F7 B7)
        have HC := Lib.hid (clean_any HI7.out (live_more vs ⟨w.heap.size + 1, 0, l⟩))
        have HF7 : Hid (Fr w w7 (StX p M vs)) := Lib.hid ((Fr.of_below ST.out.below _).trans (F7.mono fun k hk => by rcases hk with h | h; exact .inl h; exact .inr (.inl h)))
        have a0 : wA.cell? ⟨p, 0, none⟩ = some (.int .i64 ((vs.length : Int) + 1)) := (BA.cell 0).trans (by rw [hq]; rfl)
        have a1 : wA.cell? ⟨p, 1, none⟩ = some (.map (some M)) := (BA.cell 1).trans rfl
        rw [← eA]
        rw [hq] at hrun
        clear hMA hM FA BA F7 B7 O7 HI7 r1 r2 eA c0 f0 hq hpM hw hw2 HSr
        go_region
        all_goals
          go_wp2_with fail
          refine HC.out.mono ?_
          clear HC
          rintro e w8 ⟨rfl, hS8, hf8⟩
          have HS8 := Lib.hid hS8
          have HF8 : Hid (Fr w w8 (StX p M vs)) := Lib.hid (HF7.out.trans (hf8.mono fun k hk => .inr (.inl hk)))
          have q0 : w8.cell? ⟨p, 0, none⟩ = some (.int .i64 ((vs.length + 1 : Nat) : Int)) := (hS8.box.cell 0).trans (by rw [List.length_append]; rfl)
          clear hS8 hf8
          go_wp2_with fail
          go_ret2
          exact ⟨HF8.out, .inr ⟨HF0.out, _, rfl, rfl, rfl, HS8.out⟩⟩
end Go.Proofs.YtboilcfeegigcaaGreatDoor
