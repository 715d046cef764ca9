/- The walk of linguisterlaw5.FindOwn. -/
import Derived.Test.YtdmjelkjeiinjaaDoorBunRow
import Derived.Test.YtdmjelkjeiinjaaDoorTold
import Derived.Laws.StructEq
set_option linter.unusedSimpArgs false
set_option linter.unusedVariables false
namespace Go.Proofs.YtdmjelkjeiinjaaDoor
open Go.RowKit

set_option maxHeartbeats 1600000 in
set_option maxRecDepth 100000 in
theorem sbundle_same (b : Bun) (u v : Value) (lo hi lo' hi' : Nat) (w : World) (hu : ListOk Enc.ent w lo hi u b.ents) (hv : ListOk Enc.ent w lo' hi' v b.ents) (h1 : hi ≤ w.heap.size) (h2 : hi' ≤ w.heap.size) (hn : b.ents.length ≤ 4398046511104) :
    Calls Tryd.prog 22 #[.agg #[.string b.tag, u], .agg #[.string b.tag, v]] w fun e w' => e = .returned (.bool true) ∧ Below w.heap.size w w' := by
  obtain ⟨bt, l⟩ := b
  dsimp only at hu hv hn ⊢
  obtain ⟨A, c, rfl, _⟩ := hu.form
  obtain ⟨B, d, rfl, _⟩ := hv.form
  have HU : Hid (∀ W, Below w.heap.size w W → ListOk Enc.ent W lo hi (.slice A l.length c) l) := Lib.hid fun W hW => hu.keep Enc.ent_laws (Alk.mono (Alk.of_below hW) (Nat.zero_le _) h1)
  have HV : Hid (∀ W, Below w.heap.size w W → ListOk Enc.ent W lo' hi' (.slice B l.length d) l) := Lib.hid fun W hW => hv.keep Enc.ent_laws (Alk.mono (Alk.of_below hW) (Nat.zero_le _) h2)
  clear hu hv
  have hbt : (bt.toList == bt.toList) = true := by simp
  go_enter Tryd.func22, Tryd.ntmps22
  go_wp2_with fail
  obtain ⟨W2, eW2⟩ : ∃ W2, W2 = (w.alloc (.cells #[.string bt, .slice A l.length c] 46)).alloc (.cells #[.string bt, .slice B l.length d] 46) := ⟨_, rfl⟩
  have mb : Blk W2 w.heap.size 46 #[.string bt, .slice A l.length c] := by rw [eW2]; exact (Blk.new _ _ _).alloc _
  have mr : Blk W2 (w.heap.size + 1) 46 #[.string bt, .slice B l.length d] := by
    rw [eW2]
    have := Blk.new (w.alloc (.cells #[.string bt, .slice A l.length c] 46)) 46 #[.string bt, .slice B l.length d]
    rw [World.size_alloc] at this; exact this
  have hb2 : Below w.heap.size w W2 := by rw [eW2]; exact ((Below.refl _ _).alloc (Nat.le_refl _) _).alloc (by simp) _
  have HMb := Lib.hid mb
  have HMr := Lib.hid mr
  have HB2 := Lib.hid hb2
  rw [← eW2]
  clear eW2 mb mr hb2
  go_loopw [5] (fun i wr => ∃ j : Nat, j ≤ l.length ∧ i = .int .i64 j ∧ ∃ n, wr = W2.drewN n) (fun i _ => l.length - (intOf i).toNat)
  case atStart => exact ⟨0, Nat.zero_le _, rfl, 0, rfl⟩
  case round =>
    obtain ⟨j, hj, rfl, n, rfl⟩ := hrel
    have k1 := HMb.out.cell 1
    have k2 := HMr.out.cell 1
    simp at k1 k2
    by_cases hlt : j < l.length
    · obtain ⟨b1, o1, rfl, p1, p2, x0, x1⟩ := (HU.out _ HB2.out).entAt j hlt
      obtain ⟨b2, o2, rfl, p3, p4, y0, y1⟩ := (HV.out _ HB2.out).entAt j hlt
      generalize l[j] = e at *
      obtain ⟨ky, tx⟩ := e
      dsimp only at x0 x1 y0 y1
      have hk : (ky.toList == ky.toList) = true := by simp
      have ht : (tx.toList == tx.toList) = true := by simp
      go_wp2_with fail
      go_quiet (fail)
      go_wp2
      go_roundw
      case rel => exact ⟨j + 1, by omega, by go_num, _, rfl⟩
      case measure => simp [intOf]; omega
    · go_wp2_with fail
      go_ret
      exact ⟨rfl, below_drawn HB2.out n⟩

theorem bulk_mem {α : Type} (f : α → Nat) {l : List α} {a : α} (h : a ∈ l) : f a ≤ (l.map f).sum := by
  induction l with
  | nil => cases h
  | cons x r ih =>
    rw [List.map_cons, List.sum_cons]
    rcases List.mem_cons.1 h with rfl | h
    · omega
    · have := ih h; omega
def oneBun : Bun := ⟨⟨#[101, 110]⟩, [⟨⟨#[97]⟩, ⟨#[98]⟩⟩]⟩
theorem one_found : ((findIn [oneBun] ⟨#[101, 110]⟩ ⟨#[97]⟩).err, (findIn [oneBun] ⟨#[101, 110]⟩ ⟨#[97]⟩).text.toList) = (0, [98]) := by decide +kernel
theorem ListOk.bunAt {w : World} {lo hi : Nat} {A : Option Addr} {n c : Nat} {l : List Bun} (h : ListOk Enc.bun w lo hi (.slice A n c) l) (i : Nat) (hl : i < l.length) :
    ∃ b o V, A = some ⟨b, o, none⟩ ∧ lo ≤ b ∧ b < hi ∧ w.cell? ⟨b, o + i * 2, none⟩ = some (.string l[i].tag) ∧ w.cell? ⟨b, o + i * 2 + 1, none⟩ = some V ∧ ListOk Enc.ent w lo hi V l[i].ents := by
  obtain ⟨A', c', hv, _, hi⟩ := h
  obtain ⟨b, o, cs, hA, h1, h2, h3, V, h4, h5⟩ := hi i hl
  injection hv with hv1
  refine ⟨b, o, V, hv1.trans hA, h1, h2, ?_, ?_, h5⟩
  · exact h3 0 _ (by rw [h4]; rfl)
  · exact h3 1 _ (by rw [h4]; rfl)

set_option maxHeartbeats 6400000 in
set_option maxRecDepth 100000 in
theorem findOwn_any (l : List Bun) (vl : Value) (tag key : ByteArray) (w : World) (h : BunsIn w vl l) (hn : tag.size < 4294967281) (hm : MaxVar w) (hE : ErrVar w) :
    Calls Tryd.prog 6 #[vl, .string tag, .string key] w fun e w' => e = .returned (.bool true) ∧ Below w.heap.size w w' := by
  have HL := Lib.hid h
  have HM := Lib.hid hm
  have HEv := Lib.hid hE
  have hlen : l.length * 40 ≤ 140737488355328 := h.len
  obtain ⟨lo, hlo⟩ := h.lo
  obtain ⟨A, c, rfl, hlc⟩ := hlo.form
  obtain ⟨R, hR⟩ : ∃ R, R = findIn l tag key := ⟨_, rfl⟩
  have HIn : Hid (∀ W v, Below w.heap.size w W → BunsIn W v l → Calls Tryd.prog 15 #[v, .string tag, .string key] W fun e w' => Below W.heap.size W w' ∧ e = .returned (.tuple #[.int .i64 R.at_, .string R.text, errV R.err])) := Lib.hid fun W v hW hv => by
    rw [hR]; exact find_any l v tag key W hv hn (hm.below hW)
  clear h hm hE hlo hR
  go_enter Tryd.func6, Tryd.ntmps6
  go_wp2_with fail
  go_loopw [7, 8] (fun o i wr => ∃ (j : Nat) (ps : List (Bun × Value)), j ≤ l.length ∧ i = .int .i64 j ∧ ps.map Prod.fst = l.take j ∧ RowedB w.heap.size wr o ps ∧ Below w.heap.size w wr) (fun _ i _ => l.length - (intOf i).toNat)
  case atStart => exact ⟨0, [], Nat.zero_le _, rfl, rfl, RowedB.nil, Below.refl _ _⟩
  case round =>
    obtain ⟨j, ps, hj, rfl, hsum, hrow, hbr⟩ := hrel
    obtain ⟨B2, capo, ho2, hco⟩ := own_slice hrow.own
    subst ho2
    have hpl : ps.length = j := by
      have := congrArg List.length hsum
      simpa [Nat.min_eq_left hj] using this
    have HSum := Lib.hid hsum
    have HRow := Lib.hid hrow
    have HBr := Lib.hid hbr
    have hbs := hbr.size
    clear hsum hrow hbr
    subst hpl
    by_cases hlt : ps.length < l.length
    · obtain ⟨b, o, V, rfl, hbl, x0, x1, hin⟩ := (HL.out.below HBr.out).bunAt ps.length hlt
      have htk : Hid (l.take (ps.length + 1) = l.take ps.length ++ [l[ps.length]]) := Lib.hid (by rw [List.take_add_one, List.getElem?_eq_getElem hlt]; rfl)
      obtain ⟨elo, hel⟩ := hin.lo
      have HBu := Lib.hid (bundle_any l[ps.length] V wr elo hel hin.len)
      generalize l[ps.length] = B at *
      obtain ⟨A4, c4, hV, _⟩ := hel.form
      subst hV
      obtain ⟨bt, bl⟩ := B
      dsimp only at x0 x1 HBu
      clear hin hel
      go_wp2_with fail
      refine HBu.out.mono ?_
      clear HBu
      rintro e w1 ⟨hb1, v', rfl, hown⟩
      have HB1 := Lib.hid (HBr.out.trans (hb1.mono hbs))
      have hs1 := HB1.out.size
      obtain ⟨A5, c5, rfl, _⟩ := own_slice hown
      have hr1 := (HRow.out.below hb1 (Nat.le_refl _)).below (w' := w1.alloc (.cells #[.string bt, .slice A5 bl.length c5] 46)) (B := w1.heap.size) ((Below.refl _ _).alloc (Nat.le_refl _) _) (Nat.le_refl _)
      have hq1 : EntRow w.heap.size (w1.alloc (.cells #[.string bt, .slice A5 bl.length c5] 46)) (⟨bt, bl⟩, .slice A5 bl.length c5) := own_mono (own_keep hown fun g _ hg => Below.heap_alloc _ _ _ hg) (by omega)
      have hnX : ∀ q u, ([Value.string bt, .slice A5 bl.length c5] : List Value)[q]? = some u → (w1.alloc (.cells #[.string bt, .slice A5 bl.length c5] 46)).cell? ⟨w1.heap.size, 0 + q, none⟩ = some u := fun q u hq => by
        rw [Nat.zero_add, (Blk.new w1 46 #[.string bt, .slice A5 bl.length c5]).cell q]; simpa using hq
      have HR1 := Lib.hid hr1
      have HQ1 := Lib.hid hq1
      have HnX := Lib.hid hnX
      clear hb1 hown hr1 hq1 hnX x0 x1
      go_wp2_with (at_builtin; refine wpList_append_any rfl _ _ 43 rfl w.heap.size 46 Tryd.underlying43 info_bun rfl (by decide) (flatB ps) rfl HR1.out.own [.string bt, .slice A5 bl.length c5] rfl rfl (.inr ⟨_, _, rfl, HnX.out⟩) (by simp [Value.oneCell']) (by unfold maxLen; omega) (by omega) (by simp; omega) ?_)
      intro v3 w3 hown3 hgrow3 _
      have HR3 := Lib.hid (RowedB.push HR1.out HQ1.out hgrow3 hown3)
      have HB3 := Lib.hid ((HB1.out.alloc hs1 _).grown hgrow3 (by simp; omega) (fun k hk => (own_lt HR1.out.own hk).1))
      have HS3 : Hid ((ps ++ [((⟨bt, bl⟩ : Bun), Value.slice A5 bl.length c5)]).map Prod.fst = l.take (ps.length + 1)) := Lib.hid (by rw [htk.out, List.map_append, HSum.out]; rfl)
      clear hown3 hgrow3 HR1 HQ1 HnX htk
      go_wp2_with fail
      exact ⟨⟨ps.length + 1, _, by omega, by go_num, HS3.out, HR3.out, HB3.out⟩, by simp [intOf]; omega⟩
    · have hps : ps.map Prod.fst = l := by rw [HSum.out, List.take_of_length_le (by omega)]
      have hll : ps.length = l.length := by omega
      have hol := HRow.out.list (lo := 0) (hi := wr.heap.size) (Nat.zero_le _) (Nat.le_refl _)
      rw [hps] at hol
      have hIn := HIn.out wr (.slice B2 ps.length capo) HBr.out ⟨⟨_, hol⟩, HL.out.len, HL.out.each⟩
      have HIn1 := Lib.hid hIn
      have HOl := Lib.hid hol
      rw [hll] at HIn1 HOl ⊢
      clear hol hIn HSum HRow hps
      obtain ⟨wo, rfl⟩ : ∃ wo : World, wo = wr := ⟨_, rfl⟩
      go_wp2_with fail
      refine HIn1.out.mono ?_
      clear HIn1
      rintro e w1 ⟨hb1, rfl⟩
      have HB1 := Lib.hid hb1
      have hs1 := hb1.size
      clear hb1
      obtain ⟨R1, R2, R3⟩ := R
      dsimp only at HIn ⊢
      go_wp2_with fail
      go_loopw [12, 13] (fun i _ wr => ∃ k : Nat, k ≤ l.length ∧ i = .int .i64 k ∧ Below w1.heap.size w1 wr) (fun i _ _ => l.length - (intOf i).toNat)
      case atStart => exact ⟨0, Nat.zero_le _, rfl, Below.refl _ _⟩
      case round =>
        obtain ⟨k, hk, rfl, hbr2⟩ := hrel
        have HBr2 := Lib.hid hbr2
        have hbs2 := hbr2.size
        clear hbr2
        by_cases hkl : k < l.length
        · have hbow : Below wo.heap.size wo wr := HB1.out.trans (HBr2.out.mono hs1)
          obtain ⟨b1, o1, V1, rfl, _, p1, x0, x1, l1⟩ := (HOl.out.below Enc.bun_laws hbow).bunAt k hkl
          obtain ⟨b2, o2, V2, rfl, p2, y0, y1, hin⟩ := ((HL.out.below HBr.out).below hbow).bunAt k hkl
          obtain ⟨elo, l2⟩ := hin.lo
          have hbn := hin.len
          clear hin
          generalize l[k] = B at *
          obtain ⟨A1, c1, rfl, _⟩ := l1.form
          obtain ⟨A2, c2, rfl, _⟩ := l2.form
          have HSb : Hid (∀ W, Below wr.heap.size wr W → Calls Tryd.prog 22 #[.agg #[.string B.tag, .slice A1 B.ents.length c1], .agg #[.string B.tag, .slice A2 B.ents.length c2]] W fun e w' => e = .returned (.bool true) ∧ Below W.heap.size W w') := Lib.hid fun W hW =>
            sbundle_same B _ _ 0 wo.heap.size elo wr.heap.size W (l1.keep Enc.ent_laws (Alk.mono (Alk.of_below hW) (Nat.zero_le _) (by omega))) (l2.keep Enc.ent_laws (Alk.mono (Alk.of_below hW) (Nat.zero_le _) (Nat.le_refl _))) (by have := hW.size; omega) hW.size hbn
          obtain ⟨bt, bl⟩ := B
          dsimp only at x0 x1 y0 y1 HSb
          have hb1l : b1 < wr.heap.size := by omega
          clear l1 l2 hbow
          go_wp2_with fail
          go_region_held3 (fun w' => w'.cell? ⟨b1, o1 + k * 2, none⟩ = some (.string bt) ∧ w'.cell? ⟨b1, o1 + k * 2 + 1, none⟩ = some (.slice A1 bl.length c1) ∧ w'.cell? ⟨b2, o2 + k * 2, none⟩ = some (.string bt) ∧ w'.cell? ⟨b2, o2 + k * 2 + 1, none⟩ = some (.slice A2 bl.length c2)) (first | exact ⟨x0, x1, y0, y1⟩ | exact hS5)
            (first
              | (go_at_call 22
                 refine (HSb.out _ (Below.refl _ _).drew).mono ?_
                 rintro e w5 ⟨rfl, hb5⟩
                 have hS5 : w5.cell? ⟨b1, o1 + k * 2, none⟩ = some (.string bt) ∧ w5.cell? ⟨b1, o1 + k * 2 + 1, none⟩ = some (.slice A1 bl.length c1) ∧ w5.cell? ⟨b2, o2 + k * 2, none⟩ = some (.string bt) ∧ w5.cell? ⟨b2, o2 + k * 2 + 1, none⟩ = some (.slice A2 bl.length c2) := ⟨(hb5.cell (p := ⟨b1, o1 + k * 2, none⟩) hb1l).trans x0, (hb5.cell (p := ⟨b1, o1 + k * 2 + 1, none⟩) hb1l).trans x1, (hb5.cell (p := ⟨b2, o2 + k * 2, none⟩) p2).trans y0, (hb5.cell (p := ⟨b2, o2 + k * 2 + 1, none⟩) p2).trans y1⟩))
          have HB5 := Lib.hid (HBr2.out.trans ((below_undrew hb5).mono hbs2))
          clear hS5 x0 x1 y0 y1 hb5
          go_wp2_with fail
          exact ⟨⟨k + 1, by omega, by go_num, HB5.out⟩, by simp [intOf]; omega⟩
        · have HBw := Lib.hid (HBr.out.trans ((HB1.out.trans (HBr2.out.mono hs1)).mono hbs))
          have HIn2 := Lib.hid (HIn.out wr _ HBw.out (HL.out.below HBw.out))
          go_wp2_with fail
          refine HIn2.out.mono ?_
          clear HIn2
          rintro e w6 ⟨hb6, rfl⟩
          have HBw6 := Lib.hid (HBw.out.trans (hb6.mono HBw.out.size))
          have hs6 := HBw6.out.size
          clear hb6
          have HTo := Lib.hid (stold_any R1 R1 w6 (HEv.out.below HBw6.out HEv.out.lt))
          have hrr : Hid (decide (R1 = R1) = true) := Lib.hid (by simp)
          rw [hrr.out] at HTo
          generalize errV R1 = E at *
          go_wp2_with fail
          refine HTo.out.mono ?_
          clear HTo
          rintro e w7 ⟨rfl, hb7⟩
          have HBw7 := Lib.hid (HBw6.out.trans (hb7.mono hs6))
          have hs7 := HBw7.out.size
          clear hb7
          go_wp2_with fail
          obtain ⟨W9, eW9⟩ : ∃ W9, W9 = (w7.alloc (.cells #[.string ⟨#[97]⟩, .string ⟨#[98]⟩] 60)).alloc (.cells #[.string ⟨#[101, 110]⟩, .slice (some ⟨w7.heap.size, 0, none⟩) 1 1] 46) := ⟨_, rfl⟩
          have me : Blk W9 w7.heap.size 60 #[.string ⟨#[97]⟩, .string ⟨#[98]⟩] := by rw [eW9]; exact (Blk.new _ _ _).alloc _
          have mb : Blk W9 (w7.heap.size + 1) 46 #[.string ⟨#[101, 110]⟩, .slice (some ⟨w7.heap.size, 0, none⟩) 1 1] := by
            rw [eW9]
            have := Blk.new (w7.alloc (.cells #[.string ⟨#[97]⟩, .string ⟨#[98]⟩] 60)) 46 #[.string ⟨#[101, 110]⟩, .slice (some ⟨w7.heap.size, 0, none⟩) 1 1]
            rw [World.size_alloc] at this; exact this
          have hb9 : Below w.heap.size w W9 := by rw [eW9]; exact (HBw7.out.alloc hs7 _).alloc (by simp; omega) _
          have hone : BunsIn W9 (.slice (some ⟨w7.heap.size + 1, 0, none⟩) 1 1) [oneBun] :=
            ⟨⟨0, some ⟨w7.heap.size + 1, 0, none⟩, 1, rfl, Nat.le_refl _, fun i hi => by
              have hi0 : i = 0 := by simpa using hi
              subst hi0
              refine ⟨w7.heap.size + 1, 0, [.string ⟨#[101, 110]⟩, .slice (some ⟨w7.heap.size, 0, none⟩) 1 1], rfl, Nat.zero_le _, mb.lt, fun j u hj => ?_, .slice (some ⟨w7.heap.size, 0, none⟩) 1 1, rfl, some ⟨w7.heap.size, 0, none⟩, 1, rfl, Nat.le_refl _, fun i2 hi2 => ?_⟩
              · rw [show 0 + 0 * Enc.bun.sz + j = j from by omega, mb.cell j]; simpa using hj
              · have hi20 : i2 = 0 := by simpa [oneBun] using hi2
                subst hi20
                refine ⟨w7.heap.size, 0, [.string ⟨#[97]⟩, .string ⟨#[98]⟩], rfl, Nat.zero_le _, me.lt, fun j u hj => ?_, rfl⟩
                rw [show 0 + 0 * Enc.ent.sz + j = j from by omega, me.cell j]; simpa using hj⟩, by decide, fun b hb => by
              rw [List.mem_singleton.1 hb]
              exact ⟨by decide +kernel, by decide +kernel, fun e he => by
                rw [List.mem_singleton.1 he]; exact ⟨by decide +kernel, by decide +kernel⟩⟩⟩
          have hF := find_any [oneBun] _ ⟨#[101, 110]⟩ ⟨#[97]⟩ W9 hone (by decide +kernel) (HM.out.below hb9)
          have h1 := one_found
          generalize findIn [oneBun] ⟨#[101, 110]⟩ ⟨#[97]⟩ = F at hF h1
          obtain ⟨F1, F2, F3⟩ := F
          injection h1 with h2 h3
          dsimp only at h2 h3 hF
          subst h2
          rw [errV_zero] at hF
          have HF := Lib.hid hF
          have HB9 := Lib.hid hb9
          have hs3 : (R3.toList == R3.toList) = true := by simp
          rw [← eW9]
          clear hF hb9 hone me mb eW9
          refine HF.out.mono ?_
          clear HF
          rintro e w10 ⟨hb10, rfl⟩
          have HBx := Lib.hid (HB9.out.trans (hb10.mono HB9.out.size))
          have hF3 : (F3.toList == [98]) = true := by rw [h3]; rfl
          clear hb10 h3
          go_wp2_with fail
          go_ret
          exact ⟨rfl, HBx.out⟩
end Go.Proofs.YtdmjelkjeiinjaaDoor
