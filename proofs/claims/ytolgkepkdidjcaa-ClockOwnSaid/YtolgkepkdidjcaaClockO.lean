/- ClockOwn's walk. -/
import Derived.Test.YtolgkepkdidjcaaClockL
namespace Go.Proofs.Ytolgkepkdidjcaa
open Go.RowKit

theorem put_mem {ps : List Plc} (h : Dist ps) (hand : Nat) (k v : ByteArray) (hh : hand < ps.length) : k ∈ keysOf (putR ps hand k v).ps := by
  have := put_there h hand k v hh
  unfold getV at this
  cases hf : (putR ps hand k v).ps.findIdx? (hit k) with
  | none => rw [hf] at this; cases this
  | some i =>
    obtain ⟨a, b⟩ := (hit_iff k _).1 (findIdx_yes hf)
    exact (mem_keysOf _ _).2 ⟨i, findIdx_lt hf, a, b⟩
theorem keysOf_zero (n : Nat) : keysOf (List.replicate n Plc.zero) = [] := by
  rw [List.eq_nil_iff_forall_not_mem]
  intro x hx
  obtain ⟨i, hi, hu, _⟩ := (mem_keysOf _ _).1 hx
  rw [List.getElem_replicate] at hu
  cases hu

/-- The row of a slice is written at its k-th place: it is a row still; nothing else has turned. -/
def RowAt (w : World) (g n : Nat) (t : TypeId) : Prop := ∃ cur, w.heap[g]? = some (.cells cur t (0, 0)) ∧ n ≤ cur.size
theorem RowAt.of_own {w : World} {base n g cap : Nat} {e : TypeId} {xs : List Value} (h : w.ownsRow base e 1 (.slice (some ⟨g, 0, none⟩) n cap) n xs) : RowAt w g n e := by
  rcases h.2 with ⟨h1, _⟩ | ⟨g', cap', cur, hv, _, hh, hn, _, hcs, _⟩
  · cases h1
  · injection hv with hv
    injection hv with hv
    injection hv with hv
    subst hv
    exact ⟨cur, hh, by omega⟩
theorem RowAt.cell {w : World} {g n : Nat} {t : TypeId} (h : RowAt w g n t) {k : Nat} (hk : k < n) : (∃ u, w.cell? ⟨g, k, none⟩ = some u) ∧ w.frozen? ⟨g, k, none⟩ = false := by
  obtain ⟨cur, hh, hn⟩ := h
  exact ⟨⟨cur[k]'(by omega), by rw [Blk.cell (t := t) hh]; exact Array.getElem?_eq_getElem (by omega)⟩, Blk.frozen (t := t) hh k⟩
theorem RowAt.set {w : World} {g n : Nat} {t : TypeId} (h : RowAt w g n t) (k : Nat) (u : Value) : RowAt (w.setCell ⟨g, k, none⟩ u) g n t := by
  obtain ⟨cur, hh, hn⟩ := h
  exact ⟨_, Blk.set_ (t := t) hh k u, by simpa using hn⟩
theorem RowAt.alloc {w : World} {g n : Nat} {t : TypeId} (h : RowAt w g n t) (o : Obj) : RowAt (w.alloc o) g n t := by
  obtain ⟨cur, hh, hn⟩ := h
  exact ⟨_, Blk.alloc (t := t) hh o, hn⟩
theorem RowAt.fr {w w' : World} {g n : Nat} {t : TypeId} {S : Nat → Prop} (h : RowAt w g n t) (k : Fr w w' S) (hs : ¬ S g) : RowAt w' g n t := by
  obtain ⟨cur, hh, hn⟩ := h
  exact ⟨cur, Blk.fr (t := t) hh k hs, hn⟩
theorem RowAt.grown {w w' : World} {g n : Nat} {t : TypeId} {row : Option Nat} (h : RowAt w g n t) (k : w.grownBy w' row) (hs : some g ≠ row) : RowAt w' g n t := by
  obtain ⟨cur, hh, hn⟩ := h
  exact ⟨cur, (k.block g (Blk.lt (t := t) hh) hs).trans hh, hn⟩
theorem Fr.of_grown {w w' : World} {row : Option Nat} {S : Nat → Prop} (h : w.grownBy w' row) (hs : ∀ k, row = some k → S k) : Fr w w' S :=
  ⟨h.os, h.tape, h.output, h.size, fun k hk hn => h.block k hk fun e => hn (hs k e.symm)⟩

set_option maxRecDepth 100000 in
set_option maxHeartbeats 1600000 in
theorem clockOwn_yes (n : Nat) (kv : Value) (keys : List ByteArray) (x : ByteArray) (w : World) (hk : ListOk Enc.str w 0 w.heap.size kv keys)
    (hkl : keys.length ≤ 140737488355328) (h1 : 1 ≤ n) (h2 : n ≤ 50) :
    Calls Try.prog 5 #[.int .i64 n, kv, .string x] w fun e w' => e = .returned (.bool true) ∧ Below w.heap.size w w' := by
  obtain ⟨KA, kc, rfl, hkc⟩ := hk.form
  obtain ⟨i0, hi, hz0, hz1, hz2⟩ := info_parts info_string
  go_enter Try.func5, Try.ntmps5
  go_wp2_with fail
  refine (new_yes n _ h1 h2).mono ?_
  rintro e w1 ⟨ac, ap, rfl, hac, hap, hca, hb1⟩
  go_wp2_with fail
  refine (new_yes n _ h1 h2).mono ?_
  rintro e w2 ⟨bc, bp, rfl, hbc, hbp, hcb, hb2⟩
  have hcA := hca.below hb2 hca.lt.1 hca.lt.2
  have hB2 : Below w.heap.size w w2 := hb1.trans (hb2.mono hb1.size)
  have hla := hca.lt
  have hlb := hb1.size
  have hbc' : w.heap.size ≤ bc := by omega
  have hbp' : w.heap.size ≤ bp := by omega
  have d1 : ac < bc := by omega
  have d2 : ac < bp := by omega
  have d3 : ap < bc := by omega
  have d4 : ap < bp := by omega
  have G0 : Goes w ac ap n (List.replicate n Plc.zero) 0 w2 := ⟨by simp, by omega, hcA, Dist.zero n, hB2⟩
  clear hb1 hb2 hca hB2 hbc hbp hla hlb hcA
  go_wp2_with fail
  go_quiet (fail)
  go_wp2_with fail
  go_loopw [11] (fun i wr => ∃ (j : Nat) (ps : List Plc) (hand : Nat), i = .int .i64 j ∧ j ≤ keys.length ∧ Goes w ac ap n ps hand wr ∧ Cach wr bc bp (List.replicate n Plc.zero) 0) (fun i _ => keys.length - (intOf i).toNat)
  case atStart => exact ⟨0, _, _, rfl, Nat.zero_le _, G0.drewN _, hcb.drewN _⟩
  case round =>
    obtain ⟨j, ps, hand, rfl, hj1, G, hcbr⟩ := hrel
    clear G0 hcb
    obtain ⟨wo, rfl⟩ : ∃ wo : World, wo = wr := ⟨_, rfl⟩
    by_cases hlt : j < keys.length
    · obtain ⟨kb, ko, rfl, _, hkb, hkcell⟩ := hk.strAt j hlt
      have kcr : wo.cell? ⟨kb, ko + j, none⟩ = some (.string keys[j]) := by rw [G.below.cell (by exact hkb)]; exact hkcell
      clear hkcell
      obtain ⟨R, hR⟩ : ∃ R, R = putR ps hand keys[j] ⟨#[118]⟩ := ⟨_, rfl⟩
      have HP : Hid (Calls Try.prog 8 #[.pointer (some ⟨ac, 0, none⟩), .string keys[j], .string ⟨#[118]⟩] wo fun e w' => e = .returned (.tuple #[.string (R.gone.getD ByteArray.empty), .bool R.gone.isSome]) ∧ Cach w' ac ap R.ps R.hand ∧ Fr wo w' (CS ac ap)) := by
        rw [hR]
        exact put_any ac ap ps hand _ _ wo G.ca (by rw [G.len]; exact h2) (by rw [G.len]; exact G.lt)
      have HR := Lib.hid hR
      clear hR
      go_wp2_with fail
      refine HP.out.mono ?_
      rintro e w3 ⟨rfl, hc3, hf3⟩
      have hRl : R.ps.length = n := by rw [HR.out, putR_len, G.len]
      have HK3 := Lib.hid (keys_any ac ap R.ps R.hand w3 hc3 (by omega))
      have HRL := Lib.hid hRl
      clear hRl
      go_wp2_with fail
      refine HK3.out.mono ?_
      rintro e w4 ⟨v1, rfl, hown1, hb4⟩
      have hmem : 0 < (keysOf R.ps).length := by
        have : keys[j] ∈ keysOf R.ps := by rw [HR.out]; exact put_mem G.dist hand _ _ (by rw [G.len]; exact G.lt)
        exact List.length_pos_of_mem this
      obtain ⟨g1, c1, rfl, hg1, hg1'⟩ := own_form hown1 hmem
      have hkl := keysOf_len R.ps
      have hcells := hown1.cells (g := g1) rfl
      have HC := Lib.hid hcells
      have hkl50 : (keysOf R.ps).length ≤ 50 := by have := HRL.out; omega
      clear hkl hcells
      go_wp2_with (first | (at_builtin; refine wpList_append_own _ rfl _ _ 33 rfl w4.heap.size 9 i0 (.string ByteArray.empty) 1 16 Try.underlying33 hi hz0 hz1 hz2 rfl (by decide) (.slice (some ⟨w4.heap.size, 0, none⟩) 0 0) 0 [] rfl ?h0 ⟨g1, 0, none⟩ (keysOf R.ps).length c1 ((keysOf R.ps).map .string) rfl (by simp) ?h1 ?h2 ?h3 ?h4 ?h5 ?_))
      case h0 => exact World.ownsRow_made w4 #[] 0 (Nat.le_refl _) (by decide) rfl
      case h1 => exact fun q u hq => (World.cell?_alloc_lt w4 _ _ (by rw [block_of_add]; exact hg1')).trans (HC.out q u hq)
      case h2 =>
        intro u hu
        obtain ⟨y, _, rfl⟩ := List.mem_map.1 hu
        rfl
      case h3 => unfold maxLen; omega
      case h4 => omega
      case h5 => simp
      intro v2 w5 hown2 hgrow _
      obtain ⟨g2, c2, rfl, hg2, hg2'⟩ := own_form hown2 hmem
      have hne : g1 ≠ g2 := by omega
      have hz := hgrow.size
      simp only [World.size_alloc] at hz
      have hr1 : RowAt w5 g1 (keysOf R.ps).length 9 := ((RowAt.of_own hown1).alloc _).grown hgrow (by simp [Value.ownBlock]; omega)
      have hs3 := hf3.size
      have hs4 := hb4.size
      have hGz := G.below.size
      have hcaL := G.ca.lt
      -- what has turned since the round began
      have hf35 : Fr w3 w5 (fun _ => False) := ((Fr.of_below hb4 _).alloc _).grown hgrow (fun k hk => .inr (by simp [Value.ownBlock] at hk; omega))
      clear hgrow
      go_wp2_with fail
      go_loopw [14] (fun i w' => ∃ (q : Nat), i = .int .i64 q ∧ q ≤ (keysOf R.ps).length ∧ Fr w5 w' (fun b => b = g1) ∧ RowAt w' g1 (keysOf R.ps).length 9) (fun i _ => (keysOf R.ps).length - (intOf i).toNat)
      case atStart => exact ⟨0, rfl, Nat.zero_le _, Fr.refl _ _, hr1⟩
      case round =>
        obtain ⟨w6, rfl⟩ : ∃ w6 : World, w6 = wr := ⟨_, rfl⟩
        obtain ⟨q, rfl, hq, hfr, hrow⟩ := hrel
        by_cases hql : q < (keysOf R.ps).length
        · obtain ⟨⟨u0, hu0⟩, hfz⟩ := hrow.cell hql
          go_wp2
          go_roundw
          case rel => exact ⟨q + 1, by go_num, by omega, hfr.setCell (.inl rfl) _, hrow.set _ _⟩
          case measure => simp [intOf]; omega
        · have hf36 : Fr w3 w6 (fun _ => False) := hf35.and hfr (fun k hk => .inr (by subst hk; exact hg1))
          have hf6 : Fr wo w6 (CS ac ap) := hf3.and hf36 (fun k hk => hk.elim)
          have hca6 := hc3.fr hf36 id id
          have hcb6 := hcbr.fr hf6 (by rintro (h | h) <;> omega) (by rintro (h | h) <;> omega)
          have hB6 : Below w.heap.size w w6 := Fr.below G.below hf6 hGz (by rintro k (h | h) <;> omega)
          have hs6 := hfr.size
          have HK6 := Lib.hid (keys_any ac ap R.ps R.hand w6 hca6 (by have := HRL.out; omega))
          have hv2' : ListOk Enc.str w6 w4.heap.size w5.heap.size (.slice (some ⟨g2, 0, none⟩) (keysOf R.ps).length c2) (keysOf R.ps) := (ListOk.strs_of_own hown2 (Nat.le_refl _) (Nat.le_refl _)).keep Enc.str_laws
            (Alk.of_fr hfr (Nat.le_refl _) (by rintro k h1 h2 h; omega))
          have hd2 : Dist R.ps := by rw [HR.out]; exact G.dist.put hand _ _ (by rw [G.len]; exact G.lt)
          have HD := Lib.hid hd2
          have hRh : R.hand < n := by have := putR_hand ps hand keys[j] ⟨#[118]⟩ (by rw [G.len]; exact G.lt); rw [HR.out]; rw [G.len] at this; exact this
          clear hd2 hf35 hfr hrow hr1 hf36
          go_wp2_with fail
          refine HK6.out.mono ?_
          rintro e w7 ⟨v3, rfl, hown3, hb7⟩
          have hs7 := hb7.size
          have HT := Lib.hid (texts_any _ _ _ _ _ _ _ _ w7 (ListOk.strs_of_own hown3 (Nat.le_refl _) (Nat.le_refl _)) (hv2'.keep Enc.str_laws ((Alk.of_below hb7).mono (Nat.zero_le _) hs6)) (by omega) (by omega))
          go_wp2_with fail
          refine HT.out.mono ?_
          rintro e w8 ⟨rfl, nd, rfl⟩
          have HKB := keys_any bc bp (List.replicate n Plc.zero) 0 (w7.drewN nd) ((hcb6.below hb7 hcb6.lt.1 hcb6.lt.2).drewN nd) (by simp; omega)
          rw [keysOf_zero] at HKB
          have HKB' := Lib.hid HKB
          clear HKB
          have hl0 : (((keysOf R.ps).length : Int) == 0) = false := beq_eq_false_iff_ne.2 (by omega)
          simp only [decide_true]
          go_wp2_with fail
          refine HKB'.out.mono ?_
          rintro e w9 ⟨v4, rfl, hown4, hb9⟩
          obtain ⟨A4, c4, hv4, _⟩ := (ListOk.strs_of_own (l := []) hown4 (Nat.le_refl _) (Nat.le_refl _)).form
          subst hv4
          have G9 : Goes w ac ap n R.ps R.hand w9 := ⟨HRL.out, hRh, ((hca6.below hb7 hca6.lt.1 hca6.lt.2).drewN nd).below hb9 (by show _ < w7.heap.size; have := hca6.lt; omega) (by show _ < w7.heap.size; have := hca6.lt; omega), HD.out, (below_drewN (hB6.trans (hb7.mono (by omega))) nd).trans (hb9.mono (by show _ ≤ w7.heap.size; omega))⟩
          have hcb9 : Cach w9 bc bp (List.replicate n Plc.zero) 0 := ((hcb6.below hb7 hcb6.lt.1 hcb6.lt.2).drewN nd).below hb9 (by show _ < w7.heap.size; have := hcb6.lt; omega) (by show _ < w7.heap.size; have := hcb6.lt; omega)
          simp only [List.length_nil]
          go_wp2_with fail
          go_roundw
          case rel => exact ⟨j + 1, _, _, by go_num, by omega, G9, hcb9⟩
          case measure => simp [intOf]; omega
    · have HPb := put_any bc bp (List.replicate n Plc.zero) 0 ⟨#[107]⟩ ⟨#[118]⟩ wo hcbr (by simp; omega) (by simp; omega)
      have e1 := gone_some (List.replicate n Plc.zero) 0 ⟨#[107]⟩ ⟨#[118]⟩
      have e2 : ((keysOf (List.replicate n Plc.zero)).length = (List.replicate n Plc.zero).length) = False := by rw [keysOf_zero]; simp; omega
      simp only [e2, decide_false, Bool.false_and] at e1
      have e3 := put_there (Dist.zero n) 0 ⟨#[107]⟩ ⟨#[118]⟩ (by simp; omega)
      have e4 := putR_len (List.replicate n Plc.zero) 0 ⟨#[107]⟩ ⟨#[118]⟩
      rw [List.length_replicate] at e4
      generalize putR (List.replicate n Plc.zero) 0 ⟨#[107]⟩ ⟨#[118]⟩ = R at HPb e1 e3 e4
      rw [e1] at HPb
      have HGb : Hid (∀ W, Cach W bc bp R.ps R.hand → Calls Try.prog 10 #[.pointer (some ⟨bc, 0, none⟩), .string ⟨#[107]⟩] W fun e w' => e = .returned (.tuple #[.string ⟨#[118]⟩, .bool true]) ∧ Fr W w' (CS bc bp)) := by
        intro W hW
        have h := get_any bc bp R.ps R.hand ⟨#[107]⟩ W hW (by omega)
        rw [e3] at h
        exact h.mono fun e w' ⟨h1, _, h2⟩ => ⟨h1, h2⟩
      have HPB := Lib.hid HPb
      clear HPb e1 e2 e3 e4
      go_wp2_with fail
      refine HPB.out.mono ?_
      rintro e w3 ⟨rfl, hc3, hf3⟩
      go_wp2_with fail
      refine (HGb.out _ hc3).mono ?_
      rintro e w4 ⟨rfl, hf4⟩
      go_wp2_with fail
      go_ret
      exact ⟨rfl, (hf3.trans hf4).below G.below G.below.size (by rintro k (h | h) <;> omega)⟩

set_option maxHeartbeats 400000 in
theorem clockOwn_no (n : Int) (kv : Value) (x : ByteArray) (w : World) (h : n < 1 ∨ 50 < n) :
    Calls Try.prog 5 #[.int .i64 n, kv, .string x] w fun e w' => e = .returned (.bool true) ∧ Below w.heap.size w w' := by
  go_enter Try.func5, Try.ntmps5
  go_wp2_with fail
  refine (new_no n _ h).mono ?_
  rintro e w1 ⟨rfl, rfl⟩
  go_wp2_with fail
  refine (new_no n _ h).mono ?_
  rintro e w1 ⟨rfl, rfl⟩
  go_wp2_with fail
  go_quiet (fail)
  go_wp2_with fail
  go_ret
  exact ⟨rfl, below_drewN (Below.refl _ _) _⟩
end Go.Proofs.Ytolgkepkdidjcaa
