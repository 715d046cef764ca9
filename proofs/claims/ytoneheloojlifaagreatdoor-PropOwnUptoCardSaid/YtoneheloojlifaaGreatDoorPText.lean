/- A text's builder, with the block of its bytes named: what a text that is written leaves as it was. -/
import Derived.Test.YtoneheloojlifaaGreatDoorBld
import Derived.Test.YtoneheloojlifaaGreatDoorReplO
import Derived.Test.YtoneheloojlifaaGreatDoorReplT
namespace Go.Proofs.YtoneheloojlifaaGreatDoor
open Go.RowKit

/-- where a row of bytes lies behind a text that is appended -/
theorem append_str_lies {P : Program} (w : World) (base : Nat) (t u ty e : TypeId) (i : TypeInfo) (ht : P.underlying t = some (.slice e)) (hu : P.underlying u = some .string) (hi : P.info? e = some i) (hz : i.zero = some (.int .u8 0))
    (hsize : i.size = 1) (hby : i.bytes = 1) (v : Value) (n : Nat) (xs : List Value) (hown : w.ownsRow base e 1 v n xs) (s : ByteArray)
    (h63 : n + s.size ≤ maxLen) (hbytes : n + s.size ≤ 140737488355328) (hbase : base ≤ w.heap.size) :
    ∃ v' w', (Builtin.append_ #[t, u] ty #[v, .string s]).run P w = .ok v' w' ∧ w'.ownsRow base e 1 v' (n + s.size) (xs ++ Lib.strCells s) ∧ w.grownBy w' v.ownBlock ∧ (v'.ownBlock = v.ownBlock ∨ v'.ownBlock = some w.heap.size) := by
  obtain ⟨v', w', hr, h1, h2, h3⟩ := Lib.run_append_own_string (P := P) w base t u ty e i ht hu hi hz hsize hby v n xs hown s h63 hbytes hbase
  refine ⟨v', w', hr, h1, h2, ?_⟩
  have hsm : n + s.size ≤ 9223372036854775807 := by simp only [maxLen] at h63; omega
  have hxl : xs.length = n := by simpa using hown.1
  rcases hown.2 with ⟨rfl, rfl⟩ | ⟨g, cap, cur, rfl, hbg, hg, hnc, hcm, hcs, htake⟩
  · by_cases hm : s.size = 0
    · rw [h3.2 ⟨rfl, hm⟩]; exact .inl rfl
    · have h4 := run_append_nil_string (P := P) w t u ty e i (.int .u8 0) ht hu hi hz s (by omega) (by omega) (by rw [hby]; omega)
      rw [h4] at hr
      injection hr with hr _
      rw [← hr]; exact .inr rfl
  · by_cases hroom : n + s.size ≤ cap
    · have h4 := Lib.run_append_room_string (P := P) w t u ty e i ht hu hi hsize g n cap cur hg s hroom (by simp at hcs; omega)
      rw [h4] at hr
      injection hr with hr _
      rw [← hr]; exact .inl rfl
    · have holds : ∀ j u, xs[j]? = some u → w.cell? ((⟨g, 0, none⟩ : Addr).add j) = some u := hown.cells (g := g) rfl
      have h4 := Lib.run_append_grow_string (P := P) w t u ty e i (.int .u8 0) ht hu hi hz ⟨g, 0, none⟩ n cap xs (by rw [hsize]; simpa using hxl) holds s (by omega) (by omega) (by rw [hby]; exact growslice_fits (by omega) (by omega))
      rw [h4] at hr
      injection hr with hr _
      rw [← hr]; exact .inr rfl
theorem wpList_append_str {P : Program} {w : World} {ops : Array Oper} {rest : List Oper} {o : Oper} {a : Act} {Q : Exit → Act → World → Prop} (hgd : o.guard = none) (sl x : Operand) (t u : TypeId)
    (ho : o.op = .call { callee := .builtin .append, args := #[sl, x], argTypes := #[t, u] })
    (base : Nat) (e : TypeId) (i : TypeInfo) (ht : P.underlying t = some (.slice e)) (hu : P.underlying u = some .string) (hi : P.info? e = some i) (hz : i.zero = some (.int .u8 0))
    (hsize : i.size = 1) (hby : i.bytes = 1)
    (v : Value) (n : Nat) (xs : List Value) (hs : a.eval sl = v) (hown : w.ownsRow base e 1 v n xs) (s : ByteArray) (hx : a.eval x = .string s)
    (h63 : n + s.size ≤ maxLen) (hbytes : n + s.size ≤ 140737488355328) (hbase : base ≤ w.heap.size)
    (h : ∀ v' w', w'.ownsRow base e 1 v' (n + s.size) (xs ++ Lib.strCells s) → w.grownBy w' v.ownBlock → (v'.ownBlock = v.ownBlock ∨ v'.ownBlock = some w.heap.size) → wpList P ops Q rest (a.put o.dst v') w') : wpList P ops Q (o :: rest) a w := by
  refine wpList_plain hgd fun K hK => ?_
  obtain ⟨v', w', hr, h2, h3, h4⟩ := append_str_lies (P := P) w base t u o.type e i ht hu hi hz hsize hby v n xs hown s h63 hbytes hbase
  unfold Oper.wp execOp
  simp only [ho, resolve, invoke, builtin, Sem.run_bind, Sem.run_pure, Result.andThen_ok, List.map_toArray, List.map_cons, List.map_nil, hs, hx, hr]
  exact hK _ _ (h v' w' h2 h3 h4)
/-- the builder at block k with the bytes l, which lie in block r -/
def BldR (B k : Nat) (l : List UInt8) (w : World) (r : Option Nat) : Prop :=
  ∃ p v, (p = .pointer none ∨ p = .pointer (some ⟨k, 0, none⟩)) ∧ B ≤ k ∧ w.heap[k]? = some (.cells #[p, v] 55 (0, 0)) ∧ w.ownsRow B 5 1 v l.length (Lib.byteCells l) ∧ v.ownBlock ≠ some k ∧ v.ownBlock = r
theorem BldR.bld {B k : Nat} {l : List UInt8} {w : World} {r : Option Nat} (h : BldR B k l w r) : Bld B k l w := by
  obtain ⟨p, v, hp, hB, hh, ho, hn, _⟩ := h
  rw [← Lib.byteCells_length l] at ho
  rcases hp with rfl | rfl
  · exact .inl ⟨hB, v, hh, ho, hn⟩
  · exact .inr ⟨hB, v, hh, ho, hn⟩
theorem bldR_new (w : World) : BldR w.heap.size w.heap.size [] (w.alloc (.cells #[.pointer none, .slice none 0 0] 55)) none :=
  ⟨_, _, .inl rfl, Nat.le_refl _, heap_alloc_new w _, own_nil, by simp [Value.ownBlock], rfl⟩
theorem BldR.lt {B k : Nat} {l : List UInt8} {w : World} {r : Option Nat} (h : BldR B k l w r) : B ≤ k ∧ k < w.heap.size ∧ ∀ g, r = some g → B ≤ g ∧ g < w.heap.size := by
  obtain ⟨p, v, hp, hB, hh, ho, hn, rfl⟩ := h
  exact ⟨hB, Blk.lt (t := 55) hh, fun g hg => own_lt ho hg⟩
theorem BldR.far {B k : Nat} {l : List UInt8} {w w' : World} {r : Option Nat} (h : BldR B k l w r) (h1 : w'.heap[k]? = w.heap[k]?) (h2 : ∀ g, r = some g → w'.heap[g]? = w.heap[g]?) : BldR B k l w' r := by
  obtain ⟨p, v, hp, hB, hh, ho, hn, hr⟩ := h
  exact ⟨p, v, hp, hB, h1.trans hh, own_keep ho fun g hg _ => h2 g (by rw [← hr, hg]), hn, hr⟩
theorem BldR.lower {B B' k : Nat} {l : List UInt8} {w : World} {r : Option Nat} (h : BldR B k l w r) (hB : B' ≤ B) : BldR B' k l w r := by
  obtain ⟨p, v, hp, hBk, hh, ho, hn, hr⟩ := h
  exact ⟨p, v, hp, Nat.le_trans hB hBk, hh, own_mono ho hB, hn, hr⟩
set_option maxRecDepth 100000 in
set_option maxHeartbeats 1000000 in
theorem lookedR_any (B k : Nat) (l : List UInt8) (w : World) (r : Option Nat) (h : BldR B k l w r) :
    Calls Tryz.prog 62 #[.pointer (some ⟨k, 0, none⟩)] w fun e w' => e = .returned (.tuple #[]) ∧ BldR B k l w' r ∧ w'.cell? ⟨k, 0, none⟩ = some (.pointer (some ⟨k, 0, none⟩)) ∧ Fr w w' (fun g => g = k) ∧ w'.heap.size = w.heap.size := by
  obtain ⟨j, hj, hjs⟩ := Option.map_eq_some_iff.1 sz_bld
  obtain ⟨p, v, hp, hB, hh, ho, hn, hr⟩ := h
  have hk := hh
  rw [← Lib.byteCells_length l] at ho
  rcases hp with rfl | rfl
  · have h : Lib.BuilderAt 55 5 B k (.pointer none) (Lib.byteCells l) w := ⟨hB, v, hh, ho, hn⟩
    have hbk : Blk w k 55 #[.pointer none, v] := hh
    have hset := hbk.set_ 0 (.pointer (some ⟨k, 0, none⟩))
    have HA : Hid (BldR B k l (w.setCell ⟨k, 0, none⟩ (.pointer (some ⟨k, 0, none⟩))) r) := Lib.hid ⟨_, v, .inr rfl, hB, (show Blk _ _ _ _ by simpa using hset), by rw [← Lib.byteCells_length l]; exact own_keep ho fun g hg _ => Below.heap_setCell _ _ _ _ (fun e => hn (by rw [hg, e])), hn, hr⟩
    have HF : Hid (Fr w (w.setCell ⟨k, 0, none⟩ (.pointer (some ⟨k, 0, none⟩))) (fun g => g = k)) := Lib.hid (Fr.setCell (p := ⟨k, 0, none⟩) (Fr.refl w (fun g => g = k)) (.inl rfl) _)
    have HC0 : Hid ((w.setCell ⟨k, 0, none⟩ (.pointer (some ⟨k, 0, none⟩))).cell? ⟨k, 0, none⟩ = some (.pointer (some ⟨k, 0, none⟩))) := Lib.hid ((hset.cell 0).trans rfl)
    have c0 := h.cell0
    have f0 := h.frozen0
    have hsh := h.shape
    have hc1 := Lib.run_to_unsafe w (P := Tryz.prog) (src := 53) (dst := 134) ⟨k, 0, none⟩ Tryz.underlying53 Tryz.underlying134 hj (by rw [hjs]; decide) hsh (Nat.zero_lt_succ 1)
    have hc2 := Lib.run_from_unsafe w (P := Tryz.prog) (src := 134) (dst := 53) ⟨k, 0, none⟩ Tryz.underlying134 Tryz.underlying53 hj hsh lies_bld
    have hnE : (callFunc 83 #[.pointer (some ⟨k, 0, none⟩)]).run Tryz.prog w = .ok (.value (.pointer (some ⟨k, 0, none⟩))) w := by
      rw [run_callFunc_extern Tryz.func83 (by kernel_rfl) (by kernel_rfl) (by kernel_rfl) (e := Extern.AbiNoEscape.same) (by kernel_rfl), Lib.run_noEscape]; rfl
    clear h hsh hj hjs hset hbk hh ho hn hk
    go_enter Tryz.func62, Tryz.ntmps62
    go_wp2
    go_end0
    exact ⟨rfl, HA.out, HC0.out, HF.out, by simp⟩
  · have h : Lib.BuilderAt 55 5 B k (.pointer (some ⟨k, 0, none⟩)) (Lib.byteCells l) w := ⟨hB, v, hh, ho, hn⟩
    have c0 := h.cell0
    have HA : Hid (BldR B k l w r) := Lib.hid ⟨_, v, .inr rfl, hB, hh, by rw [← Lib.byteCells_length l]; exact ho, hn, hr⟩
    have HC0 := Lib.hid c0
    clear h hh ho hn hk
    have hr2 := Lib.run_neq_ptr_same w (P := Tryz.prog) (tp := 53) ⟨k, 0, none⟩ Tryz.underlying53 hj
    go_enter Tryz.func62, Tryz.ntmps62
    go_wp2
    go_end0
    exact ⟨rfl, HA.out, HC0.out, Fr.refl _ _, rfl⟩
set_option maxRecDepth 100000 in
set_option maxHeartbeats 1000000 in
theorem wstrR_any (B k : Nat) (l : List UInt8) (s : ByteArray) (w : World) (r : Option Nat) (h : BldR B k l w r) (hl : l.length + s.size ≤ 140737488355328) (hB : B ≤ w.heap.size) :
    Calls Tryz.prog 30 #[.pointer (some ⟨k, 0, none⟩), .string s] w fun e w' => e = .returned (.tuple #[.int .i64 s.size, .nilIface]) ∧ ∃ r', BldR B k (l ++ bts s) w' r' ∧ (r' = r ∨ r' = some w.heap.size) ∧ Fr w w' (fun g => g = k ∨ r = some g) := by
  have HL := Lib.hid (lookedR_any B k l w r h)
  obtain ⟨i0, hi, hz0, hz1, hz2⟩ := info_parts info_byte'
  clear h
  go_enter Tryz.func30, Tryz.ntmps30
  go_wp2_with fail
  refine HL.out.mono ?_
  clear HL
  rintro e w1 ⟨rfl, ⟨p, v, _, hBk, hbk, hown, hne, hr⟩, c0, hf1, hs1⟩
  have hp : p = .pointer (some ⟨k, 0, none⟩) := by
    rw [Lib.cell_of_heap hbk] at c0
    simpa using c0
  subst hp
  have c1 : w1.cell? ⟨k, 1, none⟩ = some v := by rw [Lib.cell_of_heap hbk]; rfl
  have hkl : k < w1.heap.size := Blk.lt (t := 55) hbk
  have HbK := Lib.hid hbk
  have HNe := Lib.hid hne
  have HF1 := Lib.hid hf1
  have HR := Lib.hid hr
  obtain ⟨A, cp, rfl, _⟩ := own_slice hown
  have HO := Lib.hid hown
  have hB1 : B ≤ w1.heap.size := by omega
  have HS1 := Lib.hid hs1
  clear hbk hown hne hf1 hr hs1
  go_wp2_with (at_builtin; refine wpList_append_str rfl _ _ 46 9 rfl B 5 i0 Tryz.underlying46 Tryz.underlying9 hi hz0 hz1 hz2 _ _ _ rfl HO.out s rfl (by unfold maxLen; omega) (by omega) (by omega) ?_)
  intro v2 w2 hown2 hgrow2 hlies
  have hb2 : w2.heap[k]? = some (.cells #[.pointer (some ⟨k, 0, none⟩), .slice A l.length cp] 55 (0, 0)) := by
    rw [hgrow2.block k hkl (fun e => HNe.out e.symm)]
    exact HbK.out
  have d0 : w2.cell? ⟨k, 0, none⟩ = some (.pointer (some ⟨k, 0, none⟩)) := by rw [Lib.cell_of_heap hb2]; rfl
  have d1 : w2.cell? ⟨k, 1, none⟩ = some (.slice A l.length cp) := by rw [Lib.cell_of_heap hb2]; rfl
  have f1 : w2.frozen? ⟨k, 1, none⟩ = false := Lib.frozen_of_heap hb2 1
  have hne2 : v2.ownBlock ≠ some k := ownNeBlk hown2 hb2 (by decide)
  have hrr : v2.ownBlock = r ∨ v2.ownBlock = some w.heap.size := by
    rcases hlies with h | h
    · exact .inl (h.trans HR.out)
    · exact .inr (by rw [h, HS1.out])
  have hbk2 : Blk w2 k 55 #[.pointer (some ⟨k, 0, none⟩), .slice A l.length cp] := hb2
  have hset := hbk2.set_ 1 v2
  have hown3 : w2.ownsRow B 5 1 v2 (l ++ bts s).length (Lib.byteCells (l ++ bts s)) := by
    rw [← bytes_app, ← str_cells, List.length_append, bts_len]; exact hown2
  have HP : Hid (BldR B k (l ++ bts s) (w2.setCell ⟨k, 1, none⟩ v2) v2.ownBlock) := Lib.hid ⟨_, v2, .inr rfl, hBk, (show Blk _ _ _ _ by simpa using hset), own_keep hown3 (fun g hg _ => Below.heap_setCell _ _ _ _ (fun e => hne2 (by rw [hg, e]))), hne2, rfl⟩
  have HFr : Hid (Fr w (w2.setCell ⟨k, 1, none⟩ v2) (fun g => g = k ∨ r = some g)) := Lib.hid (by
    have h1 : Fr w w1 (fun g => g = k ∨ r = some g) := HF1.out.mono (fun g hg => .inl hg)
    have h2 : Fr w w2 (fun g => g = k ∨ r = some g) := h1.grown hgrow2 (fun g hg => .inl (.inr (HR.out.symm.trans hg)))
    exact h2.setCell (p := ⟨k, 1, none⟩) (.inl (.inl rfl)) v2)
  obtain ⟨A2, c2, rfl, _⟩ := own_slice hown2
  clear hown2 hown3 hgrow2 hb2 hbk2 hset hlies hne2
  go_wp2_with fail
  go_ret2
  exact ⟨rfl, _, HP.out, hrr, HFr.out⟩
theorem bldR_text {B k : Nat} {l : List UInt8} {w : World} {r : Option Nat} (h : BldR B k l w r) (hB : B ≤ w.heap.size) : Calls Tryz.prog 31 #[.pointer (some ⟨k, 0, none⟩)] w fun e w' => e = .returned (.string (str l)) ∧ Below B w w' := bld_text h.bld hB
end Go.Proofs.YtoneheloojlifaaGreatDoor
/- The walk of prop.bare. -/

namespace Go.Proofs.YtoneheloojlifaaGreatDoor
open Go.RowKit

/-- what is written, what is left -/
def BareW (s : ByteArray) (l : List UInt8) (j : Nat) : Prop := l ++ bareL ((bts s).drop j) = bareL (bts s)
theorem bareW_zero (s : ByteArray) : BareW s [] 0 := by unfold BareW; rw [List.drop_zero]; rfl
theorem bareW_plain {s : ByteArray} {l : List UInt8} {j : Nat} (h : BareW s l j) (hj : j < s.size) (hc : s[j].toNat ≠ 92) : BareW s (l ++ [s[j]]) (j + 1) := by
  unfold BareW at h ⊢
  rw [← h, drop_at s j hj, bareL_cons (fun e => hc (by rw [e]; rfl)), List.append_assoc]; rfl
theorem bareW_last {s : ByteArray} {l : List UInt8} {j : Nat} (h : BareW s l j) (hj : j + 1 = s.size) (hc : s[j].toNat = 92) : BareW s (l ++ [92]) (j + 1) := by
  unfold BareW at h ⊢
  have e : s[j] = 92 := (u8_lit (by decide)).2 hc
  rw [← h, drop_at s j (by omega), e, List.drop_of_length_le (by rw [bts_len]; omega), List.append_assoc]; rfl
theorem bareW_esc {s : ByteArray} {l : List UInt8} {j : Nat} {x : UInt8} (h : BareW s l j) (hj : j + 1 < s.size) (hc : (s[j]'(by omega)).toNat = 92) (hu : unesc s[j + 1] = x) : BareW s (l ++ [x]) (j + 1 + 1) := by
  unfold BareW at h ⊢
  have e : s[j]'(by omega) = 92 := (u8_lit (by decide)).2 hc
  rw [← h, drop_at s j (by omega), e, drop_at s (j + 1) hj, bareL_two, hu, List.append_assoc]; rfl
theorem bareW_end {s : ByteArray} {l : List UInt8} (h : BareW s l s.size) : str l = str (bareL (bts s)) := by
  unfold BareW at h
  rw [List.drop_of_length_le (by rw [bts_len]; exact Nat.le_refl _)] at h
  rw [← h]; simp [bareL]
theorem unesc_nat (d : UInt8) : (d.toNat = 110 → unesc d = 10) ∧ (d.toNat = 114 → unesc d = 13) ∧ (d.toNat ≠ 110 → d.toNat ≠ 114 → unesc d = 92) := by
  refine ⟨fun h => ?_, fun h => ?_, fun h1 h2 => ?_⟩
  · rw [(u8_lit (d := 110) (by decide)).2 h]; rfl
  · rw [(u8_lit (d := 114) (by decide)).2 h]; rfl
  · unfold unesc
    rw [if_neg fun e => h1 (by rw [e]; rfl), if_neg fun e => h2 (by rw [e]; rfl)]
set_option maxHeartbeats 3200000 in
set_option maxRecDepth 100000 in
theorem pbare_any (s : ByteArray) (w : World) (hs : s.size ≤ 140737488355327) :
    Calls Tryz.prog 29 #[.string s] w fun e w' => e = .returned (.string (str (bareL (bts s)))) ∧ Below w.heap.size w w' := by
  have HN := Lib.hid (bld_new w)
  have HB0 := Lib.hid ((Below.refl w.heap.size w).alloc (Nat.le_refl _) (.cells #[.pointer none, .slice none 0 0] 55))
  go_enter Tryz.func29, Tryz.ntmps29
  go_wp2_with fail
  go_loopw [4] (fun i wr => ∃ (j : Nat) (l : List UInt8), j ≤ s.size ∧ i = .int .i64 j ∧ l.length ≤ j ∧ Hid (BareW s l j) ∧ Bld w.heap.size w.heap.size l wr ∧ Below w.heap.size w wr) (fun i _ => s.size - (intOf i).toNat)
  case atStart => exact ⟨0, [], Nat.zero_le _, rfl, Nat.le_refl _, Lib.hid (bareW_zero s), HN.out, HB0.out⟩
  case round =>
    clear HN HB0
    obtain ⟨j, l, hj, rfl, hl, hW, hB, hbr⟩ := hrel
    have HB := Lib.hid hB
    have HBr := Lib.hid hbr
    have hbs := hbr.size
    clear hB hbr
    by_cases hlt : j < s.size
    · have HWr : Hid (∀ x : UInt8, Calls Tryz.prog 61 #[.pointer (some ⟨w.heap.size, 0, none⟩), .int .u8 x.toNat] wr fun e w' => e = .returned .nilIface ∧ Bld w.heap.size w.heap.size (l ++ [x]) w' ∧ Below w.heap.size wr w') := Lib.hid fun x => wbyte_any _ _ l x wr HB.out (by omega) hbs
      by_cases h92 : s[j].toNat = 92
      · have f1 : ((s[j].toNat : Int) == 92) = true := by rw [beq_iff_eq]; omega
        have e92 : s[j] = 92 := (u8_lit (by decide)).2 h92
        by_cases hl1 : j + 1 < s.size
        · have HU := Lib.hid (unesc_nat s[j + 1])
          have HE : Hid (∀ x, unesc s[j + 1] = x → BareW s (l ++ [x]) (j + 1 + 1)) := Lib.hid fun x hx => bareW_esc hW.out hl1 h92 hx
          have g0 : (j : Int) + 1 < (s.size : Int) := by omega
          have g00 : (0 : Int) ≤ (j : Int) + 1 := by omega
          have g0' : decide ((j : Int) + 1 < (s.size : Int)) = true := decide_eq_true g0
          by_cases g1 : s[j + 1].toNat = 110
          · have p1 : ((s[j + 1].toNat : Int) == 110) = true := by rw [beq_iff_eq]; omega
            have HQ := Lib.hid (HE.out 10 (HU.out.1 g1))
            have HC : Hid (Calls Tryz.prog 61 #[.pointer (some ⟨w.heap.size, 0, none⟩), .int .u8 10] wr fun e w' => e = .returned .nilIface ∧ Bld w.heap.size w.heap.size (l ++ [10]) w' ∧ Below w.heap.size wr w') := Lib.hid (HWr.out 10)
            clear HE HU hW g1 h92 HWr e92
            go_wp2_with fail
            refine HC.out.mono ?_
            clear HC
            rintro e w1 ⟨rfl, hB1, hb1⟩
            have HB1 := Lib.hid hB1
            have HBe := Lib.hid (HBr.out.trans hb1)
            clear hB1 hb1 p1 f1 g0'
            go_wp2_with fail
            exact ⟨⟨j + 1 + 1, _, by omega, by go_num, by simp; omega, HQ, HB1.out, HBe.out⟩, by simp [intOf]; omega⟩
          · have p1 : ((s[j + 1].toNat : Int) == 110) = false := by rw [beq_eq_false_iff_ne]; omega
            by_cases g2 : s[j + 1].toNat = 114
            · have p2 : ((s[j + 1].toNat : Int) == 114) = true := by rw [beq_iff_eq]; omega
              have HQ := Lib.hid (HE.out 13 (HU.out.2.1 g2))
              have HC : Hid (Calls Tryz.prog 61 #[.pointer (some ⟨w.heap.size, 0, none⟩), .int .u8 13] wr fun e w' => e = .returned .nilIface ∧ Bld w.heap.size w.heap.size (l ++ [13]) w' ∧ Below w.heap.size wr w') := Lib.hid (HWr.out 13)
              clear HE HU hW g1 g2 h92 HWr e92
              go_wp2_with fail
              refine HC.out.mono ?_
              clear HC
              rintro e w1 ⟨rfl, hB1, hb1⟩
              have HB1 := Lib.hid hB1
              have HBe := Lib.hid (HBr.out.trans hb1)
              clear hB1 hb1 p1 p2 f1 g0'
              go_wp2_with fail
              exact ⟨⟨j + 1 + 1, _, by omega, by go_num, by simp; omega, HQ, HB1.out, HBe.out⟩, by simp [intOf]; omega⟩
            · have p2 : ((s[j + 1].toNat : Int) == 114) = false := by rw [beq_eq_false_iff_ne]; omega
              have HQ := Lib.hid (HE.out s[j] ((HU.out.2.2 g1 g2).trans e92.symm))
              have HC := Lib.hid (HWr.out s[j])
              clear HE HU hW g1 g2 h92 HWr e92
              go_wp2_with fail
              refine HC.out.mono ?_
              clear HC
              rintro e w1 ⟨rfl, hB1, hb1⟩
              have HB1 := Lib.hid hB1
              have HBe := Lib.hid (HBr.out.trans hb1)
              clear hB1 hb1 p1 p2 g0'
              go_wp2_with fail
              exact ⟨⟨j + 1 + 1, _, by omega, by go_num, by simp; omega, HQ, HB1.out, HBe.out⟩, by simp [intOf]; omega⟩
        · have HQ : Hid (BareW s (l ++ [s[j]]) (j + 1)) := Lib.hid (by rw [e92]; exact bareW_last hW.out (by omega) h92)
          have HC := Lib.hid (HWr.out s[j])
          have g0' : decide ((j : Int) + 1 < (s.size : Int)) = false := decide_eq_false (by omega)
          clear HWr hW e92 h92
          go_wp2_with fail
          refine HC.out.mono ?_
          clear HC
          rintro e w1 ⟨rfl, hB1, hb1⟩
          have HB1 := Lib.hid hB1
          have HBe := Lib.hid (HBr.out.trans hb1)
          clear hB1 hb1
          go_wp2_with fail
          exact ⟨⟨j + 1, _, by omega, by go_num, by simp; omega, HQ, HB1.out, HBe.out⟩, by simp [intOf]; omega⟩
      · have f1 : ((s[j].toNat : Int) == 92) = false := by rw [beq_eq_false_iff_ne]; omega
        have HQ := Lib.hid (bareW_plain hW.out hlt h92)
        have HC := Lib.hid (HWr.out s[j])
        clear HWr hW h92
        go_wp2_with fail
        refine HC.out.mono ?_
        clear HC
        rintro e w1 ⟨rfl, hB1, hb1⟩
        have HB1 := Lib.hid hB1
        have HBe := Lib.hid (HBr.out.trans hb1)
        clear hB1 hb1
        go_wp2_with fail
        exact ⟨⟨j + 1, _, by omega, by go_num, by simp; omega, HQ, HB1.out, HBe.out⟩, by simp [intOf]; omega⟩
    · obtain rfl : j = s.size := by omega
      have HT := Lib.hid (bld_text HB.out hbs)
      rw [bareW_end hW.out] at HT
      go_wp2_with fail
      refine HT.out.mono ?_
      clear HT
      rintro e w1 ⟨rfl, hb1⟩
      have HBe := Lib.hid (HBr.out.trans hb1)
      clear hb1
      go_wp2_with fail
      go_ret
      exact ⟨rfl, HBe.out⟩
end Go.Proofs.YtoneheloojlifaaGreatDoor
/- The walk of prop.Text. -/

namespace Go.Proofs.YtoneheloojlifaaGreatDoor
open Go.RowKit

theorem keyOk_size {s : ByteArray} (h : keyOk s = true) : s.size ≤ 40 := by
  unfold keyOk at h
  simp only [Bool.and_eq_true, decide_eq_true_eq] at h
  exact h.2.1
theorem linesN_bound {b : Bun} (hR : Right b) : ∀ j, j ≤ b.ents.length → (linesN b j).size ≤ b.tag.size + 2 + j * 4100
  | 0, _ => by rw [linesN_zero]; simp only [ByteArray.size_append]; show 1 + b.tag.size + 1 ≤ _; omega
  | j + 1, hj => by
    have ih := linesN_bound hR j (by omega)
    have he := hR.each _ (List.getElem_mem (show j < b.ents.length by omega))
    have hk := keyOk_size he.1
    have ht : (escS b.ents[j].text).size ≤ 4000 := by
      have h := escL_len (bts b.ents[j].text)
      rw [bts_len] at h
      show (str (escL (bts b.ents[j].text))).size ≤ 4000
      have e : (str (escL (bts b.ents[j].text))).size = (escL (bts b.ents[j].text)).length := by simp [str, ByteArray.size]
      omega
    rw [linesN_succ b j (by omega)]
    simp only [ByteArray.size_append]
    have e1 : (⟨#[61]⟩ : ByteArray).size = 1 := rfl
    have e2 : (⟨#[10]⟩ : ByteArray).size = 1 := rfl
    omega
/-- the builder's blocks -/
def XB (k : Nat) (r : Option Nat) : Nat → Prop := fun g => g = k ∨ r = some g
theorem RepX.wrote {k : Nat} {r r' : Option Nat} {B p : Nat} {w w' : World} (h : RepX (XB k r) B p w) (hf : Fr w w' (XB k r)) (hr : r' = r ∨ r' = some w.heap.size) : RepX (XB k r') B p w' := by
  have h1 : RepX (fun g => XB k r g ∨ XB k r' g) B p w := h.change fun g hg => by
    rcases hg with hg | hg | hg
    · exact .inl hg
    · exact .inl (.inl hg)
    · rcases hr with rfl | rfl
      · exact .inl (.inr hg)
      · injection hg with hg; exact .inr (by omega)
  have h2 : RepX (fun g => XB k r g ∨ XB k r' g) B p w' := h1.fr (hf.mono fun g hg => .inl hg)
  exact h2.change fun g hg => .inl (.inr hg)
theorem linesN_wrote (b : Bun) (j : Nat) (hj : j < b.ents.length) : bts (linesN b j) ++ bts (b.ents[j].key ++ ⟨#[61]⟩ ++ str (escL (bts b.ents[j].text)) ++ ⟨#[10]⟩) = bts (linesN b (j + 1)) := by
  rw [linesN_succ b j hj]
  simp only [bts_append, escS, List.append_assoc]
/-- what prop.Text tells -/
def TextTold (b : Bun) : Value := if bunFault b = 0 then .tuple #[.string (linesS b), .nilIface] else .tuple #[.string ⟨#[]⟩, errV (bunFault b)]
set_option maxRecDepth 100000 in
set_option maxHeartbeats 6400000 in
theorem ptext_any (b : Bun) (v : Value) (w : World) (h : BunIn w b v) (hm : MaxVar w) :
    Calls Tryz.prog 10 #[.agg #[.string b.tag, v]] w fun e w' => e = .returned (TextTold b) ∧ Below w.heap.size w w' := by
  obtain ⟨lo, hl⟩ := h.lo
  obtain ⟨A, c, rfl, _⟩ := hl.form
  have HL : Hid (∀ W, Below w.heap.size w W → ListOk Enc.ent W lo w.heap.size (.slice A b.ents.length c) b.ents) := Lib.hid fun W hW => hl.keep Enc.ent_laws (Alk.mono (Alk.of_below hW) (Nat.zero_le _) (Nat.le_refl _))
  have htg := h.tag
  obtain ⟨W1, eW1⟩ : ∃ W1, W1 = w.alloc (.cells #[.string b.tag, .slice A b.ents.length c] 24) := ⟨_, rfl⟩
  have mb : Blk W1 w.heap.size 24 #[.string b.tag, .slice A b.ents.length c] := by rw [eW1]; exact Blk.new _ _ _
  have hb1 : Below w.heap.size w W1 := by rw [eW1]; exact (Below.refl _ _).alloc (Nat.le_refl _) _
  have HCk := Lib.hid (bunCheck_any b (.slice A b.ents.length c) W1 (h.below hb1) (hm.below hb1))
  have HM := Lib.hid mb
  have HB1 := Lib.hid hb1
  have EW := Lib.hid eW1
  clear h hl hm mb hb1
  go_enter Tryz.func10, Tryz.ntmps10
  go_upto_region 1 with fail
  rw [← EW.out]
  have k0 := (HM.out.cell 0).trans (show _ = some (.string b.tag) from rfl)
  have k1 := (HM.out.cell 1).trans (show _ = some (.slice A b.ents.length c) from rfl)
  clear eW1 EW
  go_wp2_with fail
  refine HCk.out.mono ?_
  clear HCk
  rintro e w2 ⟨rfl, hb2⟩
  have HB2 := Lib.hid hb2
  have HM2 := Lib.hid (HM.out.below hb2 HM.out.lt)
  have hs2 : w.heap.size < w2.heap.size := Nat.lt_of_lt_of_le HM.out.lt hb2.size
  have HW2 : Hid (Below w.heap.size w w2) := Lib.hid (HB1.out.trans (hb2.mono (Nat.le_of_lt HM.out.lt)))
  clear k0 k1 hb2 HM
  by_cases hf : bunFault b = 0
  · have HR := Lib.hid ((right_iff b).1 hf)
    have HT : Hid (TextTold b = .tuple #[.string (linesS b), .nilIface]) := Lib.hid (by unfold TextTold; rw [if_pos hf])
    have k0 := (HM2.out.cell 0).trans (show _ = some (.string b.tag) from rfl)
    have k1 := (HM2.out.cell 1).trans (show _ = some (.slice A b.ents.length c) from rfl)
    have hn := HR.out.len
    rw [hf, errV_zero]
    clear hf
    have hc6 : ∀ i u, (pairs6.map Value.string)[i]? = some u → (w2.alloc (.cells #[.string ⟨#[92]⟩, .string ⟨#[92, 92]⟩, .string ⟨#[10]⟩, .string ⟨#[92, 110]⟩, .string ⟨#[13]⟩, .string ⟨#[92, 114]⟩] 9)).cell? ⟨w2.heap.size, 0 + i, none⟩ = some u := fun i u hi => by
      rw [Nat.zero_add, (Blk.new w2 9 _).cell i, ← hi]
      simp [pairs6]
    have HNr := Lib.hid (newRep_any _ w2.heap.size 6 hc6)
    clear hc6
    go_wp2_with fail
    refine HNr.out.mono ?_
    clear HNr
    rintro e w4 ⟨p, v4, rfl, hp4, hk4, ho4, hb4⟩
    rw [show (w2.alloc (.cells #[.string ⟨#[92]⟩, .string ⟨#[92, 92]⟩, .string ⟨#[10]⟩, .string ⟨#[92, 110]⟩, .string ⟨#[13]⟩, .string ⟨#[92, 114]⟩] 9)).heap.size = w2.heap.size + 1 from by simp] at hp4 ho4 hb4
    have hb24 : Below w2.heap.size w2 w4 := ((Below.refl _ _).alloc (Nat.le_refl _) _).trans (hb4.mono (by omega))
    have hs4 := hb24.size
    have hpl := hk4.lt
    obtain ⟨k, hk⟩ : ∃ k, k = w4.heap.size := ⟨_, rfl⟩
    have HBd := Lib.hid (bldR_new w4)
    have hbA : Below w4.heap.size w4 (w4.alloc (.cells #[.pointer none, .slice none 0 0] 55)) := (Below.refl _ _).alloc (Nat.le_refl _) _
    have HRp : Hid (RepX (XB k none) (w2.heap.size + 1) p (w4.alloc (.cells #[.pointer none, .slice none 0 0] 55))) := Lib.hid ⟨fun hx => hx.elim (fun h => by omega) (fun h => by cases h), hp4, .inl ⟨v4, hk4.below hbA hk4.lt, own_below ho4 hbA (Nat.le_refl _), fun g hg hx => by
      have := (own_lt ho4 hg).2
      exact hx.elim (fun h => by omega) (fun h => by cases h)⟩⟩
    have HBl : Hid (Below w.heap.size w (w4.alloc (.cells #[.pointer none, .slice none 0 0] 55))) := Lib.hid ((HW2.out.trans (hb24.mono (by omega))).trans (hbA.mono (by omega)))
    have HM4 := Lib.hid ((HM2.out.below hb24 hs2).below hbA (by omega))
    obtain ⟨W5, hW5⟩ : ∃ W5, W5 = w4.alloc (.cells #[.pointer none, .slice none 0 0] 55) := ⟨_, rfl⟩
    rw [← hW5] at HBd HRp HBl HM4
    rw [← hk] at HBd
    have hk5 : k < W5.heap.size := by rw [hW5, hk]; simp
    have hwk : w.heap.size < k := by omega
    have HW5 := Lib.hid hW5
    have HKk := Lib.hid hk
    clear hk4 ho4 hb4 hb24 hbA k0 k1 HM2 HB2 hW5 HB1 HW2
    have k0 := (HM4.out.cell 0).trans (show _ = some (.string b.tag) from rfl)
    have k1 := (HM4.out.cell 1).trans (show _ = some (.slice A b.ents.length c) from rfl)
    go_upto_region 6 with fail
    rw [← HW5.out, ← HKk.out]
    clear HW5 HKk hk hs4
    have hlb := HR.out
    have HWs := Lib.hid (wstrR_any k k [] (linesN b 0) W5 none HBd.out (by have := linesN_bound HR.out 0 (Nat.zero_le _); simp; omega) (by omega))
    rw [linesN_zero] at HWs
    go_wp2_with fail
    refine HWs.out.mono ?_
    clear HWs
    rintro e w6 ⟨rfl, r6, hbd6, hr6, hf6⟩
    rw [← linesN_zero, List.nil_append] at hbd6
    have HBd6 := Lib.hid hbd6
    have HRp6 := Lib.hid (HRp.out.wrote hf6 (by simpa using hr6))
    have HBl6 : Hid (Below w.heap.size w w6) := Lib.hid (Fr.below HBl.out hf6 (by omega) (fun g hg => hg.elim (fun h => by omega) (fun h => by cases h)))
    have HM6 : Hid (Blk w6 w.heap.size 24 #[.string b.tag, .slice A b.ents.length c]) := Lib.hid (HM4.out.fr hf6 (fun hg => hg.elim (fun h => by omega) (fun h => by cases h)))
    have k6 := (HM6.out.cell 1).trans (show _ = some (.slice A b.ents.length c) from rfl)
    clear hbd6 hr6 hf6 HBd HRp HBl HM4 k0 k1
    go_wp2_with fail
    clear k6
    go_loopw [8, 24] (fun _ i wr => ∃ (j : Nat) (r : Option Nat), j ≤ b.ents.length ∧ i = .int .i64 (j : Int) ∧ BldR k k (bts (linesN b j)) wr r ∧ RepX (XB k r) (w2.heap.size + 1) p wr ∧ Below w.heap.size w wr) (fun _ i _ => b.ents.length - (intOf i).toNat)
    case atStart => exact ⟨0, r6, Nat.zero_le _, rfl, HBd6.out, HRp6.out, HBl6.out⟩
    case round =>
      clear HBd6 HRp6 HBl6 HM6
      obtain ⟨j, r, hj, rfl, hbd, hrp, hbl⟩ := hrel
      have HBd := Lib.hid hbd
      have HRp := Lib.hid hrp
      have HBl := Lib.hid hbl
      have hlt3 := hbd.lt
      by_cases hlt : j < b.ents.length
      · obtain ⟨bb, o, rfl, p1, p2, x0, x1⟩ := (HL.out _ hbl).entAt j hlt
        clear hbd hrp hbl
        have hwrote := linesN_wrote b j hlt
        have hbnd := linesN_bound HR.out (j + 1) hlt
        have hky : b.ents[j].key.size ≤ 40 := keyOk_size (HR.out.each _ (List.getElem_mem hlt)).1
        have hes : (str (escL (bts b.ents[j].text))).size ≤ 4000 := by
          have h := escL_len (bts b.ents[j].text)
          rw [bts_len] at h
          have e : (str (escL (bts b.ents[j].text))).size = (escL (bts b.ents[j].text)).length := by simp [str, ByteArray.size]
          have := (HR.out.each _ (List.getElem_mem hlt)).2
          omega
        have htx : b.ents[j].text.size ≤ 100000 := by have := (HR.out.each _ (List.getElem_mem hlt)).2; omega
        have hsz1 : (bts (linesN b (j + 1))).length ≤ 5000000000 := by rw [bts_len]; omega
        rw [← hwrote, List.length_append, bts_len, bts_len] at hsz1
        have HWrote := Lib.hid hwrote
        generalize b.ents[j] = en at *
        obtain ⟨ky, tx⟩ := en
        dsimp only at x0 x1 htx hsz1 HWrote hky hes
        obtain ⟨W8, hW8⟩ : ∃ W8, W8 = wr.alloc (.cells #[.string ky, .string tx] 62) := ⟨_, rfl⟩
        have hb8 : Below wr.heap.size wr W8 := by rw [hW8]; exact (Below.refl _ _).alloc (Nat.le_refl _) _
        have hk8 : Blk W8 wr.heap.size 62 #[.string ky, .string tx] := by rw [hW8]; exact Blk.new _ _ _
        have hs8 : W8.heap.size = wr.heap.size + 1 := by rw [hW8]; simp
        have hpr := HRp.out.lt
        have hpk : p ≠ k := fun e => HRp.out.1 (.inl e)
        have hpr2 : r ≠ some p := fun e => HRp.out.1 (.inr e)
        have hk0 := hk8.lt
        have HCR : Hid (∀ W, Below W8.heap.size W8 W → Calls Tryz.prog 33 #[.pointer (some ⟨p, 0, none⟩), .string tx] W fun e w' => e = .returned (.string (str (escL (bts tx)))) ∧ Fr W8 w' (fun g => g = p) ∧ RepX (XB k r) (w2.heap.size + 1) p w') := Lib.hid fun W hW =>
          (replace_any (XB k r) (w2.heap.size + 1) p tx W (HRp.out.fr (Fr.of_below (hb8.trans (hW.mono (by omega))) _)) (fun g hg => by
            have := hW.size
            rcases hg with rfl | hg
            · omega
            · have := (hlt3.2.2 g hg).2; omega) htx).mono fun e w' hw => ⟨hw.1, (Fr.of_below hW _).trans hw.2.2, hw.2.1⟩
        have KS : Hid (∀ w', Fr W8 w' (fun g => g = p) → w'.cell? ⟨wr.heap.size, 0, none⟩ = some (.string ky) ∧ w'.cell? ⟨wr.heap.size, 1, none⟩ = some (.string tx)) := Lib.hid fun w' hw =>
          ⟨(hw.cell (p := ⟨wr.heap.size, 0, none⟩) hk0 (by show wr.heap.size ≠ p; omega)).trans ((hk8.cell 0).trans rfl), (hw.cell (p := ⟨wr.heap.size, 1, none⟩) hk0 (by show wr.heap.size ≠ p; omega)).trans ((hk8.cell 1).trans rfl)⟩
        have HCW : Hid (∀ W, Fr W8 W (fun g => g = p) → RepX (XB k r) (w2.heap.size + 1) p W → Calls Tryz.prog 30 #[.pointer (some ⟨k, 0, none⟩), .string (ky ++ ⟨#[61]⟩ ++ str (escL (bts tx)) ++ ⟨#[10]⟩)] W fun e w' =>
            ∃ n, e = .returned (.tuple #[.int .i64 n, .nilIface]) ∧ ∃ r', BldR k k (bts (linesN b (j + 1))) w' r' ∧ RepX (XB k r') (w2.heap.size + 1) p w' ∧ Below w.heap.size w w' ∧ (w'.cell? ⟨wr.heap.size, 0, none⟩ = some (.string ky) ∧ w'.cell? ⟨wr.heap.size, 1, none⟩ = some (.string tx))) := Lib.hid fun W hf hx => by
          have hbd : BldR k k (bts (linesN b j)) W r := (HBd.out.far (hb8.block k hlt3.2.1) (fun g hg => hb8.block g (hlt3.2.2 g hg).2)).far (hf.block k (by omega) (fun e => hpk e.symm)) (fun g hg => hf.block g (by have := (hlt3.2.2 g hg).2; omega) (fun e => hpr2 (by rw [hg, e])))
          have hWs := hf.size
          refine (wstrR_any k k _ _ W r hbd (by rw [bts_len]; omega) (by omega)).mono ?_
          rintro e w' ⟨rfl, r', h1, h2, h3⟩
          rw [HWrote.out] at h1
          have hf2 : Fr w w' (fun g => w.heap.size ≤ g) := (((Fr.of_below HBl.out _).trans (Fr.of_below (hb8.mono (by omega)) _)).trans (hf.mono (fun g hg => by have := hpr.1; omega))).trans (h3.mono (fun g hg => by
            rcases hg with rfl | hg
            · omega
            · have := (hlt3.2.2 g hg).1; omega))
          have hne : ¬ (wr.heap.size = k ∨ r = some wr.heap.size) := fun h => h.elim (fun h => by omega) (fun h => by have := (hlt3.2.2 _ h).2; omega)
          have hks := KS.out W hf
          exact ⟨_, rfl, r', h1, hx.wrote h3 h2, hf2.to_below (fun g hg => by omega), (h3.cell (p := ⟨wr.heap.size, 0, none⟩) (by show wr.heap.size < _; omega) hne).trans hks.1, (h3.cell (p := ⟨wr.heap.size, 1, none⟩) (by show wr.heap.size < _; omega) hne).trans hks.2⟩
        have HW8 := Lib.hid hW8
        clear hwrote hb8 hk8 hs8 hpr hpk hpr2 hk0 hW8
        go_upto_region 10 with fail
        rw [← HW8.out]
        clear x0 x1 HW8
        obtain ⟨y0, y1⟩ := KS.out W8 (Fr.refl _ _)
        have n1 : ¬ (9223372036854775807 < ky.size + 1) := by omega
        have n2 : ¬ (9223372036854775807 < ky.size + 1 + (str (escL (bts tx))).size) := by omega
        have n3 : ¬ (9223372036854775807 < ky.size + 1 + (str (escL (bts tx))).size + 1) := by omega
        go_region_held3 (fun w' => w'.cell? ⟨wr.heap.size, 0, none⟩ = some (.string ky) ∧ w'.cell? ⟨wr.heap.size, 1, none⟩ = some (.string tx))
          (first | exact hks10 | exact KS.out _ hf9 | exact KS.out _ (Fr.of_below (Below.refl _ _).drew _))
          (first
            | (go_at_call 33
               refine (HCR.out _ (by first | exact Below.refl _ _ | exact (Below.refl _ _).drew)).mono ?_
               clear HCR
               rintro e w9 ⟨rfl, hf9, hrp9⟩)
            | (go_at_call 30
               refine (HCW.out _ hf9 hrp9).mono ?_
               clear HCW
               rintro e w10 ⟨n10, rfl, r10, hbd10, hrp10, hbl10, hks10⟩))
        all_goals
          have HBd10 := Lib.hid hbd10
          have HRp10 := Lib.hid hrp10
          have HBl10 := Lib.hid hbl10
          clear hbd10 hrp10 hbl10 hf9 hrp9 y0 y1 hks10
          go_wp2_with fail
          exact ⟨⟨j + 1, r10, by omega, by go_num, HBd10.out, HRp10.out, HBl10.out⟩, by simp [intOf]; omega⟩
      · obtain rfl : j = b.ents.length := by omega
        have HTx := Lib.hid (bldR_text HBd.out (by omega))
        have HWk := Lib.hid (fun W (hW : Below k wr W) => HBl.out.trans (hW.mono (by omega)))
        rw [show str (bts (linesN b b.ents.length)) = linesS b from by rw [str_bts, linesN_all]] at HTx
        clear hbd hrp hbl
        go_wp2_with fail
        refine HTx.out.mono ?_
        clear HTx
        rintro e w8 ⟨rfl, hb8⟩
        have HB8 := Lib.hid (HWk.out w8 hb8)
        clear hb8
        go_wp2_with fail
        go_ret2
        exact ⟨by rw [HT.out]; rfl, HB8.out⟩
  · have HT : Hid (TextTold b = .tuple #[.string ⟨#[]⟩, errV (bunFault b)]) := Lib.hid (by unfold TextTold; rw [if_neg hf])
    rw [errV_ne hf] at HT ⊢
    go_wp2_with fail
    go_ret2
    exact ⟨by rw [HT.out]; rfl, HW2.out⟩
end Go.Proofs.YtoneheloojlifaaGreatDoor
