/- The walk of the document's Sorted and SortedTexts. -/
import Derived.Test.YtiaobgapfoogiaaGreatDoorBunRow
import Derived.Test.YtiaobgapfoogiaaGreatDoorDiffP
import Derived.Deep.DeepCutAuto
set_option linter.unusedSimpArgs false
set_option linter.unusedVariables false
namespace Go.Proofs.YtiaobgapfoogiaaGreatDoor
open Go.RowKit Go.Maps

theorem takeW_at {p : Ent → Bool} : ∀ (S : List Ent) (j : Nat), j ≤ S.length → (∀ q (h : q < S.length), q < j → p S[q] = true) → (∀ h : j < S.length, p S[j] = false) → S.takeWhile p = S.take j ∧ S.dropWhile p = S.drop j
  | [], 0, _, _, _ => ⟨rfl, rfl⟩
  | [], j + 1, h, _, _ => absurd h (by simp)
  | a :: r, 0, _, _, h1 => by
    have : p a = false := h1 (by simp)
    rw [List.takeWhile_cons, List.dropWhile_cons, this]; exact ⟨rfl, rfl⟩
  | a :: r, j + 1, hj, h0, h1 => by
    have ha : p a = true := h0 0 (by simp) (by omega)
    have ih := takeW_at r j (by simpa using hj) (fun q h hq => h0 (q + 1) (by simpa using h) (by omega)) (fun h => h1 (by simpa using h))
    rw [List.takeWhile_cons, List.dropWhile_cons, ha]
    simp only [if_true, List.take_succ_cons, List.drop_succ_cons]
    exact ⟨by rw [ih.1], ih.2⟩
theorem insQ_cut {S : List Ent} {x : Ent} (j : Nat) (hj : j ≤ S.length) (h0 : ∀ q (h : q < S.length), q < j → ltK S[q].key x.key = true) (h1 : ∀ h : j < S.length, ltK S[j].key x.key = false) : insQ S x = S.take j ++ x :: S.drop j := by
  have := takeW_at (p := fun y => ltK y.key x.key) S j hj h0 h1
  unfold insQ
  rw [this.1, this.2]
theorem insQ_length (S : List Ent) (x : Ent) : (insQ S x).length = S.length + 1 := by
  unfold insQ
  have := congrArg List.length (List.takeWhile_append_dropWhile (p := fun y : Ent => ltK y.key x.key) (l := S))
  simp only [List.length_append, List.length_cons] at this ⊢
  omega
def sortN (l : List Ent) (i : Nat) : List Ent := (l.take i).foldl insQ []
theorem foldQ_length : ∀ (l S : List Ent), (l.foldl insQ S).length = S.length + l.length
  | [], S => rfl
  | a :: r, S => by rw [List.foldl_cons, foldQ_length r, insQ_length, List.length_cons]; omega
theorem sortN_length (l : List Ent) (i : Nat) (h : i ≤ l.length) : (sortN l i).length = i := by
  unfold sortN; rw [foldQ_length, List.length_take]; simp; omega
theorem sortN_succ (l : List Ent) (i : Nat) (h : i < l.length) : sortN l (i + 1) = insQ (sortN l i) l[i] := by
  unfold sortN; rw [List.take_succ_eq_append_getElem h, List.foldl_append]; rfl
theorem sortN_all (l : List Ent) : sortN l l.length = qSorted l := by unfold sortN qSorted; rw [List.take_length]
theorem qSorted_length (l : List Ent) : (qSorted l).length = l.length := by unfold qSorted; rw [foldQ_length]; simp
theorem flatE_append (a b : List Ent) : flatE (a ++ b) = flatE a ++ flatE b := by unfold flatE; rw [List.flatMap_append]
theorem flatE_cons (e : Ent) (b : List Ent) : flatE (e :: b) = [.string e.key, .string e.text] ++ flatE b := by unfold flatE; rw [List.flatMap_cons]; rfl
theorem less_eq (a b : ByteArray) : Op.bytesLess a.toList b.toList = ltK a b := by
  rw [ByteArray.toList_eq, ByteArray.toList_eq, bb_less]; rfl
theorem own_cases {w : World} {base : Nat} {e : TypeId} {size : Nat} {A : Option Addr} {n c : Nat} {xs : List Value} (h : w.ownsRow base e size (.slice A n c) n xs) : (A = none ∧ c = 0 ∧ n = 0) ∨ ∃ g, A = some ⟨g, 0, none⟩ := by
  rcases h.2 with ⟨hv, h0⟩ | ⟨g, cap, cur, hv, _⟩
  · injection hv with h1 h2 h3; exact .inl ⟨h1, h3, h0⟩
  · injection hv with h1 h2 h3; exact .inr ⟨g, h1⟩
theorem news_take {w : World} {lo hi : Nat} {A : Option Addr} {n c : Nat} {S : List Ent} (h : ListOk Enc.ent w lo hi (.slice A n c) S) (j : Nat) (hj : j ≤ S.length) :
    j = 0 ∨ ∃ b o, A = some ⟨b, o, none⟩ ∧ ∀ q u, (flatE (S.take j))[q]? = some u → w.cell? ⟨b, o + q, none⟩ = some u := by
  have h1 := h.take j hj
  have e : (S.take j).length = j := by rw [List.length_take]; omega
  have h2 := news_ents (c := c) (A := A) (l := S.take j) (w := w) (lo := lo) (hi := hi) (by rw [e]; exact h1)
  rwa [e] at h2
theorem news_drop {w : World} {lo hi : Nat} {A A' : Option Addr} {n c : Nat} {S : List Ent} (h : ListOk Enc.ent w lo hi (.slice A n c) S) (j : Nat) (hj : j ≤ S.length) (hA : j < S.length → ∃ b o, A = some ⟨b, o, none⟩ ∧ A' = some ⟨b, o + j * 2, none⟩) :
    S.length - j = 0 ∨ ∃ b o, A' = some ⟨b, o, none⟩ ∧ ∀ q u, (flatE (S.drop j))[q]? = some u → w.cell? ⟨b, o + q, none⟩ = some u := by
  by_cases hlt : j < S.length
  · obtain ⟨b, o, rfl, rfl⟩ := hA hlt
    have h1 := h.drop j hj (S.length - j) (Nat.le_refl _)
    have e : (S.drop j).length = S.length - j := List.length_drop
    have h2 := news_ents (l := S.drop j) (by rw [e]; exact h1)
    rwa [e] at h2
  · exact .inl (by omega)

set_option maxHeartbeats 6400000 in
set_option maxRecDepth 100000 in
theorem qsorted_any (v : Value) (l : List Ent) (lo : Nat) (w : World) (hv : ListOk Enc.ent w lo w.heap.size v l) (hn : l.length ≤ 1000000) :
    Calls Tryz.prog 12 #[v] w fun e w' => ∃ v', e = .returned v' ∧ w'.ownsRow w.heap.size 33 2 v' l.length (flatE (qSorted l)) ∧ Below w.heap.size w w' := by
  have HL : Hid (∀ W, Below w.heap.size w W → ListOk Enc.ent W lo w.heap.size v l) := Lib.hid fun W hW => hv.below Enc.ent_laws hW
  have HQ := Lib.hid (sortN_all l)
  obtain ⟨A, c, rfl, _⟩ := hv.form
  clear hv
  go_enter Tryz.func12, Tryz.ntmps12
  go_wp2_with fail
  go_loopw [3, 4, 5, 6] (fun s i _ _ wr => ∃ k : Nat, k ≤ l.length ∧ i = .int .i64 k ∧ wr.ownsRow w.heap.size 33 2 s k (flatE (sortN l k)) ∧ Below w.heap.size w wr) (fun _ i _ _ _ => l.length - (intOf i).toNat)
  case atStart => exact ⟨0, Nat.zero_le _, rfl, own_nil, Below.refl _ _⟩
  case round =>
    obtain ⟨k, hk, rfl, hrow, hb⟩ := hrel
    obtain ⟨B3, c3, rfl, hc3⟩ := own_slice hrow
    have hbs := hb.size
    have HB := Lib.hid hb
    by_cases hlt : k < l.length
    · obtain ⟨xb, xo, rfl, px1, px2, x0, x1⟩ := (HL.out wr hb).entAt k hlt
      have HSu := Lib.hid (sortN_succ l k hlt)
      have hSl := sortN_length l k hk
      generalize l[k] = x at *
      obtain ⟨ky, tx⟩ := x
      generalize sortN l k = S at *
      subst hSl
      have hls := ents_of_own (lo := w.heap.size) (hi := wr.heap.size) hrow (Nat.le_refl _) (Nat.le_refl _)
      have HRow := Lib.hid hrow
      have HLs : Hid (∀ W, Below wr.heap.size wr W → ListOk Enc.ent W w.heap.size wr.heap.size (.slice B3 S.length c3) S) := Lib.hid fun W hW => hls.below Enc.ent_laws hW
      have HLsn : Hid (∀ n, ListOk Enc.ent (wr.drewN n) w.heap.size wr.heap.size (.slice B3 S.length c3) S) := Lib.hid fun n => hls.below Enc.ent_laws (below_drewN (Below.refl _ _) n)
      dsimp only at x0 x1 HSu
      obtain ⟨wo, rfl⟩ : ∃ wo : World, wo = wr := ⟨_, rfl⟩
      clear hrow hb hls
      go_wp2_with fail
      go_loopw [5] (fun jj wr' => ∃ j : Nat, j ≤ S.length ∧ jj = .int .i64 j ∧ (∀ q (h : q < S.length), q < j → ltK S[q].key ky = true) ∧ ∃ n, wr' = wo.drewN n) (fun jj _ => S.length - (intOf jj).toNat)
      case atStart => exact ⟨0, Nat.zero_le _, rfl, fun _ _ h => absurd h (by omega), 0, rfl⟩
      case round =>
        obtain ⟨j, hj, rfl, hno0, n, rfl⟩ := hrel
        have Hno := Lib.hid hno0
        clear hno0
        have j0 : (0 : Int) ≤ (j : Int) := Int.natCast_nonneg j
        have i0 : (0 : Int) ≤ (S.length : Int) := Int.natCast_nonneg S.length
        have i1 : (S.length : Int) < (l.length : Int) := by omega
        by_cases hjl : j < S.length ∧ ∀ h : j < S.length, ltK S[j].key ky = true
        · obtain ⟨hjl, hlk⟩ := hjl
          have hlk := hlk hjl
          obtain ⟨yb, yo, rfl, py1, py2, y0, _⟩ := (HLsn.out n).entAt j hjl
          have hle : Op.bytesLess S[j].key.toList ky.toList = true := by rw [less_eq]; exact hlk
          have Hlk := Lib.hid hlk
          have j1 : (j : Int) < (S.length : Int) := by omega
          have hd : decide ((j : Int) < (S.length : Int)) = true := decide_eq_true j1
          have hd2 : decide (j < S.length) = true := decide_eq_true hjl
          have y0' : wo.cell? ⟨yb, yo + j * 2, none⟩ = some (.string S[j].key) := y0
          clear y0 hlk
          generalize hsj : S[j].key = sk at *
          have Hsj := Lib.hid hsj
          clear hsj
          go_wp2_with fail
          go_quiet (fail)
          go_wp2_with fail
          exact ⟨⟨j + 1, by omega, by go_num, fun q h hq => by
            rcases Nat.lt_or_eq_of_le (Nat.le_of_lt_succ hq) with h2 | h2
            · exact Hno.out q h h2
            · subst h2; rw [Hsj.out]; exact Hlk.out, _, rfl⟩, by simp [intOf]; omega⟩
        · have HC : Hid (insQ S ⟨ky, tx⟩ = S.take j ++ ⟨ky, tx⟩ :: S.drop j) := Lib.hid (insQ_cut j hj Hno.out fun h => by
            cases hc : ltK S[j].key ky with
            | false => rfl
            | true => exact absurd ⟨h, fun _ => hc⟩ hjl)
          have HNt : Hid (∀ W, Below wo.heap.size wo W → (j = 0 ∨ ∃ b o, B3 = some ⟨b, o, none⟩ ∧ ∀ q u, (flatE (S.take j))[q]? = some u → W.cell? ⟨b, o + q, none⟩ = some u)) := Lib.hid fun W hW => news_take (HLs.out W hW) j hj
          have HNd : Hid (∀ (W : World) (A' : Option Addr), Below wo.heap.size wo W → (j < S.length → ∃ b o, B3 = some ⟨b, o, none⟩ ∧ A' = some ⟨b, o + j * 2, none⟩) → (S.length - j = 0 ∨ ∃ b o, A' = some ⟨b, o, none⟩ ∧ ∀ q u, (flatE (S.drop j))[q]? = some u → W.cell? ⟨b, o + q, none⟩ = some u)) := Lib.hid fun W A' hW hA => news_drop (A' := A') (HLs.out W hW) j hj hA
          have htl : (flatE (S.take j)).length = j * 2 := by rw [flatE_length, List.length_take]; omega
          have hdl : (flatE (S.drop j)).length = (S.length - j) * 2 := by rw [flatE_length, List.length_drop]
          have hB3 := own_cases HRow.out
          have HT := Lib.hid htl
          have HD := Lib.hid hdl
          clear htl hdl
          by_cases hjs : j < S.length
          case' pos =>
            obtain ⟨yb, yo, hB, py1, py2, y0, _⟩ := (HLsn.out n).entAt j hjs
            subst hB
            have hlf : ltK S[j].key ky = false := by
              cases hc : ltK S[j].key ky with
              | false => rfl
              | true => exact absurd ⟨hjs, fun _ => hc⟩ hjl
            have hle : Op.bytesLess S[j].key.toList ky.toList = false := by rw [less_eq]; exact hlf
            have j1 : (j : Int) < (S.length : Int) := by omega
            have hd : decide ((j : Int) < (S.length : Int)) = true := decide_eq_true j1
            have y0' : wo.cell? ⟨yb, yo + j * 2, none⟩ = some (.string S[j].key) := y0
            clear y0 hlf hjl
            generalize S[j].key = sk at *
            go_wp2_with fail
            go_quiet (fail)
            clear y0' hle j1 hd
            obtain ⟨m, hm⟩ : ∃ m, m = n + nq := ⟨_, rfl⟩
            rw [World.drewN_drewN, ← hm]
            clear hm
          case' neg =>
            have hd : decide ((j : Int) < (S.length : Int)) = false := decide_eq_false (by omega)
            rcases hB3 with ⟨hB, hc0, hS0⟩ | ⟨g, hB⟩
            all_goals
              subst hB
              (try (have hc00 := Nat.le_of_eq hc0; have hS00 := Nat.le_of_eq hS0; clear hc0 hS0))
              go_wp2_with fail
              go_quiet (fail)
              clear hd hjl
              obtain ⟨m, hm⟩ : ∃ m, m = n + nq := ⟨_, rfl⟩
              rw [World.drewN_drewN, ← hm]
              clear hm
          all_goals
            have HBm : Hid (Below wo.heap.size wo (wo.drewN m)) := Lib.hid (below_drewN (Below.refl _ _) m)
            go_wp2_with (at_builtin; refine wpList_append_any rfl _ _ 22 rfl wo.heap.size 33 Tryz.underlying22 info_ent rfl (by decide) [] rfl own_nil (flatE (S.take j)) rfl HT.out (HNt.out _ HBm.out) (flatE_one _) (by unfold maxLen; omega) (by omega) (Nat.le_refl _) ?_)
            intro v6 w6 hown6 hgrow6 _
            obtain ⟨B6, c6, rfl, _⟩ := own_slice hown6
            have hb6 : Below wo.heap.size wo w6 := HBm.out.grown hgrow6 (Nat.le_refl _) (fun k hk => by cases hk)
            have HB6 := Lib.hid hb6
            have HOw6 := Lib.hid hown6
            have z0 : w6.cell? ⟨xb, xo + S.length * 2, none⟩ = some (.string ky) := (hb6.cell (p := ⟨xb, xo + S.length * 2, none⟩) (by show xb < _; omega)).trans x0
            have z1 : w6.cell? ⟨xb, xo + S.length * 2 + 1, none⟩ = some (.string tx) := (hb6.cell (p := ⟨xb, xo + S.length * 2 + 1, none⟩) (by show xb < _; omega)).trans x1
            have hs6 := hb6.size
            clear hown6 hgrow6 hb6 x0 x1
            have HnX : Hid (∀ q u, ([Value.string ky, .string tx] : List Value)[q]? = some u → (w6.alloc (.cells #[.string ky, .string tx] 33)).cell? ⟨w6.heap.size, 0 + q, none⟩ = some u) := Lib.hid fun q u hq => by
              rw [Nat.zero_add, (Blk.new w6 33 #[.string ky, .string tx]).cell q]; simpa using hq
            have HOa := Lib.hid (own_below HOw6.out ((Below.refl w6.heap.size w6).alloc (Nat.le_refl _) (.cells #[.string ky, .string tx] 33)) (Nat.le_refl _))
            go_wp2_with (at_builtin; refine wpList_append_any rfl _ _ 22 rfl wo.heap.size 33 Tryz.underlying22 info_ent rfl (by decide) (flatE (S.take j)) rfl HOa.out [.string ky, .string tx] rfl rfl (.inr ⟨_, _, rfl, HnX.out⟩) (by simp [Value.oneCell']) (by unfold maxLen; omega) (by omega) (by simp; omega) ?_)
            intro v7 w7 hown7 hgrow7 _
            obtain ⟨B7, c7, rfl, _⟩ := own_slice hown7
            have hb7 : Below wo.heap.size wo w7 := (HB6.out.alloc hs6 _).grown hgrow7 (by simp; omega) (fun k hk => (own_lt HOa.out hk).1)
            have HB7 := Lib.hid hb7
            have HOw7 := Lib.hid hown7
            have hs7 := hb7.size
            clear hown7 hgrow7 hb7 HnX HOa HOw6 z0 z1
            have i3 : (j : Int) ≤ (S.length : Int) := by omega
            have HSu2 : Hid (flatE (sortN l (S.length + 1)) = flatE (S.take j) ++ .string ky :: .string tx :: flatE (S.drop j)) := Lib.hid (by
              rw [HSu.out, HC.out, flatE_append, flatE_cons]; rfl)
            by_cases hcj : c3 = j
            case' pos =>
              have t5 := eq_true hcj
              clear hcj
            all_goals
              go_wp2_with (at_builtin; refine wpList_append_any rfl _ _ 22 rfl wo.heap.size 33 Tryz.underlying22 info_ent rfl (by decide) (flatE (S.take j) ++ [Value.string ky, Value.string tx]) rfl HOw7.out (flatE (S.drop j)) rfl HD.out (HNd.out _ _ HB7.out (by first | (intro h; exfalso; have := of_eq_true t5; omega) | (intro h; exact ⟨_, _, rfl, by first | rfl | simp⟩) | (intro h; exfalso; have := of_eq_true t5; omega) | (intro h; exfalso; omega))) (flatE_one _) (by unfold maxLen; omega) (by omega) (by omega) ?_)
              intro v8 w8 hown8 hgrow8 _
              obtain ⟨B8, c8, rfl, _⟩ := own_slice hown8
              have hb8 : Below wo.heap.size wo w8 := HB7.out.grown hgrow8 hs7 (fun k hk => (own_lt HOw7.out hk).1)
              have HB8 := Lib.hid (HB.out.trans (hb8.mono hbs))
              have HO8 : Hid (w8.ownsRow w.heap.size 33 2 (.slice B8 (j + 1 + (S.length - j)) c8) (S.length + 1) (flatE (sortN l (S.length + 1)))) := Lib.hid (by
                rw [HSu2.out]
                have e : S.length + 1 = j + 1 + (S.length - j) := by omega
                rw [e]
                exact own_mono hown8 hbs)
              clear hown8 hgrow8 hb8
              go_wp2_with fail
              exact ⟨⟨S.length + 1, by omega, by go_num, HO8.out, HB8.out⟩, by simp [intOf]; omega⟩
    · obtain rfl : k = l.length := by omega
      rw [HQ.out] at hrow
      have HRow := Lib.hid hrow
      clear hrow hb
      go_wp2_with fail
      go_ret
      exact ⟨_, rfl, HRow.out, HB.out⟩
end Go.Proofs.YtiaobgapfoogiaaGreatDoor
