/- The law PackOwn. -/
import Derived.Test.YtmpjfomfibkbnaaGreatDoorPackB
import Derived.Test.YtmpjfomfibkbnaaGreatDoorSpoil
set_option linter.unusedSimpArgs false
set_option linter.unusedVariables false
namespace Go.Proofs.YtmpjfomfibkbnaaGreatDoor
open Go.RowKit

theorem en_len : ∀ l, bytesB ⟨enB, []⟩ = l → l.length = 13 := fun l h => by
  obtain ⟨m, h1, h2, _⟩ := en_bytes
  rw [← h, h1, h2]
theorem own_fr {w w' : World} {base g : Nat} {e : TypeId} {size n : Nat} {v : Value} {xs : List Value} (h : w.ownsRow base e size v n xs) (hf : Fr w w' (· = g)) (hne : v.ownBlock ≠ some g) : w'.ownsRow base e size v n xs :=
  own_keep h fun k hk hlt => hf.block k hlt fun (e : k = g) => hne (by rw [hk, e])
theorem own_typ {w : World} {base base' : Nat} {e e' : TypeId} {size size' n n' : Nat} {v v' : Value} {xs xs' : List Value} {g : Nat} (h : w.ownsRow base e size v n xs) (h' : w.ownsRow base' e' size' v' n' xs') (hne : e ≠ e') (hg : v'.ownBlock = some g) : v.ownBlock ≠ some g := fun hk => own_types h h' hne hk hg
theorem below_fr {B g : Nat} {w w' : World} (h : Fr w w' (· = g)) (hB : B ≤ w.heap.size) (hg : B ≤ g) : Below B w w' := Fr.below (Below.refl B w) h hB fun i e => by have : i = g := e; omega

set_option maxHeartbeats 12800000 in
set_option maxRecDepth 100000 in
theorem packOwn_any (b : Bun) (v : Value) (x : UInt8) (s : ByteArray) (w : World) (h : BunIn w b v) (hm : MaxVar w) :
    Calls Tryz.prog 5 #[.agg #[.string b.tag, v], .int .u8 x.toNat, .string s] w fun e w' => e = .returned (.bool true) ∧ Below w.heap.size w w' := by
  obtain ⟨lo, hl⟩ := h.lo
  obtain ⟨A, c, rfl, _⟩ := hl.form
  have HI := Lib.hid h
  have HM := Lib.hid hm
  obtain ⟨bt, l⟩ := b
  dsimp only at *
  clear h hm hl
  have hin0 : BunIn w ⟨enB, []⟩ (.slice none 0 0) := ⟨⟨0, ListOk.nil _ _⟩, by decide, by decide, fun e he => (by cases he)⟩
  have HI0 := Lib.hid hin0
  clear hin0
  go_enter Tryz.func5, Tryz.ntmps5
  obtain ⟨W1, eW1⟩ : ∃ W1, W1 = w.alloc (.cells #[.string bt, .slice A l.length c] 24) := ⟨_, rfl⟩
  have hb01 : Below w.heap.size w W1 := by rw [eW1]; exact (Below.refl _ _).alloc (Nat.le_refl _) _
  have hs1 : W1.heap.size = w.heap.size + 1 := by rw [eW1]; simp
  have MB : Hid (Blk W1 w.heap.size 24 #[.string bt, .slice A l.length c]) := Lib.hid (by rw [eW1]; exact Blk.new _ _ _)
  have HB01 := Lib.hid hb01
  have HI1 := Lib.hid (HI.out.below hb01)
  have HM1 := Lib.hid (HM.out.below hb01)
  have HE0 := Lib.hid (encode_any ⟨enB, []⟩ _ W1 (HI0.out.below hb01) HM1.out)
  go_upto_region 1 with fail
  rw [← eW1]
  clear eW1 hb01
  go_wp2_with fail
  refine HE0.out.mono ?_
  clear HE0
  rintro e w2 hr
  obtain ⟨hb2, ⟨h0, _⟩ | ⟨_, A2, c2, rfl, hu2⟩⟩ := enc_uni hr
  · exact absurd en_ok h0
  have hl13 := en_len _ rfl
  generalize bytesB ⟨enB, []⟩ = L0 at *
  rw [hl13] at hu2 ⊢
  have HB2 := Lib.hid hb2
  have m2 := MB.out.below hb2 (by omega)
  have c0 : w2.cell? ⟨w.heap.size, 0, none⟩ = some (.string bt) := (m2.cell 0).trans rfl
  have c1 : w2.cell? ⟨w.heap.size, 1, none⟩ = some (.slice A l.length c) := (m2.cell 1).trans rfl
  have HE := Lib.hid (encode_any ⟨bt, l⟩ _ w2 (HI1.out.below hb2) (HM1.out.below hb2))
  clear hr hu2 hl13 m2 hb2
  go_wp2_with fail
  refine HE.out.mono ?_
  clear HE
  rintro e w3 hr
  obtain ⟨hb3, ⟨hf, rfl⟩ | ⟨hR, A3, c3, rfl, hu3⟩⟩ := enc_uni hr
  · have HB3 := Lib.hid (HB01.out.trans ((HB2.out.trans (hb3.mono HB2.out.size)).mono HB01.out.size))
    rw [errV_ne hf]
    clear hr hb3 c0 c1
    go_wp2_with fail
    go_ret
    exact ⟨rfl, HB3.out⟩
  · have hlen := bytes_le hR
    have hlen4 := bytes_len ⟨bt, l⟩
    obtain ⟨g1, g2⟩ := unpack_bytes hR
    have hSl : (srt l).length = l.length := srt_length hR.uniq
    have hl100 : l.length ≤ 100 := hR.len
    have hS100 : (srt l).length ≤ 100 := by rw [hSl]; exact hl100
    have HDec : Hid (∀ W v lo', ListOk Enc.byte W lo' W.heap.size v (bytesB ⟨bt, l⟩) → Below W1.heap.size W1 W → Calls Tryz.prog 12 #[v] W fun e w' => ∃ A6 c6, e = .returned (.tuple #[.agg #[.string bt, .slice A6 (srt l).length c6], .nilIface]) ∧ w'.ownsRow W.heap.size 32 2 (.slice A6 (srt l).length c6) (srt l).length (flatE (srt l)) ∧ Below W.heap.size W w') := Lib.hid fun W v lo' hv hW => by
      have hd := decode_at lo' v _ W hv (by omega) (HM1.out.below hW)
      rw [g1, g2, errV_zero] at hd
      refine hd.mono ?_
      rintro e w' ⟨u, rfl, hu, hb⟩
      obtain ⟨A6, c6, rfl, _⟩ := own_slice hu
      exact ⟨A6, c6, rfl, hu, hb⟩
    have HEnc : Hid (∀ W, Below W1.heap.size W1 W → Calls Tryz.prog 10 #[.agg #[.string bt, .slice A l.length c]] W fun e w' => ∃ A6 c6, e = .returned (.tuple #[.slice A6 (bytesB ⟨bt, l⟩).length c6, .nilIface]) ∧ w'.ownsRow W.heap.size 5 1 (.slice A6 (bytesB ⟨bt, l⟩).length c6) (bytesB ⟨bt, l⟩).length (bytesV (bytesB ⟨bt, l⟩)) ∧ Below W.heap.size W w') := Lib.hid fun W hW => by
      refine (encode_any ⟨bt, l⟩ _ W (HI1.out.below hW) (HM1.out.below hW)).mono ?_
      rintro e w' hr
      obtain ⟨hb, ⟨hf, _⟩ | ⟨_, A6, c6, rfl, hu⟩⟩ := enc_uni hr
      · exact absurd ((right_iff ⟨bt, l⟩).2 hR) hf
      · exact ⟨A6, c6, rfl, hu, hb⟩
    have HBun : Hid (∀ W u v lo' lo2, ListOk Enc.ent W lo' W.heap.size u (srt l) → ListOk Enc.ent W lo2 W.heap.size v (srt l) → Calls Tryz.prog 13 #[.agg #[.string bt, u], .agg #[.string bt, v]] W fun e w' => e = .returned (.bool true) ∧ Below W.heap.size W w') := Lib.hid fun W u v lo' lo2 hu hv => sbun_same bt (srt l) u v _ _ _ _ W hu hv (Nat.le_refl _) (Nat.le_refl _) (by omega)
    have B3 := Lib.hid (HB2.out.trans (hb3.mono HB2.out.size))
    have hs13 := B3.out.size
    have HO3 := Lib.hid (bytes_of_own hu3 (Nat.le_refl w2.heap.size) (Nat.le_refl _))
    obtain ⟨ga, rfl, hga1, hga2, _⟩ := HasN.of_own hu3 (by omega)
    have RA3 := Lib.hid hu3
    have hs12 := HB2.out.size
    clear hr hb3 hu3 c0 c1 hR g1 g2 HB2 HI0 HI1
    generalize bytesB ⟨bt, l⟩ = L at *
    generalize srt l = S at *
    -- own := append([]byte{}, a...)
    have HE0 := Lib.hid (empty_own w3 w3.heap.size (Nat.le_refl _))
    have HNw := Lib.hid (news_bytes (HO3.out.below Enc.byte_laws ((Below.refl _ _).alloc (Nat.le_refl _) (.cells #[] 5))) rfl)
    clear hSl
    go_wp2_with (at_builtin; refine wpList_append_any rfl _ _ 26 rfl w3.heap.size 5 Tryz.underlying26 info_byte rfl (by decide) [] rfl HE0.out (bytesV L) rfl (by rw [bytesV_length, Nat.mul_one]) HNw.out (bytesV_one L) (by unfold maxLen; omega) (by omega) (by simp) ?_)
    intro v4 w4 hown4 hgrow4 _
    have hb4 : Below w3.heap.size w3 w4 := Below.grown ((Below.refl _ _).alloc (Nat.le_refl _) _) hgrow4 (by simp) (fun k hk => by simp [Value.ownBlock] at hk; omega)
    have hown : w4.ownsRow w3.heap.size 5 1 v4 L.length (bytesV L) := by simpa using hown4
    obtain ⟨A4, c4, rfl, _⟩ := own_slice hown
    obtain ⟨go, rfl, hgo1, hgo2, _⟩ := HasN.of_own hown (by omega)
    have RO4 := Lib.hid hown
    have RA4 := Lib.hid (own_below RA3.out hb4 (Nat.le_refl _))
    have B4 := Lib.hid (B3.out.trans (hb4.mono hs13))
    have hD := HDec.out w4 _ _ (bytes_of_own hown (Nat.le_refl _) (Nat.le_refl _)) B4.out
    have HD := Lib.hid hD
    have hs4 := hb4.size
    clear hown4 hgrow4 hb4 hown hD HE0 HNw RA3 HO3
    -- y, e2 := Decode(own)
    go_wp2_with fail
    refine HD.out.mono ?_
    clear HD
    rintro e w5 ⟨A5, c5, rfl, hu5, hb5⟩
    obtain ⟨W6, eW6⟩ : ∃ W6, W6 = w5.alloc (.cells #[.string bt, .slice A5 S.length c5] 24) := ⟨_, rfl⟩
    obtain ⟨py, epy⟩ : ∃ py, py = w5.heap.size := ⟨_, rfl⟩
    have hb56 : Below w5.heap.size w5 W6 := by rw [eW6]; exact (Below.refl _ _).alloc (Nat.le_refl _) _
    have hb46 := hb5.trans (hb56.mono hb5.size)
    have MY6 : Hid (Blk W6 py 24 #[.string bt, .slice A5 S.length c5]) := Lib.hid (by rw [eW6, epy]; exact Blk.new _ _ _)
    have RY6 := Lib.hid (own_below hu5 hb56 (Nat.le_refl _))
    have RA6 := Lib.hid (own_below RA4.out hb46 (Nat.le_refl _))
    have RO6 := Lib.hid (own_below RO4.out hb46 (Nat.le_refl _))
    have B6 := Lib.hid (B4.out.trans (hb46.mono (Nat.le_trans hs13 hs4)))
    have hs46 := hb46.size
    have hD0 : decide (L = L) = true := decide_eq_true rfl
    have HSb := Lib.hid (sbytes_any _ _ L L _ _ _ _ W6 (bytes_of_own RO6.out (Nat.le_refl _) (Nat.le_refl _)) (bytes_of_own RA6.out (Nat.le_refl _) (Nat.le_refl _)) (by omega) (by omega))
    rw [hD0] at HSb
    have hpy : w4.heap.size ≤ py := by rw [epy]; exact hb5.size
    clear hu5 hb5 hb56 hb46 hD0 RA4 RO4 B4
    go_upto_region 9 with fail
    rw [← eW6, ← epy]
    clear eW6 epy
    go_wp2_with fail
    refine HSb.out.mono ?_
    clear HSb
    rintro e w7 ⟨rfl, hb7⟩
    have MY7 := Lib.hid (MY6.out.below hb7 MY6.out.lt)
    have RY7 := Lib.hid (own_below RY6.out hb7 (Nat.le_refl _))
    have HYa := Lib.hid RY7.out
    have RA7 := Lib.hid (own_below RA6.out hb7 (Nat.le_refl _))
    have RO7 := Lib.hid (own_below RO6.out hb7 (Nat.le_refl _))
    have hs67 := hb7.size
    have B7 := Lib.hid (B6.out.trans (hb7.mono B6.out.size))
    clear hb7 MY6 RY6 RA6 RO6 B6
    obtain ⟨go', ego, _, _, hN7⟩ := HasN.of_own RO7.out (by omega)
    obtain rfl : go = go' := by injection ego with ego; injection ego
    rw [Nat.mul_one] at hN7
    have HN7 := Lib.hid hN7
    clear hN7 ego RO7
    go_wp2_with fail
    go_loopw [15] (fun i wr => ∃ j : Nat, j ≤ L.length ∧ i = .int .i64 j ∧ Fr w7 wr (· = go) ∧ HasN wr go 5 L.length) (fun i _ => L.length - (intOf i).toNat)
    case atStart => exact ⟨0, Nat.zero_le _, rfl, Fr.refl _ _, HN7.out⟩
    case round =>
      clear HN7
      obtain ⟨j, hj, rfl, hF, hN⟩ := hrel
      by_cases hlt : j < L.length
      · obtain ⟨⟨u, x0⟩, f0⟩ := hN.cell j hlt
        have HF := Lib.hid hF
        have HN := Lib.hid hN
        have hji : (j : Int) < (L.length : Int) := by omega
        clear hF hN
        go_wp2_with fail
        exact ⟨⟨j + 1, by omega, by go_num, HF.out.setCell (p := ⟨go, j, none⟩) (.inl rfl) _, HN.out.set j _⟩, by simp [intOf]; omega⟩
      · obtain rfl : j = L.length := by omega
        have hs18 : W1.heap.size ≤ w7.heap.size := B7.out.size
        have B8 : Hid (Below W1.heap.size W1 wr) := Lib.hid (B7.out.trans (below_fr hF hs18 (by omega)))
        have RA8 := Lib.hid (own_fr RA7.out hF (by intro e; injection e with e; have e' : ga = go := e; omega))
        have RY8 := Lib.hid (own_keep RY7.out fun k hk hkl => hF.block k hkl fun (e : k = go) => by
          have := (own_lt RY7.out hk).1
          omega)
        have MY8 := Lib.hid (MY7.out.fr hF (by show ¬ py = go; omega))
        have hs78 := hF.size
        have hD := HDec.out wr _ _ (bytes_of_own RA8.out (Nat.le_refl _) (Nat.le_refl _)) B8.out
        have HD := Lib.hid hD
        clear hF hN hD RA7 RY7 MY7 B7 hlt
        go_wp2_with fail
        refine HD.out.mono ?_
        clear HD
        rintro e w9 ⟨A9, c9, rfl, hu9, hb9⟩
        obtain ⟨W10, eW10⟩ : ∃ W10, W10 = w9.alloc (.cells #[.string bt, .slice A9 S.length c9] 24) := ⟨_, rfl⟩
        obtain ⟨pz, epz⟩ : ∃ pz, pz = w9.heap.size := ⟨_, rfl⟩
        have hbA : Below w9.heap.size w9 W10 := by rw [eW10]; exact (Below.refl _ _).alloc (Nat.le_refl _) _
        have hbB := hb9.trans (hbA.mono hb9.size)
        have MZ10 : Hid (Blk W10 pz 24 #[.string bt, .slice A9 S.length c9]) := Lib.hid (by rw [eW10, epz]; exact Blk.new _ _ _)
        have RZ10 := Lib.hid (own_below hu9 hbA (Nat.le_refl _))
        have RA10 := Lib.hid (own_below RA8.out hbB (Nat.le_refl _))
        have RY10 := Lib.hid (own_below RY8.out hbB (Nat.le_refl _))
        have MY10 := Lib.hid (MY8.out.below hbB MY8.out.lt)
        have B10 := Lib.hid (B8.out.trans (hbB.mono B8.out.size))
        have hpz : wr.heap.size ≤ pz := by rw [epz]; exact hb9.size
        have hs810 := hbB.size
        have y0 : W10.cell? ⟨py, 0, none⟩ = some (.string bt) := (MY10.out.cell 0).trans rfl
        have y1 : W10.cell? ⟨py, 1, none⟩ = some (.slice A5 S.length c5) := (MY10.out.cell 1).trans rfl
        have z0 : W10.cell? ⟨pz, 0, none⟩ = some (.string bt) := (MZ10.out.cell 0).trans rfl
        have z1 : W10.cell? ⟨pz, 1, none⟩ = some (.slice A9 S.length c9) := (MZ10.out.cell 1).trans rfl
        have hB1 := HBun.out W10 _ _ _ _ (ents_of_own RY10.out (Nat.le_refl _) (Nat.le_refl _)) (ents_of_own RZ10.out (Nat.le_refl _) (Nat.le_refl _))
        have HB1 := Lib.hid hB1
        clear hu9 hb9 hbA hbB hB1 RA8 RY8 MY8 B8
        go_upto_region 15 with fail
        rw [← eW10, ← epz]
        clear eW10 epz
        go_wp2_with fail
        refine HB1.out.mono ?_
        clear HB1
        rintro e w11 ⟨rfl, hb11⟩
        have MY11 := Lib.hid (MY10.out.below hb11 MY10.out.lt)
        have MZ11 := Lib.hid (MZ10.out.below hb11 MZ10.out.lt)
        have RA11 := Lib.hid (own_below RA10.out hb11 (Nat.le_refl _))
        have RY11 := Lib.hid (own_below RY10.out hb11 (Nat.le_refl _))
        have RZ11 := Lib.hid (own_below RZ10.out hb11 (Nat.le_refl _))
        have B11 := Lib.hid (B10.out.trans (hb11.mono B10.out.size))
        have hs1011 := hb11.size
        have u0 : w11.cell? ⟨py, 0, none⟩ = some (.string bt) := (MY11.out.cell 0).trans rfl
        have u1 : w11.cell? ⟨py, 1, none⟩ = some (.slice A5 S.length c5) := (MY11.out.cell 1).trans rfl
        have HSp := Lib.hid (spoil_any bt s A5 S.length c5 _ _ w11 RY11.out (by omega))
        clear hb11 y0 y1 z0 z1 MY10 MZ10 RA10 RY10 RZ10 B10
        go_wp2_with fail
        refine HSp.out.mono ?_
        clear HSp
        rintro e w12 ⟨rfl, hF⟩
        have hyk : ∀ k, OwnB (.slice A5 S.length c5) k → w4.heap.size ≤ k ∧ k < w7.heap.size := fun k hk => by
          refine ⟨(own_lt RY11.out hk).1, ?_⟩
          exact (own_lt HYa.out hk).2
        have hs1112 := hF.size
        have HFy := Lib.hid hF
        have MZ12 := Lib.hid (MZ11.out.fr hF (fun hk => by have := (hyk pz hk).2; omega))
        have RZ12 := Lib.hid (own_keep RZ11.out fun k hk hkl => hF.block k hkl fun hk2 => by
          have h1 := (own_lt RZ11.out hk).1
          have h2 := (hyk k hk2).2
          omega)
        have RA12 := Lib.hid (own_keep RA11.out fun k hk hkl => hF.block k hkl fun hk2 => by
          have h1 : ga = k := by injection hk
          have h2 := (hyk k hk2).1
          omega)
        have B12 : Hid (Below W1.heap.size W1 w12) := Lib.hid (Fr.below B11.out hF B11.out.size fun k hk => by have := (hyk k hk).1; omega)
        have hD := HDec.out w12 _ _ (bytes_of_own RA12.out (Nat.le_refl _) (Nat.le_refl _)) B12.out
        have HD := Lib.hid hD
        clear hF hD hyk u0 u1 MY11 MZ11 RA11 RY11 RZ11 B11
        go_wp2_with fail
        refine HD.out.mono ?_
        clear HD
        rintro e w13 ⟨A13, c13, rfl, hu13, hb13⟩
        obtain ⟨W14, eW14⟩ : ∃ W14, W14 = w13.alloc (.cells #[.string bt, .slice A13 S.length c13] 24) := ⟨_, rfl⟩
        obtain ⟨pw, epw⟩ : ∃ pw, pw = w13.heap.size := ⟨_, rfl⟩
        have hbA : Below w13.heap.size w13 W14 := by rw [eW14]; exact (Below.refl _ _).alloc (Nat.le_refl _) _
        have hbB := hb13.trans (hbA.mono hb13.size)
        have MW14 : Hid (Blk W14 pw 24 #[.string bt, .slice A13 S.length c13]) := Lib.hid (by rw [eW14, epw]; exact Blk.new _ _ _)
        have RW14 := Lib.hid (own_below hu13 hbA (Nat.le_refl _))
        have MZ14 := Lib.hid (MZ12.out.below hbB MZ12.out.lt)
        have RZ14 := Lib.hid (own_below RZ12.out hbB (Nat.le_refl _))
        have RA14 := Lib.hid (own_below RA12.out hbB (Nat.le_refl _))
        have B14 := Lib.hid (B12.out.trans (hbB.mono B12.out.size))
        have hs1214 := hbB.size
        have y0 : W14.cell? ⟨pw, 0, none⟩ = some (.string bt) := (MW14.out.cell 0).trans rfl
        have y1 : W14.cell? ⟨pw, 1, none⟩ = some (.slice A13 S.length c13) := (MW14.out.cell 1).trans rfl
        have z0 : W14.cell? ⟨pz, 0, none⟩ = some (.string bt) := (MZ14.out.cell 0).trans rfl
        have z1 : W14.cell? ⟨pz, 1, none⟩ = some (.slice A9 S.length c9) := (MZ14.out.cell 1).trans rfl
        have hB1 := HBun.out W14 _ _ _ _ (ents_of_own RW14.out (Nat.le_refl _) (Nat.le_refl _)) (ents_of_own RZ14.out (Nat.le_refl _) (Nat.le_refl _))
        have HB1 := Lib.hid hB1
        clear hu13 hb13 hbA hbB hB1 MZ12 RZ12 RA12 B12 HFy
        go_upto_region 18 with fail
        rw [← eW14, ← epw]
        clear eW14 epw
        go_wp2_with fail
        refine HB1.out.mono ?_
        clear HB1
        rintro e w15 ⟨rfl, hb15⟩
        have MZ15 := Lib.hid (MZ14.out.below hb15 MZ14.out.lt)
        have RZ15 := Lib.hid (own_below RZ14.out hb15 (Nat.le_refl _))
        have RA15 := Lib.hid (own_below RA14.out hb15 (Nat.le_refl _))
        have B15 := Lib.hid (B14.out.trans (hb15.mono B14.out.size))
        have hs1415 := hb15.size
        obtain ⟨ga', ega, _, _, hN15⟩ := HasN.of_own RA15.out (by omega)
        obtain rfl : ga = ga' := by injection ega with ega; injection ega
        rw [Nat.mul_one] at hN15
        have HN15 := Lib.hid hN15
        clear hb15 y0 y1 z0 z1 MW14 RW14 MZ14 RZ14 RA14 B14 hN15 ega
        obtain ⟨wo, rfl⟩ : ∃ wo : World, wo = wr := ⟨_, rfl⟩
        go_wp2_with fail
        go_loopw [22] (fun i wr2 => ∃ j : Nat, j ≤ L.length ∧ i = .int .i64 j ∧ Fr w15 wr2 (· = ga) ∧ HasN wr2 ga 5 L.length) (fun i _ => L.length - (intOf i).toNat)
        case atStart => exact ⟨0, Nat.zero_le _, rfl, Fr.refl _ _, HN15.out⟩
        case round =>
          clear HN15
          obtain ⟨j, hj, rfl, hF, hN⟩ := hrel
          by_cases hlt : j < L.length
          · obtain ⟨⟨u, x0⟩, f0⟩ := hN.cell j hlt
            have HF := Lib.hid hF
            have HN := Lib.hid hN
            have hji : (j : Int) < (L.length : Int) := by omega
            clear hF hN
            go_wp2_with fail
            exact ⟨⟨j + 1, by omega, by go_num, HF.out.setCell (p := ⟨ga, j, none⟩) (.inl rfl) _, HN.out.set j _⟩, by simp [intOf]; omega⟩
          · obtain rfl : j = L.length := by omega
            have B16 := Lib.hid (B15.out.trans (below_fr hF B15.out.size (by omega)))
            have RZ16 := Lib.hid (own_keep RZ15.out fun k hk hkl => hF.block k hkl fun (e : k = ga) => by
              have := (own_lt RZ15.out hk).1
              omega)
            have MZ16 := Lib.hid (MZ15.out.fr hF (by show ¬ pz = ga; omega))
            have c0 := (MB.out.below B16.out (by omega)).cell 0
            have c1 := (MB.out.below B16.out (by omega)).cell 1
            simp at c0 c1
            have HE := Lib.hid (HEnc.out _ B16.out)
            clear hF hN hlt RA15 RZ15 MZ15 B15
            go_wp2_with fail
            refine HE.out.mono ?_
            clear HE
            rintro e w17 ⟨A17, c17, rfl, hu17, hb17⟩
            have B17 := Lib.hid (B16.out.trans (hb17.mono B16.out.size))
            have RZ17 := Lib.hid (own_below RZ16.out hb17 (Nat.le_refl _))
            have MZ17 := Lib.hid (MZ16.out.below hb17 MZ16.out.lt)
            have HD := Lib.hid (HDec.out w17 _ _ (bytes_of_own hu17 (Nat.le_refl _) (Nat.le_refl _)) B17.out)
            clear hu17 hb17 c0 c1 RZ16 MZ16 B16
            go_wp2_with fail
            refine HD.out.mono ?_
            clear HD
            rintro e w18 ⟨A18, c18, rfl, hu18, hb18⟩
            obtain ⟨W19, eW19⟩ : ∃ W19, W19 = w18.alloc (.cells #[.string bt, .slice A18 S.length c18] 24) := ⟨_, rfl⟩
            obtain ⟨pd, epd⟩ : ∃ pd, pd = w18.heap.size := ⟨_, rfl⟩
            have hbA : Below w18.heap.size w18 W19 := by rw [eW19]; exact (Below.refl _ _).alloc (Nat.le_refl _) _
            have hbB := hb18.trans (hbA.mono hb18.size)
            have MD19 : Hid (Blk W19 pd 24 #[.string bt, .slice A18 S.length c18]) := Lib.hid (by rw [eW19, epd]; exact Blk.new _ _ _)
            have RD19 := Lib.hid (own_below hu18 hbA (Nat.le_refl _))
            have MZ19 := Lib.hid (MZ17.out.below hbB MZ17.out.lt)
            have RZ19 := Lib.hid (own_below RZ17.out hbB (Nat.le_refl _))
            have B19 := Lib.hid (B17.out.trans (hbB.mono B17.out.size))
            have y0 : W19.cell? ⟨pd, 0, none⟩ = some (.string bt) := (MD19.out.cell 0).trans rfl
            have y1 : W19.cell? ⟨pd, 1, none⟩ = some (.slice A18 S.length c18) := (MD19.out.cell 1).trans rfl
            have z0 : W19.cell? ⟨pz, 0, none⟩ = some (.string bt) := (MZ19.out.cell 0).trans rfl
            have z1 : W19.cell? ⟨pz, 1, none⟩ = some (.slice A9 S.length c9) := (MZ19.out.cell 1).trans rfl
            have HB1 := Lib.hid (HBun.out W19 _ _ _ _ (ents_of_own RD19.out (Nat.le_refl _) (Nat.le_refl _)) (ents_of_own RZ19.out (Nat.le_refl _) (Nat.le_refl _)))
            clear hu18 hb18 hbA hbB MZ17 RZ17 B17
            go_upto_region 25 with fail
            rw [← eW19, ← epd]
            clear eW19 epd
            go_wp2_with fail
            refine HB1.out.mono ?_
            clear HB1
            rintro e w20 ⟨rfl, hb20⟩
            have HB20 := Lib.hid (HB01.out.trans ((B19.out.trans (hb20.mono B19.out.size)).mono HB01.out.size))
            clear hb20 y0 y1 z0 z1
            go_wp2_with fail
            go_ret
            exact ⟨rfl, HB20.out⟩
end Go.Proofs.YtmpjfomfibkbnaaGreatDoor
