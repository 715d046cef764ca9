/- dec.Text. -/
import Derived.Test.YtjdfpoppimcikaaGreatDoorTrim
import Derived.Test.YtjdfpoppimcikaaGreatDoorTagR
import Derived.Lib.ItoaLen
import Derived.RangeFuncNested
import Derived.RangeFuncBound
import Derived.RangeFuncCalls
import Derived.RangeFuncLeaves
import Derived.Test.YtjdfpoppimcikaaGreatDoorTagS
namespace Go.Proofs.YtjdfpoppimcikaaGreatDoor
open Go.RowKit Go.Sort

theorem str_appD (a b : List UInt8) : str (a ++ b) = str a ++ str b := bts_inj (by simp [bts, str, ByteArray.data_append])
theorem extractD (l : List UInt8) (i j : Nat) : (str l).extract i j = str ((l.take j).drop i) := bts_inj (by rw [bts_extract]; rfl)
theorem itoaD_any (n : Int) (w : World) (h0 : -9223372036854775808 ≤ n) (h1 : n ≤ 9223372036854775807) (hv : MV w) : Calls Tryz.prog 53 #[.int .i64 n] w fun e w' => e = .returned (.string (str (Lib.itoa n))) ∧ Below w.heap.size w w' :=
  (Tryz.strconv_Itoa n h0 h1 w hv.tab).mono fun e w' ⟨he, k, os, hw⟩ => ⟨he, by rw [hw]; exact ⟨rfl, rfl, rfl, by simp [grow, World.drewN], fun i hi => heap_grow_old (w.drewN k) os hi⟩⟩
def digD (c : Int) : List UInt8 := Lib.trimPrefix (Lib.itoa c) [45]
theorem digD_len (c : Int) (h0 : -9223372036854775808 ≤ c) (h1 : c ≤ 9223372036854775807) : (digD c).length ≤ 21 := by
  have h := Lib.itoa_length_le c h0 h1
  unfold digD Lib.trimPrefix
  split
  · rw [List.length_drop]; omega
  · exact h
def sgnD (c : Int) : List UInt8 := if c < 0 then [45] else []
def padD (d : DecV) : List UInt8 := Lib.repeatL [48] (d.scale + 1 - (digD d.coef).length).toNat ++ digD d.coef
def textD (d : DecV) : List UInt8 := if d.scale ≤ 0 then sgnD d.coef ++ digD d.coef else sgnD d.coef ++ (padD d).take ((padD d).length - d.scale.toNat) ++ [46] ++ (padD d).drop ((padD d).length - d.scale.toNat)
theorem padD_len (d : DecV) (h : d.ok) : d.scale.toNat < (padD d).length ∧ (padD d).length ≤ 40 := by
  obtain ⟨h0, h1, h2, h3⟩ := h
  have h4 := digD_len d.coef (by omega) (by omega)
  unfold padD
  rw [List.length_append, Lib.repeatL_length, List.length_singleton]
  omega
theorem textD_len (d : DecV) (h : d.ok) : (textD d).length ≤ 50 := by
  have hp := padD_len d h
  obtain ⟨h0, h1, h2, h3⟩ := h
  have h4 := digD_len d.coef (by omega) (by omega)
  have h5 : (sgnD d.coef).length ≤ 1 := by unfold sgnD; split <;> decide
  unfold textD
  split
  · rw [List.length_append]; omega
  · simp only [List.length_append, List.length_take, List.length_drop, List.length_singleton]; omega
set_option maxHeartbeats 3200000 in
set_option maxRecDepth 100000 in
theorem textD_any (d : DecV) (w : World) (hd : d.ok) (hv : MV w) : Calls Tryz.prog 31 #[d.v] w fun e w' => e = .returned (.string (str (textD d))) ∧ Below w.heap.size w w' := by
  have hpl := padD_len d hd
  obtain ⟨h0, h1, h2, h3⟩ := hd
  have hdl := digD_len d.coef (by omega) (by omega)
  have HI : Hid (∀ W, Below w.heap.size w W → Calls Tryz.prog 53 #[.int .i64 d.coef] W fun e w' => e = .returned (.string (str (Lib.itoa d.coef))) ∧ Below W.heap.size W w') := Lib.hid fun W hW => itoaD_any d.coef W (by omega) (by omega) (hv.below hW)
  have HTp : Hid (∀ W, Calls Tryz.prog 52 #[.string (str (Lib.itoa d.coef)), .string ⟨#[45]⟩] W fun e w' => e = .returned (.string (str (digD d.coef))) ∧ w' = W) := Lib.hid fun W => Tryz.strings_TrimPrefix (str (Lib.itoa d.coef)) ⟨#[45]⟩ W
  have HR : Hid (∀ W, Calls Tryz.prog 54 #[.string ⟨#[48]⟩, .int .i64 ((d.scale + 1 - (digD d.coef).length).toNat : Nat)] W fun e w' => e = .returned (.string (str (Lib.repeatL [48] (d.scale + 1 - (digD d.coef).length).toNat))) ∧ Below W.heap.size W w') := Lib.hid fun W =>
    Tryz.strings_Repeat ⟨#[48]⟩ (d.scale + 1 - (digD d.coef).length).toNat W (by omega) (by
      show 1 * _ ≤ _
      omega)
  have HP : Hid (padD d = Lib.repeatL [48] (d.scale + 1 - (digD d.coef).length).toNat ++ digD d.coef) := Lib.hid rfl
  have HT : Hid (textD d = if d.scale ≤ 0 then sgnD d.coef ++ digD d.coef else sgnD d.coef ++ (padD d).take ((padD d).length - d.scale.toNat) ++ [46] ++ (padD d).drop ((padD d).length - d.scale.toNat)) := Lib.hid rfl
  have HSg : Hid (sgnD d.coef = if d.coef < 0 then [45] else []) := Lib.hid rfl
  have hsl : (sgnD d.coef).length ≤ 1 := by unfold sgnD; split <;> decide
  have hmx : max (0 : Int) (d.scale + 1 - ((digD d.coef).length : Int)) = ((d.scale + 1 - (digD d.coef).length).toNat : Nat) := by omega
  have hrl : (Lib.repeatL [48] (d.scale + 1 - (digD d.coef).length).toNat).length ≤ 20 := by rw [Lib.repeatL_length, List.length_singleton]; omega
  generalize Lib.itoa d.coef = it at *
  generalize textD d = td at *
  generalize padD d = pd at *
  generalize digD d.coef = dg at *
  generalize sgnD d.coef = sg at *
  generalize hp : (d.scale + 1 - (dg.length : Int)).toNat = p at *
  generalize Lib.repeatL [48] p = rl at *
  obtain ⟨c, s⟩ := d
  dsimp only at h0 h1 h2 h3 HI HTp HR HP HT HSg hmx hpl
  have HB : Hid (Below w.heap.size w (w.alloc (.cells #[.int .i64 c, .int .i64 s] 33))) := Lib.hid ((Below.refl _ _).alloc (Nat.le_refl _) _)
  have MA : Hid (Blk (w.alloc (.cells #[.int .i64 c, .int .i64 s] 33)) w.heap.size 33 #[.int .i64 c, .int .i64 s]) := Lib.hid (Blk.new _ _ _)
  have HI2 := Lib.hid (HI.out _ HB.out)
  have EX := Lib.hid (extractD (rl ++ dg) 0 ((rl ++ dg).length - s.toNat))
  have EY := Lib.hid (extractD (rl ++ dg) ((rl ++ dg).length - s.toNat) (rl ++ dg).length)
  have EA := Lib.hid (str_appD rl dg)
  clear hv HI hp
  unfold DecV.v
  dsimp only
  generalize eW1 : w.alloc (.cells #[.int .i64 c, .int .i64 s] 33) = W1 at *
  have EW := Lib.hid eW1
  have k0 := (MA.out.cell 0).trans (show _ = some (.int .i64 c) from rfl)
  clear eW1
  go_enter Tryz.func31, Tryz.ntmps31
  go_upto_if 8 with fail
  rw [EW.out]
  go_cut [3] (fun v wx => v = .string (str sg) ∧ wx = W1)
  case first =>
    by_cases hc : c < 0
    · have hc2 : ¬ (0 ≤ c) := by omega
      go_wp2_with fail
      go_meet
      case rel => exact ⟨by rw [HSg.out, if_pos hc]; rfl, rfl⟩
    · have hc2 : 0 ≤ c := by omega
      go_wp2_with fail
      go_meet
      case rel => exact ⟨by rw [HSg.out, if_neg (by omega)]; rfl, rfl⟩
  case rest =>
    obtain ⟨rfl, hwc⟩ := hcut
    subst hwc
    clear EW
    go_wp2_with fail
    refine HI2.out.mono ?_
    clear HI2
    rintro e w2 ⟨rfl, hb2⟩
    have HB2 := Lib.hid (HB.out.trans (hb2.mono HB.out.size))
    have MA2 := Lib.hid (MA.out.below hb2 MA.out.lt)
    have d1 := (MA2.out.cell 1).trans (show _ = some (.int .i64 s) from rfl)
    clear hb2 HB MA k0
    go_wp2_with fail
    refine (HTp.out _).mono ?_
    clear HTp
    rintro e w3 ⟨rfl, rfl⟩
    have hz1 : (str sg).size = sg.length := str_size sg
    have hz2 : (str dg).size = dg.length := str_size dg
    have hz3 : (str rl).size = rl.length := str_size rl
    by_cases hs : s ≤ 0
    · have HE : Hid (str td = str sg ++ str dg) := Lib.hid (by rw [HT.out, if_pos hs, str_appD])
      have q1 : ¬ (9223372036854775807 < (str sg).size + (str dg).size) := by omega
      clear HT HP HR hmx EX EY EA hz1 hz2 hz3
      generalize str sg = SG at *
      generalize str dg = DG at *
      go_wp2_with fail
      go_ret
      exact ⟨by rw [HE.out]; rfl, HB2.out⟩
    · have hpd : pd = rl ++ dg := HP.out
      have hpl2 : pd.length = rl.length + dg.length := by rw [hpd, List.length_append]
      obtain ⟨kk, hkk⟩ : ∃ kk : Nat, kk = pd.length - s.toNat := ⟨_, rfl⟩
      have HE : Hid (str td = str sg ++ (str rl ++ str dg).extract 0 kk ++ (⟨#[46]⟩ : ByteArray) ++ (str rl ++ str dg).extract kk (rl.length + dg.length)) := Lib.hid (by
        rw [HT.out, if_neg hs, ← str_appD, extractD, extractD, ← hkk, str_appD, str_appD, str_appD, hpd, List.drop_zero, List.take_of_length_le (l := rl ++ dg) (i := rl.length + dg.length) (by rw [List.length_append]; exact Nat.le_refl _)]
        rfl)
      have hs2 : 0 < s := by omega
      rw [← hz2] at hmx
      have w1 : wrap64 (s + 1) = s + 1 := by unfold wrap64; omega
      have w2 : wrap64 (s + 1 - ((str dg).size : Int)) = s + 1 - ((str dg).size : Int) := by unfold wrap64; omega
      have w3 : wrap64 (((str rl).size : Int) + ((str dg).size : Int) - s) = (kk : Int) := by unfold wrap64; omega
      have q1 : ¬ (9223372036854775807 < (str rl).size + (str dg).size) := by omega
      have q2 : kk ≤ (str rl).size + (str dg).size := by omega
      have q3 : (0 : Int) ≤ (kk : Int) := Int.natCast_nonneg kk
      have q4 : (kk : Int) ≤ ((str rl).size : Int) + ((str dg).size : Int) := by omega
      have eq5 : rl.length + dg.length = (str rl).size + (str dg).size := by omega
      rw [eq5] at HE
      have hsg : (str sg).size ≤ 1 := by omega
      have hrg : (str rl).size ≤ 20 := by omega
      have hdg : (str dg).size ≤ 21 := by omega
      clear HT HP EX EY EA hz1 hz2 hz3 hpd hpl2 hkk eq5 hpl hsl hrl hdl hs h0 h1 h2 h3 HSg
      generalize str sg = SG at *
      generalize str dg = DG at *
      generalize str rl = RL at *
      go_wp2_with fail
      refine (HR.out _).mono ?_
      clear HR
      rintro e w4 ⟨rfl, hb4⟩
      have HB4 := Lib.hid (HB2.out.trans (hb4.mono HB2.out.size))
      have MA4 := MA2.out.below hb4 MA2.out.lt
      have g1 := (MA4.cell 1).trans (show _ = some (.int .i64 s) from rfl)
      clear hb4 MA4 MA2 d1 hmx w1 w2
      have hx1 : ((RL ++ DG).extract 0 kk).size ≤ 41 := by rw [ByteArray.size_extract, ByteArray.size_append]; omega
      have hx2 : ((RL ++ DG).extract kk (RL.size + DG.size)).size ≤ 41 := by rw [ByteArray.size_extract, ByteArray.size_append]; omega
      go_upto_region 9 with fail
      generalize ex1 : (RL ++ DG).extract 0 kk = X1 at *
      generalize ex2 : (RL ++ DG).extract kk (RL.size + DG.size) = X2 at *
      have r1 : ¬ (9223372036854775807 < SG.size + X1.size) := by omega
      have r2 : ¬ (9223372036854775807 < SG.size + X1.size + 1) := by omega
      have r3 : ¬ (9223372036854775807 < SG.size + X1.size + 1 + X2.size) := by omega
      go_quiet (fail)
      go_wp2_with fail
      go_ret
      exact ⟨by rw [HE.out]; first | rfl | (rw [ex1, ex2]; rfl) | done, below_drewN HB4.out _⟩
end Go.Proofs.YtjdfpoppimcikaaGreatDoor
/- A range over a function whose iterator keeps state of its own in cells (a captured variable that it writes): the law for the caller, at a loop that ends by itself. -/

namespace Go.Proofs.YtjdfpoppimcikaaGreatDoor
open Go.RowKit

/-- The iterator's promise: it hands xs to yield, one by one, where each round goes on; J abides its steps (new blocks, and St: what it writes of its own); the rounds keep Kp. -/
def SeqT {α : Type} (F : Fence) (n : Nat) (P : Program) (g : Nat) (lb : Array Value) (enc : α → Value) (xs : List α) (St Kp : World → World → Prop) (w : World) : Prop :=
  ∀ (l : Nat) (J : Nat → World → Prop) (W : World), Kp w W → AbidesFrom W.heap.size J → (∀ k A B, J k A → St A B → J k B) →
    (∀ k (hk : k < xs.length) A, J k A → YieldAt F (n - 1) P l #[enc xs[k]] A fun e B => e = .returned (.bool true) ∧ J (k + 1) B ∧ Kp A B) →
    J 0 W → CallsIn F n P g (#[.func (.yield l) #[] #[]] ++ lb) W fun e B => (∃ v, e = .returned v) ∧ J xs.length B

/-- What a round's body owes. -/
def roundT (B : Nat) (Kp : World → World → Prop) (I : Nat → World → Prop) (k : Nat) (W : World) : Exit → Act → World → Prop
  | .normal, _, W' => KeepsFrom B W W' ∧ Kp W W' ∧ I k W'
  | _, _, _ => False

theorem zip_one (p : Tmp) (v : Value) (t : Array Value) : ((#[p]).zip #[v]).foldl (fun tmps (q, u) => tmps.setIfInBounds q u) t = t.setIfInBounds p v := by simp

variable {F : Fence} {n : Nat} {P : Program}
/-- within a round of loop l₀ -/
theorem range_inner {α : Type} {g : Operand} {p : Tmp} {assign body : Code} {Q : Exit → Act → World → Prop} {a : Act} {w : World}
    {l₀ : Nat} {r₀ : Loop} (hro : F.round = some l₀) (hl₀ : w.heap[l₀]? = some (.loop r₀)) (h1 : 1 ≤ n) {gf : Nat} {lb : Array Value} (hg : a.eval g = .func (.func gf) #[] lb) (hFg : F.fn gf) (eg : ∀ args w, (callFunc gf args).run P w = .ok (.enter gf args) w)
    {enc : α → Value} {xs : List α} {St Kp : World → World → Prop} {w0 : World} (hseq : SeqT F (n - 1) P gf lb enc xs St Kp w0)
    (hK0 : Kp w0 w) (hKt : ∀ {A B C : World}, Kp A B → Kp B C → Kp A C) (hKa : ∀ (W : World) (o : Obj), w.heap.size ≤ W.heap.size → Kp W (W.alloc o)) (hKb : ∀ (W : World) (l : Nat) (o o' : Obj), w.heap.size ≤ l → W.heap[l]? = some o → o.isCells = false → o.isWalk = false → Kp W (W.putObj l o'))
    (hSt : ∀ A B, St A B → ∀ i, w.heap.size ≤ i → B.heap[i]? = A.heap[i]?)
    (I : Nat → World → Prop) (hI : OwnFrom w.heap.size I) (hIs : ∀ k A B, I k A → St A B → I k B) (h0 : I 0 w) (Ax : Nat → Act → World → Prop) (hAx : ∀ k a', OwnFrom w.heap.size (fun (_ : Unit) W => Ax k a' W))
    (hassign : ∀ (l k : Nat) (hk : k < xs.length) (W : World) (K : Act → World → Prop), I k W → (∀ a' W', KeepsFrom w.heap.size W W' → Kp W W' → I k W' → Ax k a' W' → K a' W') →
      assign.wpIn (F.inRound l) (n - 1 - 1) P (Exit.then K (fun _ _ _ => False)) { tmps := a.tmps.setIfInBounds p (enc xs[k]), defers := [] } W)
    (hbody : ∀ (l k : Nat) (hk : k < xs.length) (a' : Act) (W : World), w.heap.size ≤ l → (∃ r, W.heap[l]? = some (.loop r)) → I k W → Ax k a' W → body.wpIn (F.inRound l) (n - 1 - 1) P (roundT w.heap.size Kp I (k + 1) W) a' W)
    (hdone : ∀ (W : World), I xs.length W → Q .normal a W) :
    (Code.rangeFunc g #[p] assign body).wpIn F n P Q a w := by
  refine wpIn_rangeFunc fun fn hfn => ?_
  rw [hro]
  obtain ⟨rec, hrec⟩ : ∃ rec : LoopState → Loop, rec = fun st => { state := st, pending := none, fn, tmps := a.tmps, params := #[p], assign, body, defers := r₀.defers } := ⟨_, rfl⟩
  obtain ⟨W1, hW1⟩ : ∃ W1, w.alloc (.loop (rec .ready)) = W1 := ⟨_, rfl⟩
  have hL1 : W1.heap[w.heap.size]? = some (.loop (rec .ready)) := by rw [← hW1]; exact World.alloc_heap_new w _
  have hs1 : W1.heap.size = w.heap.size + 1 := by rw [← hW1]; simp
  have hI1 : I 0 W1 := by rw [← hW1]; exact hI.alloc _ h0
  have hK1 : Kp w0 W1 := by rw [← hW1]; exact hKt hK0 (hKa w _ (Nat.le_refl _))
  refine ⟨w.heap.size, [], W1, { target := .fn (.func gf) lb, args := #[.func (.yield w.heap.size) #[] #[]] }, W1, gf, #[.func (.yield w.heap.size) #[] #[]] ++ lb, W1, ?_, ?_, ?_, ?_, fun _ => h1, ?_⟩
  · rw [← hW1, hrec]; exact run_enterLoop_inner hl₀ _ _ _ _ _
  · simp only [resolve, hg]
    simp [go_sem]
  · intro f' hf'; simp [Target.leads] at hf'; subst hf'; exact hFg
  · simp [invoke, go_sem, eg]
  · refine (hseq w.heap.size (fun k W => I k W ∧ W.heap[w.heap.size]? = some (.loop (rec .ready))) W1 hK1 ?_ ?_ ?_ ⟨hI1, hL1⟩).mono ?_
    · rintro k A B row ⟨hi, hl⟩ hgr hr
      have hr' : ∀ r, row = some r → w.heap.size ≤ r ∧ ∃ o : Obj, A.heap[r]? = some o ∧ o.isCells = false := fun r e => by
        obtain ⟨hB, o, ho, hw⟩ := hr r e
        exact ⟨by omega, o, ho, Obj.not_cells_of_walk hw⟩
      exact ⟨hI k A B row hi hgr hr', (grownBy_keeps hgr (fun r e => (hr r e).2) hl rfl).trans hl⟩
    · rintro k A B ⟨hi, hl⟩ hst
      exact ⟨hIs k A B hi hst, (hSt A B hst _ (Nat.le_refl _)).trans hl⟩
    · rintro k hk W ⟨hi, hl⟩
      have hy := run_yield (P := P) (args := #[enc xs[k]]) hl (by rw [hrec]; rfl)
      rw [hrec] at hy
      replace hy := hy.trans (congrArg (fun t => Result.ok (Next.round _ fn t assign body) W) (zip_one p (enc xs[k]) a.tmps))
      refine ⟨fn, _, assign, body, hy, roundIn_of_wpIn hfn (hassign _ k hk W _ hi ?_)⟩
      clear hy
      intro a' Wa hkf hkp hia hax
      have hla := hkf.same _ _ (Nat.le_refl _) hl rfl
      have hlt : w.heap.size < Wa.heap.size := (Array.getElem?_eq_some_iff.1 hla).1
      refine ⟨_, run_beginRound hla (by rw [hrec]), ?_⟩
      have hl2 : (Wa.putObj w.heap.size (.loop { rec .ready with state := .busy })).heap[w.heap.size]? = some (.loop { rec .ready with state := .busy }) := World.putObj_heap_same hlt
      have hkp2 : Kp Wa (Wa.putObj w.heap.size (.loop { rec .ready with state := .busy })) := hKb _ _ _ _ (Nat.le_refl _) hla rfl rfl
      refine wpIn_mono (hbody _ k hk a' _ (Nat.le_refl _) ⟨_, hl2⟩ (hI.putObj _ hia (Nat.le_refl _) hla rfl) ((hAx k a').putObj (s := ()) _ hax (Nat.le_refl _) hla rfl)) ?_
      rintro e a3 W3 hp
      cases e with
      | normal =>
        obtain ⟨hk3, hkp3, hi3⟩ := hp
        have hl3 := hk3.same _ _ (Nat.le_refl _) hl2 rfl
        have hend := run_endRound (P := P) none hl3
        have hl4 : (W3.putObj w.heap.size (.loop (rec .ready))).heap[w.heap.size]? = some (.loop (rec .ready)) := World.putObj_heap_same (Array.getElem?_eq_some_iff.1 hl3).1
        rw [hrec] at hend hl4 hl3
        refine ⟨_, _, hend, rfl, ⟨hI.putObj _ hi3 (Nat.le_refl _) hl3 rfl, ?_⟩, hKt hkp (hKt (hKt hkp2 hkp3) (hKb _ _ _ _ (Nat.le_refl _) hl3 rfl rfl))⟩
        rw [hrec]; exact hl4
      | ret => exact hp.elim
      | exit id => exact hp.elim
      | goto t => exact hp.elim
      | panic ch => exact hp.elim
      | outgrown => exact hp.elim
    · rintro e W2 ⟨⟨v, rfl⟩, hi, hl⟩
      exact ⟨none, _, by have := run_endLoop (P := P) hl (by rw [hrec]; simp); rw [hrec] at this; exact this, hdone _ (hI.putObj _ hi (Nat.le_refl _) hl rfl)⟩

/-- at an outermost loop -/
theorem range_outer {α : Type} {g : Operand} {p : Tmp} {assign body : Code} {Q : Exit → Act → World → Prop} {a : Act} {w : World}
    (hro : F.round = none) (h1 : 1 ≤ n) {gf : Nat} {lb : Array Value} (hg : a.eval g = .func (.func gf) #[] lb) (hFg : F.fn gf) (eg : ∀ args w, (callFunc gf args).run P w = .ok (.enter gf args) w)
    {enc : α → Value} {xs : List α} {St Kp : World → World → Prop} {w0 : World} (hseq : SeqT F (n - 1) P gf lb enc xs St Kp w0)
    (hK0 : Kp w0 w) (hKt : ∀ {A B C : World}, Kp A B → Kp B C → Kp A C) (hKa : ∀ (W : World) (o : Obj), w.heap.size ≤ W.heap.size → Kp W (W.alloc o)) (hKb : ∀ (W : World) (l : Nat) (o o' : Obj), w.heap.size ≤ l → W.heap[l]? = some o → o.isCells = false → o.isWalk = false → Kp W (W.putObj l o'))
    (hSt : ∀ A B, St A B → ∀ i, w.heap.size ≤ i → B.heap[i]? = A.heap[i]?)
    (I : Nat → World → Prop) (hI : OwnFrom w.heap.size I) (hIs : ∀ k A B, I k A → St A B → I k B) (h0 : I 0 w) (Ax : Nat → Act → World → Prop) (hAx : ∀ k a', OwnFrom w.heap.size (fun (_ : Unit) W => Ax k a' W))
    (hassign : ∀ (l k : Nat) (hk : k < xs.length) (W : World) (K : Act → World → Prop), I k W → (∀ a' W', KeepsFrom w.heap.size W W' → Kp W W' → I k W' → Ax k a' W' → K a' W') →
      assign.wpIn (F.inRound l) (n - 1 - 1) P (Exit.then K (fun _ _ _ => False)) { tmps := a.tmps.setIfInBounds p (enc xs[k]), defers := [] } W)
    (hbody : ∀ (l k : Nat) (hk : k < xs.length) (a' : Act) (W : World), w.heap.size ≤ l → (∃ r, W.heap[l]? = some (.loop r)) → I k W → Ax k a' W → body.wpIn (F.inRound l) (n - 1 - 1) P (roundT w.heap.size Kp I (k + 1) W) a' W)
    (hdone : ∀ (D : Nat) (W : World), w.heap.size ≤ D → I xs.length W → W.heap[D]? = some (.deferred (some [])) → Q .normal { a with defers := { target := .collected D, args := #[] } :: a.defers } W) :
    (Code.rangeFunc g #[p] assign body).wpIn F n P Q a w := by
  refine wpIn_rangeFunc fun fn hfn => ?_
  rw [hro]
  obtain ⟨rec, hrec⟩ : ∃ rec : LoopState → Loop, rec = fun st => { state := st, pending := none, fn, tmps := a.tmps, params := #[p], assign, body, defers := w.heap.size } := ⟨_, rfl⟩
  obtain ⟨W1, hW1⟩ : ∃ W1, (w.alloc (.deferred (some []))).alloc (.loop (rec .ready)) = W1 := ⟨_, rfl⟩
  have hs1 : W1.heap.size = w.heap.size + 2 := by rw [← hW1]; simp
  have hL1 : W1.heap[w.heap.size + 1]? = some (.loop (rec .ready)) := by
    rw [← hW1]; have := World.alloc_heap_new (w.alloc (.deferred (some []))) (.loop (rec .ready)); rwa [World.size_alloc] at this
  have hD1 : W1.heap[w.heap.size]? = some (.deferred (some [])) := by
    rw [← hW1]; exact (Below.heap_alloc _ _ _ (by simp)).trans (World.alloc_heap_new w _)
  have hI1 : I 0 W1 := by rw [← hW1]; exact hI.alloc _ (hI.alloc _ h0)
  have hK1 : Kp w0 W1 := by rw [← hW1]; exact hKt hK0 (hKt (hKa w _ (Nat.le_refl _)) (hKa _ _ (by simp)))
  refine ⟨w.heap.size + 1, [{ target := .collected w.heap.size, args := #[] }], W1, { target := .fn (.func gf) lb, args := #[.func (.yield (w.heap.size + 1)) #[] #[]] }, W1, gf, #[.func (.yield (w.heap.size + 1)) #[] #[]] ++ lb, W1, ?_, ?_, ?_, ?_, fun _ => h1, ?_⟩
  · rw [← hW1, hrec]; exact run_enterLoop_outer _ _ _ _ _
  · simp only [resolve, hg]
    simp [go_sem]
  · intro f' hf'; simp [Target.leads] at hf'; subst hf'; exact hFg
  · simp [invoke, go_sem, eg]
  · refine (hseq (w.heap.size + 1) (fun k W => I k W ∧ W.heap[w.heap.size + 1]? = some (.loop (rec .ready)) ∧ W.heap[w.heap.size]? = some (.deferred (some []))) W1 hK1 ?_ ?_ ?_ ⟨hI1, hL1, hD1⟩).mono ?_
    · rintro k A B row ⟨hi, hl, hd⟩ hgr hr
      have hr' : ∀ r, row = some r → w.heap.size ≤ r ∧ ∃ o : Obj, A.heap[r]? = some o ∧ o.isCells = false := fun r e => by
        obtain ⟨hB, o, ho, hw⟩ := hr r e
        exact ⟨by omega, o, ho, Obj.not_cells_of_walk hw⟩
      exact ⟨hI k A B row hi hgr hr', (grownBy_keeps hgr (fun r e => (hr r e).2) hl rfl).trans hl, (grownBy_keeps hgr (fun r e => (hr r e).2) hd rfl).trans hd⟩
    · rintro k A B ⟨hi, hl, hd⟩ hst
      exact ⟨hIs k A B hi hst, (hSt A B hst _ (by omega)).trans hl, (hSt A B hst _ (Nat.le_refl _)).trans hd⟩
    · rintro k hk W ⟨hi, hl, hd⟩
      have hy := run_yield (P := P) (args := #[enc xs[k]]) hl (by rw [hrec]; rfl)
      rw [hrec] at hy
      replace hy := hy.trans (congrArg (fun t => Result.ok (Next.round _ fn t assign body) W) (zip_one p (enc xs[k]) a.tmps))
      refine ⟨fn, _, assign, body, hy, roundIn_of_wpIn hfn (hassign _ k hk W _ hi ?_)⟩
      clear hy
      intro a' Wa hkf hkp hia hax
      have hla := hkf.same _ _ (by omega) hl rfl
      have hda := hkf.same _ _ (Nat.le_refl _) hd rfl
      have hlt : w.heap.size + 1 < Wa.heap.size := (Array.getElem?_eq_some_iff.1 hla).1
      refine ⟨_, run_beginRound hla (by rw [hrec]), ?_⟩
      have hl2 : (Wa.putObj (w.heap.size + 1) (.loop { rec .ready with state := .busy })).heap[w.heap.size + 1]? = some (.loop { rec .ready with state := .busy }) := World.putObj_heap_same hlt
      have hd2 : (Wa.putObj (w.heap.size + 1) (.loop { rec .ready with state := .busy })).heap[w.heap.size]? = some (.deferred (some [])) := (World.putObj_heap_other (by omega)).trans hda
      have hkp2 : Kp Wa (Wa.putObj (w.heap.size + 1) (.loop { rec .ready with state := .busy })) := hKb _ _ _ _ (by omega) hla rfl rfl
      refine wpIn_mono (hbody _ k hk a' _ (by omega) ⟨_, hl2⟩ (hI.putObj _ hia (by omega) hla rfl) ((hAx k a').putObj (s := ()) _ hax (by omega) hla rfl)) ?_
      rintro e a3 W3 hp
      cases e with
      | normal =>
        obtain ⟨hk3, hkp3, hi3⟩ := hp
        have hl3 := hk3.same _ _ (by omega) hl2 rfl
        have hd3 := hk3.same _ _ (Nat.le_refl _) hd2 rfl
        have hend := run_endRound (P := P) none hl3
        have hl4 : (W3.putObj (w.heap.size + 1) (.loop (rec .ready))).heap[w.heap.size + 1]? = some (.loop (rec .ready)) := World.putObj_heap_same (Array.getElem?_eq_some_iff.1 hl3).1
        rw [hrec] at hend hl4 hl3
        refine ⟨_, _, hend, rfl, ⟨hI.putObj _ hi3 (by omega) hl3 rfl, ?_, (World.putObj_heap_other (by omega)).trans hd3⟩, hKt hkp (hKt (hKt hkp2 hkp3) (hKb _ _ _ _ (by omega) hl3 rfl rfl))⟩
        rw [hrec]; exact hl4
      | ret => exact hp.elim
      | exit id => exact hp.elim
      | goto t => exact hp.elim
      | panic ch => exact hp.elim
      | outgrown => exact hp.elim
    · rintro e W2 ⟨⟨v, rfl⟩, hi, hl, hd⟩
      exact ⟨none, _, by have := run_endLoop (P := P) hl (by rw [hrec]; simp); rw [hrec] at this; exact this, hdone _ _ (Nat.le_refl _) (hI.putObj _ hi (by omega) hl rfl) ((World.putObj_heap_other (by omega)).trans hd)⟩
end Go.Proofs.YtjdfpoppimcikaaGreatDoor
