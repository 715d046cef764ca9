/- The walk of package store: New, clean, Kept, Get, Pin, Free. -/
import Derived.Test.YtboilcfeegigcaaGreatDoorStoreW
import Derived.Test.YtboilcfeegigcaaGreatDoorLayD
import Derived.Test.YtboilcfeegigcaaGreatDoorTold
import Derived.Test.YtboilcfeegigcaaGreatDoorDrawn
import Derived.Shelf.SlIterI.Nil
import Derived.Shelf.SortM.Plain
import Derived.Shelf.SortM.SortNone
import Derived.Shelf.SlMaps.DeleteFunc
namespace Go.Proofs.YtboilcfeegigcaaGreatDoor
open Go.RowKit Go.Maps Go.Sort Go.Shelf

theorem new_any (w : World) : Calls Tryz.prog 6 #[] w fun e w' => ∃ p M, e = .returned (.pointer (some ⟨p, 0, none⟩)) ∧ StoreSt w.heap.size w'.heap.size w' p M [] ∧ Below w.heap.size w w' := by
  have hmm := @run_makeMap Tryz.prog
  go_enter Tryz.func6, Tryz.ntmps6
  go_wp2_with fail
  go_ret
  have hb : Below w.heap.size w ((w.alloc (.map #[] 0)).alloc (.cells #[.int .i64 0, .map (some w.heap.size)] 54)) := ((Below.refl _ _).alloc (Nat.le_refl _) _).alloc (by simp) _
  have h0 := World.ownsMap_made (H := Nat) w Tryz.prog 3 ptrR
  refine ⟨w.heap.size + 1, w.heap.size, ?_, ⟨⟨by omega, by simp⟩, ⟨Nat.le_refl _, by simp; omega⟩, ?_, ⟨0, Nat.le_refl _, World.ownsMap.alloc h0 _⟩, fun r hr => (by cases hr), List.Pairwise.nil⟩, hb⟩
  · simp
  · have := Blk.new (w.alloc (.map #[] 0)) 54 #[.int .i64 0, .map (some w.heap.size)]
    rw [World.size_alloc] at this
    exact this

/- ## clean -/
theorem cleanFn_any (W : World) (k N : Int) (a bx p hd : Nat) (hb : W.cell? ⟨bx, 0, none⟩ = some (.pointer (some ⟨p, 0, none⟩))) (hp : W.cell? ⟨p, 0, none⟩ = some (.int .i64 N)) (ha : W.cell? ⟨a, 1, none⟩ = some (.int .i64 hd)) :
    Calls Tryz.prog 31 #[.int .i64 k, .pointer (some ⟨a, 0, none⟩), .pointer (some ⟨bx, 0, none⟩)] W fun e w' => e = .returned (.bool (k != N && ((hd : Int) == 0))) ∧ W = w' := by
  obtain ⟨P, hP⟩ : ∃ P, (k != N) = P := ⟨_, rfl⟩
  obtain ⟨Z, hZ⟩ : ∃ Z, ((hd : Int) == 0) = Z := ⟨_, rfl⟩
  rw [hP, hZ]
  cases P with
  | true =>
    go_enter Tryz.func31, Tryz.ntmps31
    go_wp2_with fail
    go_ret
    exact ⟨by simp [hZ], rfl⟩
  | false =>
    go_enter Tryz.func31, Tryz.ntmps31
    go_wp2_with fail
    go_ret
    exact ⟨rfl, rfl⟩
theorem enters_cleanFn (args : Array Value) (w : World) : (callFunc 31 args).run Tryz.prog w = .ok (.enter 31 args) w := enters_of Tryz.func31 (by kernel_rfl) rfl args w
def cleanB (N : Int) (vs : List VR) (kl : Lit) (d : DataW Nat) : Bool := match kl, d with
  | .int _ k, .held a => k != N && ((heldOf vs a : Int) == 0)
  | _, _ => false
theorem cleanB_eq (N : Nat) (vs : List VR) (m : Nat × Nat) : cleanB N vs (.int .i64 m.1) (.held m.2) = (m.1 != N && heldOf vs m.2 == 0) := by
  show (((m.1 : Int) != (N : Int)) && ((heldOf vs m.2 : Int) == 0)) = _
  rw [Bool.eq_iff_iff]
  simp
  intro _; omega
theorem cleaned_any {B b1 p M g : Nat} {w : World} {vs : List VR} {q : Nat → VR → Bool} (h : StoreIn B b1 w p M vs (pickV q 1 vs)) (hq : ∀ i (hi : i < vs.length), live vs.length (1 + i) vs[i] = true → q (1 + i) vs[i] = true)
    (hc : w.cell? ⟨g, 0, none⟩ = some (.pointer (some ⟨p, 0, none⟩))) (hg : g < w.heap.size) (hgM : g ≠ M) :
    Calls Tryz.prog 30 #[.map (some M), .func (.func 31) #[] #[.pointer (some ⟨g, 0, none⟩)]] w fun e w' =>
      e = .returned (.tuple #[]) ∧ StoreSt B b1 w' p M vs ∧ Fr w w' (· = M) := by
  obtain ⟨n, hn, hM⟩ := h.all
  have hpM : M ≠ p := owns_ne_blk hM h.box
  have hM2 : w.ownsMap Tryz.prog 3 (ptrIn (vs.map VR.blk)) M n (toV (pickV q 1 vs)) := owns_sub hM fun e he v ps hv => by
    obtain ⟨x, hx, rfl⟩ := List.mem_map.1 he
    obtain ⟨m, a⟩ := x
    obtain ⟨i, hi, _, rfl, _⟩ := mem_pickV.1 hx
    exact ptrR_in (List.mem_map.2 ⟨vs[i], List.getElem_mem hi, rfl⟩) rfl hv
  have hd := AnyDf.maps_DeleteFunc Tryz.layDel lawI (ptrIn (vs.map VR.blk)) (cleanB vs.length vs) 31 #[.pointer (some ⟨g, 0, none⟩)] M n (toV (pickV q 1 vs)) w enters_cleanFn hM2 (fun W key val kl yd yp hgr hkey hval => by
    obtain ⟨x, rfl, rfl, _⟩ := Maps.keyOf_int_inv Tryz.underlying3 hkey
    obtain ⟨a, ha, rfl, rfl⟩ := ptrIn_inv hval
    obtain ⟨r, hr, rfl⟩ := List.mem_map.1 ha
    obtain ⟨i, hi, rfl⟩ := List.mem_iff_getElem.1 hr
    obtain ⟨wb, S, m, k1, _⟩ := (h.vers _ hr).rec_
    have hcW : W.cell? ⟨g, 0, none⟩ = some (.pointer (some ⟨p, 0, none⟩)) := (World.cell?_of_block (hgr.block g hg (fun e => hgM (Option.some.inj e)))).trans hc
    have hpW : W.cell? ⟨p, 0, none⟩ = some (.int .i64 vs.length) := (World.cell?_of_block (hgr.block p h.box.lt (fun e => hpM (Option.some.inj e).symm))).trans ((h.box.cell 0).trans rfl)
    have haW : W.cell? ⟨vs[i].blk, 1, none⟩ = some (.int .i64 vs[i].held) := (World.cell?_of_block (hgr.block vs[i].blk k1.lt (fun e => owns_ne_blk hM k1 (Option.some.inj e).symm))).trans ((k1.cell 1).trans rfl)
    have hh := heldOf_at h.apart i hi
    refine (cleanFn_any W x vs.length vs[i].blk g p vs[i].held hcW hpW haW).mono fun e w' ⟨he, hw⟩ => ⟨?_, hw ▸ ⟨rfl, rfl, rfl, Nat.le_refl _, fun _ _ _ => rfl⟩⟩
    rw [he, ← hh]; rfl)
  refine hd.mono fun e w' ⟨he, ho', hg'⟩ => ⟨he, ?_, ?_⟩
  · have hf : Fr w w' (· = M) := (Fr.refl w _).grown hg' fun k hk => .inl (Option.some.inj hk).symm
    have e1 : Lib.deleteFuncD (cleanB vs.length vs) (toV (pickV q 1 vs)) = toV (keptV vs) := by
      rw [toV_delete (fun m => m.1 != vs.length && heldOf vs m.2 == 0) _ _ fun m _ => cleanB_eq _ _ m, clean_pick h.apart hq]
    rw [e1] at ho'
    have ho2 : OwnsN w' M n (keptV vs) := owns_sub ho' fun _ _ v ps hv => ptrIn_R hv
    exact ⟨h.lp, h.lM, h.box.fr hf fun e => hpM e.symm, ⟨n, hn, ho2⟩, fun r hr => (h.vers r hr).fr hf fun k hk => by have : k = M := hk; have := h.lM; omega, h.apart⟩
  · exact (Fr.refl w _).grown hg' fun k hk => .inl (Option.some.inj hk).symm
theorem clean_any {B b1 p M : Nat} {w : World} {vs : List VR} {q : Nat → VR → Bool} (h : StoreIn B b1 w p M vs (pickV q 1 vs)) (hq : ∀ i (hi : i < vs.length), live vs.length (1 + i) vs[i] = true → q (1 + i) vs[i] = true) :
    Calls Tryz.prog 21 #[.pointer (some ⟨p, 0, none⟩)] w fun e w' => e = .returned (.tuple #[]) ∧ StoreSt B b1 w' p M vs ∧ Fr w w' (· = M) := by
  have hmf : ∀ (fn : Fn) (first cap : Array Value) (w : World), (Instr.makeFunc fn first cap).run Tryz.prog w = .ok (.func fn first cap) w := fun _ _ _ _ => rfl
  have h1 : StoreIn B b1 (w.alloc (.cells #[.pointer (some ⟨p, 0, none⟩)] 23)) p M vs (pickV q 1 vs) := h.keep ((Below.refl _ _).alloc (Nat.le_refl _) _)
  have hlM : M < w.heap.size := by obtain ⟨n, _, hM⟩ := h.all; exact owns_lt hM
  have hlp := h.box.lt
  have HD := Lib.hid (cleaned_any (g := w.heap.size) h1 hq (by simp) (by simp) (by omega))
  have c1 : w.cell? ⟨p, 1, none⟩ = some (.map (some M)) := (h.box.cell 1).trans rfl
  clear h h1 hq
  go_enter Tryz.func21, Tryz.ntmps21
  go_wp2_with fail
  refine HD.out.mono ?_
  clear HD
  rintro e w' ⟨rfl, hS, hf⟩
  have hf2 : Fr w w' (· = M) := ((Fr.of_below ((Below.refl _ _).alloc (Nat.le_refl _) _) _).trans hf)
  have HS := Lib.hid hS
  have HF := Lib.hid hf2
  clear hS hf hf2
  go_wp2_with fail
  go_end0
  exact ⟨rfl, HS.out, HF.out⟩

/- ## Kept -/
theorem keysI_any (mb : Option Nat) (w : World) : Calls Tryz.prog 23 #[.map mb] w fun e w' =>
    e = .returned (.func (.func 34) #[] #[.pointer (some ⟨w.heap.size, 0, none⟩)]) ∧ w' = w.alloc (.cells #[.map mb] 52) :=
  callsIn_wide.1 (AnyZI.keys_in Tryz.layKeys Fence.wide 5 trivial rfl mb w)
theorem sortsI (m : Nat) : AnyZI.SortsIn Tryz.prog Tryz.laySorted_ren Fence.wide m :=
  ⟨fun blk off cap ss W hH hblk hsz => callsIn_wide.2 (AnyM.slices_Sort_int Tryz.laySort blk off cap ss W hH hblk hsz),
   fun p cap W => callsIn_wide.2 (AnyM.slices_Sort_int_none Tryz.laySort p cap W)⟩
set_option maxHeartbeats 1000000 in
theorem sortedI_gen (b nn p : Nat) (S : List (Nat × Nat)) (hS : S.Pairwise fun a b => a.1 < b.1) (W : World) (hc : W.cell? ⟨p, 0, none⟩ = some (.map (some b))) (hp : p < W.heap.size) (hown : OwnsN W b nn S) (hl : S.length ≤ 1300000) :
    Calls Tryz.prog 22 #[.func (.func 34) #[] #[.pointer (some ⟨p, 0, none⟩)]] W fun e w' =>
      ∃ v, e = .returned v ∧ w'.ownsRow W.heap.size 3 1 v S.length (S.map fun m => .int .i64 m.1) ∧ Below W.heap.size W w' := by
  have hseq : SeqGives Fence.wide 2 Tryz.prog 34 #[.pointer (some ⟨p, 0, none⟩)] encZ (fun ss => ss.Perm (intKeys (toV S))) (Maps.size (toV S)) W :=
    AnyZI.keys_gives (ρ := Tryz.layKeys_ren) { Tryz.layKeys with } Fence.wide _ trivial rfl (by omega) p b nn (toV S) _ hp hc hown
  have h := AnyZI.sorted_in Tryz.laySorted Fence.wide 5 trivial trivial trivial trivial rfl (by omega) (sortsI _) (enters_of Tryz.func33 (by kernel_rfl) rfl) 34 #[.pointer (some ⟨p, 0, none⟩)] trivial (enters_of Tryz.func34 (by kernel_rfl) rfl) _ _ (by rw [toV_size]; unfold maxLen; omega) (by rw [toV_size]; omega) _ hseq
  refine (callsIn_wide.1 h).mono fun e w' ⟨v, ss, he, hpm, hrow, _, hb⟩ => ⟨v, he, ?_, hb⟩
  rw [sorted_nums hS hpm] at hrow
  have hl2 : ss.length = S.length := by rw [hpm.length_eq, toV_keys, List.length_map]
  rw [hl2] at hrow
  have e1 : (S.map fun m => (m.1 : Int)).map encZ = S.map fun m => Value.int .i64 m.1 := by rw [List.map_map]; rfl
  rw [e1] at hrow
  exact hrow
theorem kept_any {B b1 p M : Nat} {w : World} {vs : List VR} (h : StoreSt B b1 w p M vs) (hl : vs.length ≤ 1300000) :
    Calls Tryz.prog 10 #[.pointer (some ⟨p, 0, none⟩)] w fun e w' => ∃ v, e = .returned v ∧ w'.ownsRow w.heap.size 3 1 v (keptV vs).length ((keptV vs).map fun m => .int .i64 m.1) ∧ Below w.heap.size w w' := by
  obtain ⟨n, hn, hM⟩ := h.all
  have c1 : w.cell? ⟨p, 1, none⟩ = some (.map (some M)) := (h.box.cell 1).trans rfl
  have HS := Lib.hid (sortedI_gen M n w.heap.size (keptV vs) (pickV_rising _ _ _) (w.alloc (.cells #[.map (some M)] 52)) (by simp) (by simp) (World.ownsMap.alloc hM _) (by have := pickV_le (live vs.length) vs 1; show (keptV vs).length ≤ _; unfold keptV; omega))
  have HK := Lib.hid (keysI_any (some M) w)
  clear h hM hn hl
  go_enter Tryz.func10, Tryz.ntmps10
  go_wp2_with fail
  refine HK.out.mono ?_
  rintro e w' ⟨rfl, rfl⟩
  go_wp2_with fail
  refine HS.out.mono ?_
  rintro e w' ⟨v, rfl, ho, hb⟩
  have HO := Lib.hid ho
  have HB := Lib.hid hb
  clear ho hb HS HK
  go_wp2_with fail
  go_ret
  exact ⟨v, rfl, own_mono HO.out (by simp), ((Below.refl _ w).alloc (Nat.le_refl _) _).trans (HB.out.mono (by simp))⟩

/- ## Get -/
def GetRes (o : Option ByteArray) : Ending := match o with | some s => .returned (.tuple #[.string s, errV 0]) | none => .returned (.tuple #[.string ⟨#[]⟩, errV 2])
def getV (vs : List VR) (n : Int) (tag key : ByteArray) : Option ByteArray := (verAt vs n).bind fun r => textIn r.buns tag key
set_option maxHeartbeats 1600000 in
set_option maxRecDepth 100000 in
theorem get_any {B b1 p M : Nat} {w : World} {vs : List VR} (h : StoreSt B b1 w p M vs) (n : Int) (tag key : ByteArray) (h1 : -9223372036854775808 ≤ n) (h2 : n ≤ 9223372036854775807) (ht : tag.size ≤ maxLen) (hk : key.size ≤ maxLen) :
    Calls Tryz.prog 12 #[.pointer (some ⟨p, 0, none⟩), .int .i64 n, .string tag, .string key] w fun e w' => e = GetRes (getV vs n tag key) ∧ w = w' := by
  obtain ⟨m, _, hM⟩ := h.all
  have c1 : w.cell? ⟨p, 1, none⟩ = some (.map (some M)) := (h.box.cell 1).trans rfl
  have hr1 := look_ver hM n h1 h2
  have HV := Lib.hid h.vers
  clear hM h
  unfold getV
  cases hv : verAt vs n with
  | none =>
    rw [hv] at hr1
    have hr2 : (Instr.lookup 52 (.map (some M)) (.int .i64 n) false).run Tryz.prog w = .ok (.pointer none) w := hr1
    clear hv hr1 h1 h2
    go_enter Tryz.func12, Tryz.ntmps12
    go_wp2_with fail
    go_ret2
    exact ⟨rfl, rfl⟩
  | some r =>
    have hr : r ∈ vs := by
      obtain ⟨i, hi, _, hri, _⟩ := verAt_some hv
      rw [hri]; exact List.getElem_mem hi
    rw [hv] at hr1
    have hr2 : (Instr.lookup 52 (.map (some M)) (.int .i64 n) false).run Tryz.prog w = .ok (.pointer (some ⟨r.blk, 0, none⟩)) w := hr1
    obtain ⟨wb, S, k, k1, _, hA, hW⟩ := (HV.out r hr).rec_
    have hfine := (HV.out r hr).fine
    have d0 : w.cell? ⟨r.blk, 0, none⟩ = some (.map (some wb)) := (k1.cell 0).trans rfl
    obtain ⟨X, hX⟩ : ∃ X, X = textIn r.buns tag key := ⟨_, rfl⟩
    show Calls Tryz.prog 12 _ _ fun e w' => e = GetRes (textIn r.buns tag key) ∧ _
    rw [← hX]
    by_cases hb : ∃ b ∈ r.buns, b.tag = tag
    · obtain ⟨b, hbm, rfl⟩ := hb
      obtain ⟨mb, q, k2, _, k3⟩ := hW.yes b hbm
      have hr3 := look_yes hA b.tag ht k2
      have hr4 := look_ok_str k3 key hk
      rw [textIn_yes hfine hbm rfl] at hX
      have hu : Uniq b.ents := ((right_iff b).1 (by obtain ⟨j, hj, rfl⟩ := List.mem_iff_getElem.1 hbm; exact (load_zero hfine j hj).1)).uniq
      have e1 : textK (srt b.ents) key = X := by rw [hX]; exact (textK_perm hu (srt_perm hu).symm key).symm
      have e2 : hasK (srt b.ents) key = X.isSome := by
        cases hx : X with
        | none => exact textK_none.1 (e1.trans hx)
        | some t =>
          cases hh : hasK (srt b.ents) key with
          | true => rfl
          | false => rw [textK_none.2 hh, hx] at e1; cases e1
      rw [e1, e2] at hr4
      generalize b.tag = tg at *
      generalize r.blk = rb at *
      clear hv hr1 h1 h2 hX hfine HV hA hW k1 k2 k3 e1 e2 hu hr
      cases X with
      | none =>
        have hr5 : (Instr.lookup 60 (.map (some mb)) (.string key) true).run Tryz.prog w = .ok (.tuple #[.string ⟨#[]⟩, .bool false]) w := hr4
        clear hr4
        go_enter Tryz.func12, Tryz.ntmps12
        go_wp2_with fail
        go_ret2
        exact ⟨rfl, rfl⟩
      | some t =>
        have hr5 : (Instr.lookup 60 (.map (some mb)) (.string key) true).run Tryz.prog w = .ok (.tuple #[.string t, .bool true]) w := hr4
        clear hr4
        go_enter Tryz.func12, Tryz.ntmps12
        go_wp2_with fail
        go_ret2
        exact ⟨rfl, rfl⟩
    · have hno : ∀ b ∈ r.buns, b.tag ≠ tag := fun b hbm e => hb ⟨b, hbm, e⟩
      rw [textIn_no hno] at hX
      subst hX
      have hr3 := look_no hA tag ht (hW.no tag hno)
      have hr4 : (Instr.lookup 60 (.map none) (.string key) true).run Tryz.prog w = .ok (.tuple #[.string ⟨#[]⟩, .bool false]) w := by
        have := Maps.look_nil true lawS Tryz.underlying60 (zero_str w) (key_str hk)
        exact this
      generalize r.blk = rb at *
      clear hv hr1 h1 h2 hfine HV hA hW k1 hr hno hb
      go_enter Tryz.func12, Tryz.ntmps12
      go_wp2_with fail
      go_ret2
      exact ⟨rfl, rfl⟩
end Go.Proofs.YtboilcfeegigcaaGreatDoor
