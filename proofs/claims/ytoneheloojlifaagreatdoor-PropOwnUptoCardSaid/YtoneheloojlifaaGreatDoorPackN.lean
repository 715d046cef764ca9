/- pack.order; slices.SortFunc at entries, by it. -/
import Derived.Test.YtoneheloojlifaaGreatDoorPackP
import Derived.Test.YtoneheloojlifaaGreatDoorBunRow
import Derived.Test.YtoneheloojlifaaGreatDoorLayS
import Derived.Test.YtoneheloojlifaaGreatDoorShelfC
import Derived.Shelf.SlSortCmp.NoneTotal
import Derived.RangeFuncNested
import Derived.RangeFuncBound
import Derived.RangeFuncCalls
import Derived.RangeFuncLeaves
import Derived.Shelf.Abstract
import Derived.Shelf.RegionOpen
import Derived.WalkKit
import Derived.OwnWalkIn
import Derived.TacticsInMore
import Derived.LoopNIn
import Derived.LoopIn
import Derived.Maps.AppendAt
import Derived.Test.YtoneheloojlifaaGreatDoorPackW
import Derived.Lib.SlBytesConst
namespace Go.Proofs.YtoneheloojlifaaGreatDoor
open Go.RowKit Go.Sort

instance : Inhabited Ent := ⟨⟨ByteArray.empty, ByteArray.empty⟩⟩
theorem cmpB : ∀ a b : List UInt8, decide (Lib.compareBytes a b < 0) = bytesBefore a b
  | [], [] => rfl
  | [], _ :: _ => rfl
  | _ :: _, [] => rfl
  | a :: r, b :: s => by
    unfold Lib.compareBytes bytesBefore
    by_cases h : a < b
    · simp [h]
    · by_cases h2 : b < a
      · have hne : a ≠ b := fun e => by subst e; exact h h2
        simp [h, h2, hne]
      · have hab : a = b := by
          rw [← UInt8.toNat_inj]
          have h' := mt UInt8.lt_iff_toNat_lt.2 h
          have h2' := mt UInt8.lt_iff_toNat_lt.2 h2
          omega
        subst hab
        have ih := cmpB r s
        simp only [h, if_false, decide_false, Bool.false_or, beq_self_eq_true, Bool.true_and]
        exact ih
def cfE (x y : Ent) : Int := Lib.compareBytes x.key.data.toList y.key.data.toList
theorem ltOf_cfE (x y : Ent) : ltOf cfE x y = ltK x.key y.key := cmpB _ _
theorem swoE : SWO (ltOf cfE) where
  irrefl x := by rw [ltOf_cfE]; exact ltK_irr _
  trans x y z h1 h2 := by rw [ltOf_cfE] at *; exact ltK_trans h1 h2
  ntrans x y z h1 h2 := by
    rw [ltOf_cfE] at *
    cases h : ltK x.key z.key with
    | false => rfl
    | true =>
      rcases ltK_tri x.key y.key with g | g | g
      · rw [g] at h1; cases h1
      · rw [← g, h] at h2; cases h2
      · have := ltK_trans g h; rw [this] at h2; cases h2

theorem flatE_get (l : List Ent) (t : Nat) (ht : t < l.length * 2) : (flatE l)[t]! = (entCells l.toArray[t / 2]!)[t % 2]! := by
  have hi : t / 2 < l.length := by omega
  have hh := flatE_at l (t / 2) hi
  have hm : t % 2 < 2 := Nat.mod_lt _ (by decide)
  have e1 : (flatE l)[t]? = (entCells l[t / 2])[t % 2]? := by
    rw [← hh, List.getElem?_take, if_pos hm, List.getElem?_drop]
    congr 1; omega
  have e2 : l.toArray[t / 2]! = l[t / 2] := by rw [getElem!_pos l.toArray (t / 2) (by simpa using hi)]; simp
  rw [e2]
  rw [List.getElem!_eq_getElem?_getD, List.getElem!_eq_getElem?_getD, e1]
theorem flatK_flatE (d : Array Ent) : flatK entCells 2 d = (flatE d.toList).toArray := by
  refine ext_get! (by rw [size_flatK]; simp [flatE_length]) fun t ht => ?_
  rw [size_flatK] at ht
  rw [get_flatK _ _ _ _ ht]
  have := flatE_get d.toList t (by rw [Array.length_toList]; exact ht)
  rw [Array.toArray_toList] at this
  rw [← this]; simp
theorem sorted_is_srt {l : List Ent} (hu : Uniq l) {d' : Array Ent} (hp : PermIn 0 l.toArray.size l.toArray d') (hs : SortedIn (ltOf cfE) 0 l.toArray.size d') : d'.toList = srt l := by
  obtain ⟨h1, _, h3⟩ := hp
  have e1 : d'.extract 0 l.toArray.size = d' := by rw [← h1]; simp
  have e2 : l.toArray.extract 0 l.toArray.size = l.toArray := by simp
  rw [e1, e2] at h3
  have h4 : d'.toList.Perm l := by simpa using h3
  have hu' : Uniq d'.toList := h4.symm.pairwise hu fun {x y} hxy => Ne.symm hxy
  refine srt_eq ?_ (srt_srt l) (h4.trans (srt_perm hu).symm)
  refine List.pairwise_iff_getElem.2 fun i j hi hj hij => ?_
  have hj' : j < l.toArray.size := by rw [← h1]; simpa using hj
  have := hs i j (Nat.zero_le _) hij hj'
  rw [ltOf_cfE] at this
  have g1 : d'[j]! = d'.toList[j] := by rw [getElem!_pos d' j (by simpa using hj)]; simp
  have g2 : d'[i]! = d'.toList[i] := by rw [getElem!_pos d' i (by simpa using hi)]; simp
  rw [g1, g2] at this
  rcases ltK_tri d'.toList[i].key d'.toList[j].key with g | g | g
  · exact g
  · exact absurd g (List.pairwise_iff_getElem.1 hu' i j hi hj hij)
  · rw [g] at this; cases this

set_option maxHeartbeats 1000000 in
theorem order_any (x y : Ent) (W : World) :
    Calls Tryz.prog 47 #[.agg (entCells x).toArray, .agg (entCells y).toArray] W fun e w' => e = .returned (.int .i64 (cfE x y)) ∧ ∃ q os', w' = grow (W.drewN q) os' := by
  have hcon := fun W' => Tryz.strings_Compare x.key y.key W'
  unfold cfE
  generalize Lib.compareBytes x.key.data.toList y.key.data.toList = r at hcon ⊢
  obtain ⟨xk, xt⟩ := x
  obtain ⟨yk, yt⟩ := y
  unfold entCells
  dsimp only at hcon ⊢
  go_enter Tryz.func47, Tryz.ntmps47
  go_wp2_with fail
  refine (hcon _).mono ?_
  rintro e w' ⟨rfl, rfl⟩
  go_wp2_with fail
  go_ret
  exact ⟨rfl, 0, _, by rw [alloc_eq_grow, alloc_eq_grow, grow_grow]; rfl⟩
theorem orderLays (blk off size : Nat) (w : World) : CmpLays Tryz.prog 47 #[] entCells 2 cfE blk off size w :=
  fun _ _ _ _ x y => order_any x y _

theorem heap_mapBlock {w : World} {b : Nat} {f : Array Value → Array Value} {cur : Array Value} {t : TypeId} {fr : Nat × Nat} (h : w.heap[b]? = some (.cells cur t fr)) : (mapBlock w b f).heap[b]? = some (.cells (f cur) t fr) := by
  obtain ⟨hlt, hk⟩ := Array.getElem?_eq_some_iff.1 h
  show (w.heap.modify b _)[b]? = _
  rw [Array.getElem?_eq_getElem (by rw [Array.size_modify]; exact hlt), Array.getElem_modify_self, hk]
  rfl
theorem heap_mapBlock_other {w : World} {b k : Nat} {f : Array Value → Array Value} (h : k ≠ b) : (mapBlock w b f).heap[k]? = w.heap[k]? := by
  show (w.heap.modify b _)[k]? = _
  rw [Array.getElem?_modify, if_neg (Ne.symm h)]
theorem heap_grow {w : World} {os : Array Obj} {k : Nat} (h : k < w.heap.size) : (grow w os).heap[k]? = w.heap[k]? := by
  show (w.heap ++ os)[k]? = _
  rw [Array.getElem?_append_left h]
theorem putCells_take (F cur : Array Value) (h : F.size ≤ cur.size) : (putCells id 0 F cur).toList.take F.size = F.toList := by
  apply List.ext_getElem
  · simp [putCells]; omega
  · intro i h1 h2
    have hi : i < F.size := by simpa using h2
    simp [putCells, hi]

theorem sortE_any (base : Nat) (l : List Ent) (v : Value) (w : World) (hu : Uniq l) (hn : l.length < 4611686018427387904) (h : w.ownsRow base 62 2 v l.length (flatE l)) :
    Calls Tryz.prog 71 #[v, .func (.func 47) #[] #[]] w fun e w' => e = .returned (.tuple #[]) ∧ w'.ownsRow base 62 2 v l.length (flatE (srt l)) ∧ Below base w w' := by
  obtain ⟨hlen, ⟨rfl, h0⟩ | ⟨g, cap, cur, rfl, hbase, hg, hcap, hmax, hcur, htake⟩⟩ := h
  · have hl : l = [] := List.length_eq_zero_iff.1 h0
    subst hl
    refine (AnyF.slices_SortFunc_none Tryz.laySortF none 0 _ w).mono ?_
    rintro e w' ⟨rfl, rfl⟩
    exact ⟨rfl, ⟨rfl, .inl ⟨rfl, rfl⟩⟩, Below.refl _ _⟩
  · have hlt : g < w.heap.size := (Array.getElem?_eq_some_iff.1 hg).1
    have hsz : l.toArray.size = l.length := by simp
    have hH : HoldsK entCells 2 w g 0 l.toArray := by
      intro j hj
      rw [size_flatK, hsz] at hj
      have hjc : j < cur.size := by rw [hcur]; exact Nat.lt_of_lt_of_le hj (Nat.mul_le_mul_right 2 hcap)
      have e1 : (flatE l)[j]? = some cur[j] := by
        rw [← htake, List.getElem?_take, if_pos hj, Array.getElem?_toList, Array.getElem?_eq_getElem hjc]
      refine ⟨?_, ?_⟩
      · rw [flatK_flatE, Nat.zero_add]
        have e2 : (flatE l.toArray.toList).toArray[j]! = cur[j] := by
          simp only [List.toList_toArray]
          rw [getElem!_pos _ j (by rw [List.size_toArray, flatE_length]; exact hj)]
          have := (List.getElem?_eq_some_iff.1 e1).2
          simpa using this
        rw [e2]
        simp [World.cell?, hg, hjc]
      · simp [World.frozen?, hg]
    have hcon := AnyQ.slices_SortFunc Tryz.laySortF 2 Tryz.isAgg62 Tryz.sizeOf62 entCells (fun _ => rfl) (fun x v hv => by simp [entCells] at hv; rcases hv with rfl | rfl <;> rfl) cfE swoE 47 #[] g 0 cap l.toArray w (enters_of Tryz.func47 (by kernel_rfl) rfl) (orderLays g 0 _ w) hH hlt (by rw [hsz]; exact hn)
    rw [hsz] at hcon
    refine hcon.mono ?_
    rintro e w' ⟨rfl, d', n, os, hp, hs, rfl⟩
    rw [← hsz] at hp hs
    have hd := sorted_is_srt hu hp hs
    have hdl : d'.size = l.length := by rw [hp.1, hsz]
    have hg2 : (sortWorldK entCells 2 w g 0 n d' os).heap[g]? = some (.cells (putCells id 0 (flatK entCells 2 d') cur) 62 (0, 0)) := by
      unfold sortWorldK
      rw [heap_grow (by show g < (putRowK entCells 2 (Sort.ahead w n) g 0 d').heap.size; simp [putRowK]; exact hlt)]
      exact heap_mapBlock (w := Sort.ahead w n) hg
    refine ⟨rfl, ⟨?_, .inr ⟨g, cap, _, rfl, hbase, hg2, hcap, hmax, ?_, ?_⟩⟩, ?_⟩
    · rw [flatE_length, srt_length hu]
    · simp [putCells]; exact hcur
    · have hF : (flatK entCells 2 d').size = l.length * 2 := by rw [size_flatK, hdl]
      have := putCells_take (flatK entCells 2 d') cur (by rw [hF, hcur]; exact Nat.mul_le_mul_right 2 hcap)
      rw [hF] at this
      rw [this, flatK_flatE, hd]
    · refine ⟨rfl, rfl, rfl, ?_, fun k hk => ?_⟩
      · show w.heap.size ≤ (grow _ os).heap.size
        simp [grow, putRowK]
      · unfold sortWorldK
        rw [heap_grow (by show k < (putRowK entCells 2 (Sort.ahead w n) g 0 d').heap.size; simp [putRowK]; omega)]
        exact heap_mapBlock_other (w := Sort.ahead w n) (by omega)
end Go.Proofs.YtoneheloojlifaaGreatDoor
/- slices.Values, Collect and SortedFunc at entries. -/

namespace Go.Proofs.YtoneheloojlifaaGreatDoor
open Go.RowKit Go.Shelf

attribute [local go_sem] Oper.semAt_some

theorem below_grownBy {W W' : World} (h : Below W.heap.size W W') : W.grownBy W' none := ⟨h.os, h.tape, h.output, h.size, fun k hk _ => h.block k hk⟩
theorem blk_own {β : Type} (B : Nat) (t : TypeId) (f : β → Array Value) : Own (fun s W => Blk W B t (f s)) := fun s X Y row hs hg hrow =>
  (hg.block B (Blk.lt hs) (fun e' => by obtain ⟨o, ho, hc⟩ := hrow B e'.symm; rw [show X.heap[B]? = _ from hs] at ho; cases ho; cases hc)).trans hs
theorem take_snoc (zs : List Ent) (k : Nat) (h : k < zs.length) : zs.take (k + 1) = zs.take k ++ [zs[k]] := by rw [List.take_succ_eq_append_getElem h]
def encE (e : Ent) : Array Value := #[.agg #[.string e.key, .string e.text]]

set_option maxRecDepth 100000 in
set_option maxHeartbeats 2000000 in
theorem valE1_in (n : Nat) (hn : 1 ≤ n) (l Bs n₀ b off cap : Nat) (zs : List Ent) (hreach : zs.length ≤ 1000000) (hb : b < n₀) (J Jx : List Ent → World → Prop)
    (W : World) (hJ : AbidesFrom W.heap.size J)
    (hY : ∀ pre x W, J pre W → pre.length < zs.length → YieldAt Fence.wide (n - 1) Tryz.prog l (encE x) W fun e W' =>
      (e = .returned (.bool true) ∧ J (pre ++ [x]) W' ∧ Below n₀ W W') ∨ (e = .returned (.bool false) ∧ Jx (pre ++ [x]) W'))
    (hn0 : n₀ ≤ W.heap.size) (hBs : W.cell? ⟨Bs, 0, none⟩ = some (.slice (some ⟨b, off, none⟩) zs.length cap)) (hc : ∀ j (h : j < zs.length), W.cell? ⟨b, off + j * 2, none⟩ = some (.string zs[j].key) ∧ W.cell? ⟨b, off + j * 2 + 1, none⟩ = some (.string zs[j].text)) (h0 : J [] W) :
    CallsIn Fence.wide n Tryz.prog 72 #[.func (.yield l) #[] #[], .pointer (some ⟨Bs, 0, none⟩)] W fun e W' => (∃ v, e = .returned v) ∧
      (J zs W' ∨ (∃ k, Jx (zs.take k) W')) := by
  refine callsIn_of_wp Tryz.func72 rfl trivial ?_ rfl
  simp only [Tryz.ntmps72, List.size_toArray, List.length_cons, List.length_nil, Nat.reduceAdd, Nat.reduceSub, Array.replicate_succ, Array.replicate_zero, List.push_toArray, List.append_toArray, List.nil_append, List.cons_append]
  gi_wp2
  gi_loopw [4, 7] (fun _ i wr => ∃ k : Nat, k ≤ zs.length ∧ i = .int .i64 k ∧ J (zs.take k) wr ∧ Below n₀ W wr)
    (fun _ i _ => zs.length - (intOf i).toNat)
  case atStart => exact ⟨0, Nat.zero_le _, rfl, h0, Below.refl _ _⟩
  case round =>
    obtain ⟨k, hk, rfl, hJs, hnx⟩ := hrel
    by_cases hlt : k < zs.length
    · have hx0 := (hnx.cell (p := ⟨b, off + k * 2, none⟩) hb).trans (hc k hlt).1
      have hx1 := (hnx.cell (p := ⟨b, off + k * 2 + 1, none⟩) hb).trans (hc k hlt).2
      have hJ2 : J (zs.take k) (wr.alloc (.cells #[.string zs[k].key, .string zs[k].text] 62)) := hJ _ _ _ none hJs (World.grownBy_alloc _ _ none) (fun r e => by cases e)
      obtain ⟨fn, tmps, assign, body, hy, hR⟩ := hY _ zs[k] _ hJ2 (by rw [List.length_take]; omega)
      unfold encE at hy
      have hb2 : Below n₀ W (wr.alloc (.cells #[.string zs[k].key, .string zs[k].text] 62)) := hnx.alloc (Nat.le_trans hn0 hnx.size) _
      have HT := take_snoc zs k hlt
      gi_wp2
      refine hR.mono ?_
      rintro e W3 (⟨rfl, hJ3, hk3⟩ | ⟨rfl, hJx3⟩)
      · gi_wp2
        go_roundw
        case rel => exact ⟨k + 1, by omega, by simp, by rw [HT]; exact hJ3, hb2.trans hk3⟩
        case measure => simp [intOf]; omega
      · gi_wp2
        refine bodyPost_ret (results_none rfl _ _ _) rfl ?_
        exact ⟨⟨_, rfl⟩, .inr ⟨k + 1, by rw [HT]; exact hJx3⟩⟩
    · obtain rfl : k = zs.length := by omega
      rw [List.take_length] at hJs
      gi_wp2
      go_end0
      exact ⟨⟨_, rfl⟩, .inl hJs⟩
set_option maxRecDepth 100000 in
set_option maxHeartbeats 1000000 in
theorem valE1_nil (n : Nat) (l Bs : Nat) (J : List Ent → World → Prop) (W : World) (A : Option Addr) (c : Nat) (hBs : W.cell? ⟨Bs, 0, none⟩ = some (.slice A 0 c)) (h0 : J [] W) :
    CallsIn Fence.wide n Tryz.prog 72 #[.func (.yield l) #[] #[], .pointer (some ⟨Bs, 0, none⟩)] W fun e W' => (∃ v, e = .returned v) ∧ J [] W' := by
  refine callsIn_of_wp Tryz.func72 rfl trivial ?_ rfl
  simp only [Tryz.ntmps72, List.size_toArray, List.length_cons, List.length_nil, Nat.reduceAdd, Nat.reduceSub, Array.replicate_succ, Array.replicate_zero, List.push_toArray, List.append_toArray, List.nil_append, List.cons_append]
  gi_wp2
  gi_loopw [4, 7] (fun _ i wr => i = .int .i64 0 ∧ J [] wr) (fun _ _ _ => 0)
  case atStart => exact ⟨rfl, h0⟩
  case round =>
    obtain ⟨rfl, hJs⟩ := hrel
    gi_wp2
    go_end0
    exact ⟨⟨_, rfl⟩, hJs⟩

/-- The box Bs holds the slice of l; what it reads lies below n₀. -/
theorem valE_stops (n : Nat) (hn : 1 ≤ n) (lo Bs n₀ : Nat) (A : Option Addr) (c : Nat) (zs : List Ent) (hreach : zs.length ≤ 1000000) (w : World) (hBs : Bs < w.heap.size) (hn₀ : n₀ ≤ w.heap.size)
    (hc : w.cell? ⟨Bs, 0, none⟩ = some (.slice A zs.length c)) (hI : ListOk Enc.ent w lo n₀ (.slice A zs.length c) zs) :
    SeqStopsK Fence.wide n Tryz.prog 72 #[.pointer (some ⟨Bs, 0, none⟩)] encE (Below n₀) (fun ys => ys = zs) (fun _ => True) zs.length w := fun l J Jx W hW hJ _ hY h0 => by
  have hc' := (hW.cell hBs).trans hc
  by_cases hz : zs.length = 0
  · have : zs = [] := List.length_eq_zero_iff.1 hz
    subst this
    exact (valE1_nil n l Bs J W A c hc' h0).mono fun e W' ⟨he, hj⟩ => ⟨he, .inl ⟨_, rfl, hj⟩⟩
  · obtain ⟨b, o, rfl, _, hb, _, _⟩ := hI.entAt 0 (by omega)
    refine (valE1_in n hn l Bs n₀ b o c zs hreach hb J Jx W hJ hY (Nat.le_trans hn₀ hW.size) hc' (fun j hj => ?_) h0).mono ?_
    · obtain ⟨b', o', hA, _, _, x0, x1⟩ := hI.entAt j hj
      injection hA with hA
      injection hA with e1 e2
      subst e1; subst e2
      exact ⟨(hW.cell (p := ⟨b, o + j * 2, none⟩) (Nat.lt_of_lt_of_le hb hn₀)).trans x0, (hW.cell (p := ⟨b, o + j * 2 + 1, none⟩) (Nat.lt_of_lt_of_le hb hn₀)).trans x1⟩
    · rintro e W' ⟨he, hj | ⟨k, hj⟩⟩
      · exact ⟨he, .inl ⟨_, rfl, hj⟩⟩
      · exact ⟨he, .inr ⟨_, trivial, hj⟩⟩
theorem cells_two_new (w : World) (x y : Value) (t : TypeId) : ∀ j u, [x, y][j]? = some u → (w.alloc (.cells #[x, y] t)).cell? ((⟨w.heap.size, 0, none⟩ : Addr).add j) = some u := by
  intro j u hj
  have h := (Blk.new w t #[x, y]).cell j
  have e : ((⟨w.heap.size, 0, none⟩ : Addr).add j) = ⟨w.heap.size, j, none⟩ := by
    unfold Addr.add
    split
    · rename_i h0
      have h0' : j = 0 := by simpa using h0
      subst h0'; rfl
    · simp
  rw [e, h]; simpa using hj
theorem flatE_snoc' (es : List Ent) (e : Ent) : flatE (es ++ [e]) = flatE es ++ [.string e.key, .string e.text] := by simp [flatE, entCells]

set_option maxRecDepth 100000 in
set_option maxHeartbeats 4000000 in
/-- slices.AppendSeq(nil, seq) over what slices.Values has told. -/
theorem appendE_any (lo Bs : Nat) (A : Option Addr) (c : Nat) (zs : List Ent) (hreach : zs.length ≤ 1000000) (w : World) (hBs : w.cell? ⟨Bs, 0, none⟩ = some (.slice A zs.length c)) (hBl : Bs < w.heap.size) (hI : ListOk Enc.ent w lo w.heap.size (.slice A zs.length c) zs) :
    Calls Tryz.prog 107 #[.slice none 0 0, .func (.func 72) #[] #[.pointer (some ⟨Bs, 0, none⟩)]] w fun e w' =>
      ∃ v, e = .returned v ∧ w'.ownsRow w.heap.size 62 2 v zs.length (flatE zs) ∧ Below w.heap.size w w' := by
  refine (callsIn_wide (n := 3)).1 ?_
  obtain ⟨i0, hi, hz0, hz1, hz2⟩ := info_parts info_ent
  refine callsIn_of_wp_marks Tryz.func107 rfl trivial ?_ rfl
  simp only [Tryz.ntmps107, List.size_toArray, List.length_cons, List.length_nil, Nat.reduceAdd, Nat.reduceSub, Array.replicate_succ, Array.replicate_zero, List.push_toArray, List.append_toArray, List.nil_append, List.cons_append]
  gi_wp2
  have bO := Boxed.new w 22 (.slice none 0 0)
  have hB0 : Below w.heap.size w (w.alloc (.cells #[.slice none 0 0] 22)) := (Below.refl _ w).alloc (Nat.le_refl _) _
  have hsz0 : (w.alloc (.cells #[.slice none 0 0] 22)).heap.size = w.heap.size + 1 := by simp
  have hBs1 := (hB0.cell (p := ⟨Bs, 0, none⟩) hBl).trans hBs
  have hI1 := hI.below Enc.ent_laws hB0
  refine wpIn_rangeFunc_ownH rfl (by decide) (gf := 72) (lb := #[.pointer (some ⟨Bs, 0, none⟩)]) rfl trivial (enters_of Tryz.func72 (by kernel_rfl) rfl)
    (valE_stops 2 (by decide) lo Bs w.heap.size A c zs hreach _ (by omega) (by omega) hBs1 hI1) belowK_t (belowK_b (by omega)) (Below.refl _ _) (fun _ => rfl)
    (fun pre W => (∃ v, Boxed W w.heap.size 22 v ∧ W.ownsRow w.heap.size 62 2 v pre.length (flatE pre) ∧ True) ∧ Below w.heap.size w W)
    (fun _ _ _ => False)
    (OwnFrom.and (Own.from (holdsRow_own w.heap.size w.heap.size 22 62 2 (fun pre => pre.length) (fun pre => flatE pre) (fun _ _ => True)) _) (ownFrom_below (Nat.le_refl _) (by omega)))
    (fun _ _ _ _ _ hs _ _ => hs)
    ⟨⟨_, bO, World.ownsRow_nil _ _ _ _, trivial⟩, hB0⟩
    (fun x a' W => ∃ Bx, w.heap.size < Bx ∧ Blk W Bx 62 #[.string x.key, .string x.text] ∧ a' = { tmps := #[.slice none 0 0, .func (.func 72) #[] #[.pointer (some ⟨Bs, 0, none⟩)], .pointer (some ⟨w.heap.size, 0, none⟩), undef, .slice none 0 0, .pointer (some ⟨Bx, 0, none⟩), .func (.func 72) #[] #[.pointer (some ⟨Bs, 0, none⟩)], .agg #[.string x.key, .string x.text], undef, undef, undef, undef, undef], defers := [] })
    (fun x a' _ X Y row hs hg hr => by
      obtain ⟨Bx, h1, h2, h3⟩ := hs
      exact ⟨Bx, h1, blk_own Bx 62 (fun (_ : Unit) => #[.string x.key, .string x.text]) () X Y row h2 hg (fun r e => (hr r e).2), h3⟩)
    ?assign ?body ?done ?stop
  case assign =>
    rintro l pre x W K ⟨⟨v, hv, hrow, _⟩, hB⟩ hK
    unfold encE
    gi_wp2
    exact hK _ _ ((KeepsOthers.alloc _ _).from _) ((Below.refl _ W).alloc hB.size _) ⟨⟨v, hv.alloc _, hrow.alloc _, trivial⟩, hB.alloc hB.size _⟩ ⟨W.heap.size, hv.lt, Blk.new W 62 _, rfl⟩
  case body =>
    rintro l pre x a' W hl ⟨r, hr⟩ ⟨⟨v, hv, hrow, _⟩, hB⟩ ⟨Bx, hBx, bX, rfl⟩ hlt
    have hc := hv.cell
    have x0 : W.cell? ⟨Bx, 0, none⟩ = some (.string x.key) := (bX.cell 0).trans rfl
    have x1 : W.cell? ⟨Bx, 1, none⟩ = some (.string x.text) := (bX.cell 1).trans rfl
    have hC2 := Lib.hid (cells_two_new W (.string x.key) (.string x.text) 62)
    gi_wp2_with (gi_at_builtin; refine wpListIn_append_own _ rfl _ _ 22 rfl w.heap.size 62 i0 (.agg #[.string ⟨#[]⟩, .string ⟨#[]⟩]) 2 32 Tryz.underlying22 hi hz0 hz1 hz2 rfl (by decide) _ _ _ rfl (hrow.alloc _) ⟨W.heap.size, 0, none⟩ 1 1 [.string x.key, .string x.text] rfl rfl hC2.out (by simp [Value.oneCell']) (by unfold maxLen; omega) (by omega) (by have := hB.size; simp; omega) ?_; intro v' w1 hown' hgrow _; obtain ⟨g', cap', rfl⟩ := ownsRow_succ hown'; obtain ⟨hv1, hv2, hr2, hk2, hb2⟩ := hv.appended (by decide) hrow hB.size (Nat.le_refl _) hown' hgrow; have hc1 := hv1.cell; have hf1 := hv1.frozen)
    exact ⟨hk2.from _, hb2, ⟨_, hv2, by rw [flatE_snoc']; simpa using hr2, trivial⟩, hB.trans hb2⟩
  case done =>
    rintro D ys W hD rfl ⟨⟨v, hv, hrow, _⟩, hB⟩ hK
    have hc := hv.cell
    gi_wp2
    refine ⟨by simp, .inl ⟨_, _, rfl, run_takeDeferred hK, ?_⟩⟩
    exact ⟨_, results_tmp rfl _ _ _, v, rfl, ownsRow_putObj hrow _ hK rfl, hB.trans (belowK_b (w := w) (Nat.le_refl _) W D _ _ (by simp at hD; omega) hK rfl rfl)⟩
  case stop =>
    rintro D c' pre W _ _ h _
    exact h.elim
theorem valuesE_any (A : Option Addr) (n c : Nat) (w : World) :
    Calls Tryz.prog 46 #[.slice A n c] w fun e w' => e = .returned (.func (.func 72) #[] #[.pointer (some ⟨w.heap.size, 0, none⟩)]) ∧ w' = w.alloc (.cells #[.slice A n c] 22) := by
  go_enter Tryz.func46, Tryz.ntmps46
  go_wp2_with fail
  go_ret
  exact ⟨rfl, rfl⟩
theorem collectE_any (lo Bs : Nat) (A : Option Addr) (c : Nat) (zs : List Ent) (hreach : zs.length ≤ 1000000) (w : World) (hBs : w.cell? ⟨Bs, 0, none⟩ = some (.slice A zs.length c)) (hBl : Bs < w.heap.size) (hI : ListOk Enc.ent w lo w.heap.size (.slice A zs.length c) zs) :
    Calls Tryz.prog 70 #[.func (.func 72) #[] #[.pointer (some ⟨Bs, 0, none⟩)]] w fun e w' =>
      ∃ v, e = .returned v ∧ w'.ownsRow w.heap.size 62 2 v zs.length (flatE zs) ∧ Below w.heap.size w w' := by
  have HA := Lib.hid (appendE_any lo Bs A c zs hreach w hBs hBl hI)
  clear hBs hI
  go_enter Tryz.func70, Tryz.ntmps70
  go_wp2_with fail
  refine HA.out.mono ?_
  clear HA
  rintro e w1 ⟨v, rfl, h1, h2⟩
  have H1 := Lib.hid h1
  have H2 := Lib.hid h2
  clear h1 h2
  go_wp2_with fail
  go_ret
  exact ⟨_, rfl, H1.out, H2.out⟩
set_option maxRecDepth 100000 in
theorem sortedE_any (lo Bs : Nat) (A : Option Addr) (c : Nat) (zs : List Ent) (hreach : zs.length ≤ 1000000) (hu : Uniq zs) (w : World) (hBs : w.cell? ⟨Bs, 0, none⟩ = some (.slice A zs.length c)) (hBl : Bs < w.heap.size) (hI : ListOk Enc.ent w lo w.heap.size (.slice A zs.length c) zs) :
    Calls Tryz.prog 45 #[.func (.func 72) #[] #[.pointer (some ⟨Bs, 0, none⟩)], .func (.func 47) #[] #[]] w fun e w' =>
      ∃ v, e = .returned v ∧ w'.ownsRow w.heap.size 62 2 v zs.length (flatE (srt zs)) ∧ Below w.heap.size w w' := by
  have HC := Lib.hid (collectE_any lo Bs A c zs hreach w hBs hBl hI)
  clear hBs hI
  go_enter Tryz.func45, Tryz.ntmps45
  go_wp2_with fail
  refine HC.out.mono ?_
  clear HC
  rintro e w1 ⟨v, rfl, h1, h2⟩
  have HS := Lib.hid (sortE_any w.heap.size zs v w1 hu (by omega) h1)
  have H2 := Lib.hid h2
  clear h1 h2
  go_wp2_with fail
  refine HS.out.mono ?_
  clear HS
  rintro e w2 ⟨rfl, h1, h2⟩
  have H3 := Lib.hid h1
  have H4 := Lib.hid h2
  clear h1 h2
  go_wp2_with fail
  go_ret
  exact ⟨_, rfl, H3.out, H2.out.trans H4.out⟩
end Go.Proofs.YtoneheloojlifaaGreatDoor
/- pack.Encode, at any bundle. -/

namespace Go.Proofs.YtoneheloojlifaaGreatDoor
open Go.RowKit

theorem own_blk_ne' {w : World} {base : Nat} {e t : TypeId} {size : Nat} {v : Value} {n : Nat} {xs : List Value} {g : Nat} {cs : Array Value} (h : w.ownsRow base e size v n xs) (k : Blk w g t cs) (hne : e ≠ t) : v.ownBlock ≠ some g := by
  intro hg
  obtain ⟨_, ⟨h2, _⟩ | ⟨g1, cap, cur, hv, hb, hh, r⟩⟩ := h
  · rw [h2] at hg; cases hg
  · rw [hv] at hg; injection hg with hg; subst hg
    have k' := hh.symm.trans k
    injection k' with k'
    injection k' with _ k' _
    exact hne k'
/-- bytes in a row of the call's own -/
theorem bytes_of_own {w : World} {base lo hi : Nat} {v : Value} {l : List UInt8} (h : w.ownsRow base 5 1 v l.length (bytesV l)) (hb : lo ≤ base) (hs : w.heap.size ≤ hi) : ListOk Enc.byte w lo hi v l :=
  ListOk.of_own (E := Enc.byte) h hb hs fun i hl => by
    show ((bytesV l).drop (i * 1)).take 1 = [.int .u8 l[i].toNat]
    have hi' : i < (bytesV l).length := by rw [bytesV_length]; exact hl
    rw [Nat.mul_one, List.drop_eq_getElem_cons hi', List.take_succ_cons, List.take_zero]
    simp [bytesV]
/-- What Encode does, in plain words. -/
def EncRes (w : World) (b : Bun) (e : Ending) (w' : World) : Prop :=
  Below w.heap.size w w' ∧ ((bunFault b ≠ 0 ∧ e = .returned (.tuple #[.slice none 0 0, errV (bunFault b)])) ∨
    (bunFault b = 0 ∧ ∃ u, e = .returned (.tuple #[u, .nilIface]) ∧ w'.ownsRow w.heap.size 5 1 u (bytesB b).length (bytesV (bytesB b))))
/-- Between two entries. -/
structure EncSt (w wr : World) (p : Nat) (u : Value) (S : List Ent) (L : List UInt8) : Prop where
  wr_ : Wr w.heap.size wr p L
  row : wr.ownsRow w.heap.size 62 2 u S.length (flatE S)
  below : Below w.heap.size w wr
theorem Wr.lt {base p : Nat} {w : World} {L : List UInt8} (h : Wr base w p L) : p < w.heap.size := let ⟨_, h1, _⟩ := h.at_; h1.lt
theorem EncSt.wrote {w wr W : World} {p : Nat} {u : Value} {S : List Ent} {L L' : List UInt8} (h : EncSt w wr p u S L) (hw : Wr w.heap.size W p L') (hf : Fr wr W (WSet w.heap.size p wr)) : EncSt w W p u S L' :=
  ⟨hw, WSet.own hf h.row (let ⟨_, h1, _⟩ := h.wr_.at_; own_blk_ne' h.row h1 (by decide)) (by decide), h.below.trans (WSet.below hf h.below.size)⟩
theorem EncSt.keep {w wr W : World} {p : Nat} {u : Value} {S : List Ent} {L : List UInt8} (h : EncSt w wr p u S L) (hb : Below wr.heap.size wr W) : EncSt w W p u S L :=
  ⟨h.wr_.keep hb, own_below h.row hb (Nat.le_refl _), h.below.trans (hb.mono h.below.size)⟩
def preB (t : ByteArray) (n : Nat) (S : List Ent) (j : Nat) : List UInt8 := magicB ++ (numB t.size 1 ++ bts t) ++ numB n 2 ++ (S.take j).flatMap entB
theorem entB_len {e : Ent} (hk : keyOk e.key = true) (ht : e.text.size ≤ 2000) : (entB e).length ≤ 2043 := by
  have := key_40 hk
  unfold entB txt1 txt2 be2
  simp [bts_len]; omega
theorem flat_len : ∀ (S : List Ent), (∀ e ∈ S, keyOk e.key = true ∧ e.text.size ≤ 2000) → (S.flatMap entB).length ≤ S.length * 2043
  | [], _ => by simp
  | e :: r, h => by
    rw [List.flatMap_cons, List.length_append, List.length_cons]
    have h1 := entB_len (h e List.mem_cons_self).1 (h e List.mem_cons_self).2
    have h2 := flat_len r fun x hx => h x (List.mem_cons_of_mem _ hx)
    omega
theorem preB_len {t : ByteArray} {n : Nat} {S : List Ent} (ht : t.size ≤ 200) (hS : S.length ≤ 100) (h : ∀ e ∈ S, keyOk e.key = true ∧ e.text.size ≤ 2000) (j : Nat) : (preB t n S j).length ≤ 210000 := by
  have h1 := flat_len (S.take j) fun e he => h e (List.mem_of_mem_take he)
  have h2 : (S.take j).length ≤ 100 := by rw [List.length_take]; omega
  have h3 : (S.take j).length * 2043 ≤ 100 * 2043 := Nat.mul_le_mul_right _ h2
  unfold preB
  simp only [List.length_append, numB_length, bts_len]
  have : magicB.length = 4 := rfl
  omega
theorem preB_succ (t : ByteArray) (n : Nat) (S : List Ent) (j : Nat) (h : j < S.length) : preB t n S (j + 1) = preB t n S j ++ (numB S[j].key.size 1 ++ bts S[j].key) ++ (numB S[j].text.size 2 ++ bts S[j].text) := by
  unfold preB
  rw [List.take_succ_eq_append_getElem h, List.flatMap_append]
  simp only [List.append_assoc, List.flatMap_cons, List.flatMap_nil, List.append_nil, numB_one, numB_two, entB, txt1, txt2, List.cons_append, List.nil_append]
theorem preB_end (t : ByteArray) (S : List Ent) : preB t S.length S S.length = bodyB t S := by
  unfold preB bodyB
  rw [List.take_length, numB_one, numB_two]
  simp only [List.append_assoc]
  rfl

set_option maxHeartbeats 3200000 in
set_option maxRecDepth 100000 in
theorem encode_any (b : Bun) (v : Value) (w : World) (h : BunIn w b v) (hm : MaxVar w) :
    Calls Tryz.prog 19 #[.agg #[.string b.tag, v]] w fun e w' => EncRes w b e w' := by
  have HB := Lib.hid h
  have HM := Lib.hid hm
  obtain ⟨lo, hl⟩ := h.lo
  obtain ⟨A, c, rfl, _⟩ := hl.form
  have HL := Lib.hid hl
  have HCk : Hid (∀ W, Below w.heap.size w W → Calls Tryz.prog 15 #[.agg #[.string b.tag, .slice A b.ents.length c]] W fun e w' => e = .returned (errV (bunFault b)) ∧ Below W.heap.size W w') := Lib.hid fun W hW => bunCheck_any b _ W (h.below hW) (hm.below hW)
  obtain ⟨bt, l⟩ := b
  dsimp only at *
  clear h hm hl
  go_enter Tryz.func19, Tryz.ntmps19
  go_wp2_with fail
  refine (HCk.out _ ((Below.refl _ w).alloc (Nat.le_refl _) _)).mono ?_
  clear HCk
  rintro e w1 ⟨rfl, hb1⟩
  have HB1 := Lib.hid (((Below.refl w.heap.size w).alloc (Nat.le_refl _) (.cells #[.string bt, .slice A l.length c] 24)).trans (hb1.mono (by simp)))
  have m1 := (Blk.new w 24 #[.string bt, .slice A l.length c]).below hb1 (by simp)
  have hs1 : w.heap.size + 1 ≤ w1.heap.size := by have := hb1.size; simpa using this
  clear hb1
  by_cases hf : bunFault ⟨bt, l⟩ = 0
  · have HF := Lib.hid hf
    have hR := (right_iff ⟨bt, l⟩).1 hf
    rw [hf, errV_zero]
    have HR := Lib.hid hR
    have c0 : w1.cell? ⟨w.heap.size, 0, none⟩ = some (.string bt) := (m1.cell 0).trans rfl
    have M1 := Lib.hid m1
    have hconv := Lib.run_convert_bytes_const (P := Tryz.prog) w1 77 5 #[.int .u8 76, .int .u8 71, .int .u8 66, .int .u8 49] 4 4 Tryz.underlying77 Tryz.underlying5
    have hlt1 : w.heap.size < w1.heap.size := by omega
    clear hf hR m1
    go_wp2_with fail
    have hts : bt.size ≤ 200 := tag_short HR.out.tag
    obtain ⟨W2, eW2⟩ : ∃ W2, W2 = ((w1.alloc (.cells #[.int .u8 76, .int .u8 71, .int .u8 66, .int .u8 49] 5 (4, 5))).alloc (.cells #[.slice (some ⟨w1.heap.size, 0, none⟩) 4 4] 77)) := ⟨_, rfl⟩
    obtain ⟨p, hp⟩ : ∃ p, p = w1.heap.size + 1 := ⟨_, rfl⟩
    have hb2 : Below w1.heap.size w1 W2 := by rw [eW2]; exact ((Below.refl _ _).alloc (Nat.le_refl _) _).alloc (by simp) _
    have hpW : p < W2.heap.size := by rw [eW2, hp]; simp
    have hWm : Wm w.heap.size W2 p magicB := by
      refine ⟨by omega, w1.heap.size, by omega, ?_, fun j u hj => ?_⟩
      · rw [eW2, hp]
        have := Blk.new (w1.alloc (.cells #[.int .u8 76, .int .u8 71, .int .u8 66, .int .u8 49] 5 (4, 5))) 77 #[.slice (some ⟨w1.heap.size, 0, none⟩) 4 4]
        rw [World.size_alloc] at this; exact this
      · rw [eW2, World.cell?_alloc_lt _ _ _ (by simp), World.cell?_alloc_mark]
        have hmb : bytesV magicB = [.int .u8 76, .int .u8 71, .int .u8 66, .int .u8 49] := rfl
        rw [hmb] at hj
        simpa using hj
    rw [← eW2, ← hp]
    have m2 := M1.out.below hb2 hlt1
    have HF1 := Lib.hid (wtext_first w.heap.size p bt magicB W2 hWm (by have := hb2.size; omega) (by decide) (by omega))
    have HB2 := Lib.hid (HB1.out.trans (hb2.mono (by omega)))
    have M2 := Lib.hid m2
    have hpne : w.heap.size ≠ p := by omega
    have hp1 : w1.heap.size < p := by omega
    clear eW2 hWm m2 hconv c0 hb2 hp
    refine HF1.out.mono ?_
    clear HF1
    rintro e w3 ⟨rfl, hw3, hf3, hs3⟩
    have m3 := WSet.blk hf3 M2.out hpne (by decide)
    have HW3 := Lib.hid hw3
    have HB3 := Lib.hid (HB2.out.trans (WSet.below hf3 HB2.out.size))
    have M3 := Lib.hid m3
    have c1 : w3.cell? ⟨w.heap.size, 1, none⟩ = some (.slice A l.length c) := (m3.cell 1).trans rfl
    have hlen : l.length ≤ 100 := HR.out.len
    have hwr : IntKind.u32.wrap (l.length : Int) = l.length := by rw [IntKind.wrap_u32']; omega
    clear hw3 hf3 m3
    go_wp2_with fail
    have hL1 : (magicB ++ (numB bt.size 1 ++ bts bt)).length ≤ 1000000 := by
      rw [List.length_append, List.length_append, numB_length, bts_len]
      have : magicB.length = 4 := rfl
      omega
    generalize hLe : magicB ++ (numB bt.size 1 ++ bts bt) = L1 at *
    have HLe := Lib.hid hLe
    clear hLe
    refine (number_any w.heap.size p l.length 2 L1 w3 HW3.out hs3 hL1 (by decide) (by decide)).mono ?_
    rintro e w4 ⟨rfl, hw4, hf4, hs4⟩
    have m4 := WSet.blk hf4 M3.out hpne (by decide)
    have HW4 := Lib.hid hw4
    have HB4 := Lib.hid (HB3.out.trans (WSet.below hf4 HB3.out.size))
    have c2 : w4.cell? ⟨w.heap.size, 1, none⟩ = some (.slice A l.length c) := (m4.cell 1).trans rfl
    clear hw4 hf4 m4 c1 HW3 HB3 M3
    go_wp2_with fail
    refine (valuesE_any A l.length c w4).mono ?_
    rintro e w5 ⟨rfl, rfl⟩
    have hb5 : Below w4.heap.size w4 (w4.alloc (.cells #[.slice A l.length c] 22)) := (Below.refl _ _).alloc (Nat.le_refl _) _
    have hsE := sortedE_any lo w4.heap.size A c l (by omega) HR.out.uniq (w4.alloc (.cells #[.slice A l.length c] 22)) (by simp) (by simp) ((HL.out.below Enc.ent_laws (HB4.out.trans (hb5.mono HB4.out.size))).mono Enc.ent_laws (Nat.le_refl _) (HB4.out.trans (hb5.mono HB4.out.size)).size)
    have HSE := Lib.hid hsE
    clear hsE hb5 c2
    go_wp2_with fail
    refine HSE.out.mono ?_
    clear HSE
    rintro e w6 ⟨u, rfl, hu6, hb6⟩
    have hSl : (srt l).length = l.length := srt_length HR.out.uniq
    have hb46 : Below w4.heap.size w4 w6 := ((Below.refl _ _).alloc (Nat.le_refl _) _).trans (hb6.mono (by simp))
    have hu7 : w6.ownsRow w.heap.size 62 2 u (srt l).length (flatE (srt l)) := by
      rw [hSl]; exact own_mono hu6 (by have := HB4.out.size; simp; omega)
    have HLe2 : Hid (L1 ++ numB l.length 2 = preB bt l.length (srt l) 0) := Lib.hid (by rw [← HLe.out]; unfold preB; simp)
    have D6 : Hid (EncSt w w6 p u (srt l) (preB bt l.length (srt l) 0)) := Lib.hid ⟨by rw [← HLe2.out]; exact HW4.out.keep hb46, hu7, HB4.out.trans (hb46.mono HB4.out.size)⟩
    have HSe : Hid (∀ e ∈ srt l, keyOk e.key = true ∧ e.text.size ≤ 2000) := Lib.hid fun e he => HR.out.each e ((mem_srt HR.out.uniq).1 he)
    have HPre : Hid (∀ j, (preB bt l.length (srt l) j).length ≤ 210000) := Lib.hid (preB_len hts (by omega) HSe.out)
    have HEnd : Hid (preB bt l.length (srt l) (srt l).length ++ numB (sumOf (preB bt l.length (srt l) (srt l).length)) 4 = bytesB ⟨bt, l⟩) := Lib.hid (by rw [← hSl, preB_end, numB_four]; rfl)
    obtain ⟨Au, cu, rfl, _⟩ := own_slice hu7
    generalize hS : srt l = S at *
    clear hu6 hb6 hb46 hu7 HLe2 HW4 hS
    go_wp2_with fail
    go_loopw [7, 28] (fun _ i wr => ∃ j : Nat, j ≤ S.length ∧ i = .int .i64 j ∧ EncSt w wr p (.slice Au S.length cu) S (preB bt l.length S j)) (fun _ i _ => S.length - (intOf i).toNat)
    case atStart => exact ⟨0, Nat.zero_le _, rfl, D6.out⟩
    case round =>
      clear D6
      obtain ⟨j, hj, rfl, hd⟩ := hrel
      have D := Lib.hid hd
      have hbs := hd.below.size
      have hplt := hd.wr_.lt
      by_cases hlt : j < S.length
      · obtain ⟨b, o, rfl, _, hbl, x0, x1⟩ := (ents_of_own hd.row (Nat.le_refl w.heap.size) (Nat.le_refl _)).entAt j hlt
        have HPs := Lib.hid (preB_succ bt l.length S j hlt)
        have hk40 : S[j].key.size ≤ 40 := key_40 (HSe.out _ (List.getElem_mem hlt)).1
        have ht20 : S[j].text.size ≤ 2000 := (HSe.out _ (List.getElem_mem hlt)).2
        generalize S[j].key = ky at *
        generalize S[j].text = tx at *
        have hplen := HPre.out j
        clear hd
        generalize hP : preB bt l.length S j = P at *
        have HP := Lib.hid hP
        clear hP
        have D1 : Hid (EncSt w (wr.alloc (.cells #[.string ky, .string tx] 62)) p (.slice (some ⟨b, o, none⟩) S.length cu) S P) := Lib.hid (D.out.keep ((Below.refl _ _).alloc (Nat.le_refl _) _))
        have MB := Lib.hid (Blk.new wr 62 #[.string ky, .string tx])
        clear D
        go_wp2_with fail
        clear x0 x1
        refine (wtext_any w.heap.size p 1 ky P _ D1.out.wr_ D1.out.below.size (by omega) (by decide) (by decide) (by omega)).mono ?_
        rintro e w7 ⟨rfl, hw7, hf7, hs7⟩
        have D7 := Lib.hid (D1.out.wrote hw7 hf7)
        have mb7 := WSet.blk hf7 MB.out (by omega) (by decide)
        have x1 : w7.cell? ⟨wr.heap.size, 1, none⟩ = some (.string tx) := (mb7.cell 1).trans rfl
        have hlen7 : (P ++ (numB ky.size 1 ++ bts ky)).length ≤ 900000 := by rw [List.length_append, List.length_append, numB_length, bts_len]; omega
        clear hw7 hf7 D1 MB mb7
        go_wp2_with fail
        refine (wtext_any w.heap.size p 2 tx _ w7 D7.out.wr_ hs7 hlen7 (by decide) (by decide) (by omega)).mono ?_
        rintro e w8 ⟨rfl, hw8, hf8, hs8⟩
        have D8 : Hid (EncSt w w8 p (.slice (some ⟨b, o, none⟩) S.length cu) S (preB bt l.length S (j + 1))) := Lib.hid (by rw [HPs.out]; exact D7.out.wrote hw8 hf8)
        clear hw8 hf8 D7 x1 hlen7
        go_wp2_with fail
        exact ⟨⟨j + 1, by omega, by go_num, D8.out⟩, by simp [intOf]; omega⟩
      · obtain rfl : j = S.length := by omega
        obtain ⟨V, hbox, hrow⟩ := hd.wr_.at_
        have hplen := HPre.out S.length
        obtain ⟨Av, cv, rfl, _⟩ := own_slice hrow
        have b0 : wr.cell? ⟨p, 0, none⟩ = some (.slice Av (preB bt l.length S S.length).length cv) := (hbox.cell 0).trans rfl
        have HSum := Lib.hid (sum_any _ _ _ wr (bytes_of_own hrow (Nat.le_refl w.heap.size) (Nat.le_refl _)) (by omega))
        generalize hP : preB bt l.length S S.length = P at *
        clear hd hrow hbox
        go_wp2_with fail
        refine HSum.out.mono ?_
        clear HSum
        rintro e w7 ⟨rfl, hb7⟩
        have D7 := Lib.hid (D.out.keep hb7)
        clear hb7 b0 D
        go_wp2_with fail
        refine (number_any w.heap.size p (sumOf P) 4 P w7 D7.out.wr_ D7.out.below.size (by omega) (by decide) (by decide)).mono ?_
        rintro e w8 ⟨rfl, hw8, hf8, hs8⟩
        have D8 : Hid (EncSt w w8 p (.slice Au S.length cu) S (bytesB ⟨bt, l⟩)) := Lib.hid (by rw [← HEnd.out]; exact D7.out.wrote hw8 hf8)
        obtain ⟨V8, hbox8, hrow8⟩ := D8.out.wr_.at_
        obtain ⟨A8, c8, rfl, _⟩ := own_slice hrow8
        have b8 : w8.cell? ⟨p, 0, none⟩ = some (.slice A8 (bytesB ⟨bt, l⟩).length c8) := (hbox8.cell 0).trans rfl
        have HR8 := Lib.hid hrow8
        clear hw8 hf8 D7 hbox8 hrow8
        go_wp2_with fail
        go_ret2
        exact ⟨D8.out.below, .inr ⟨HF.out, _, rfl, HR8.out⟩⟩
  · rw [errV_ne hf]
    go_wp2_with fail
    go_ret2
    exact ⟨HB1.out, .inl ⟨hf, by rw [errV_ne hf]; rfl⟩⟩
end Go.Proofs.YtoneheloojlifaaGreatDoor
