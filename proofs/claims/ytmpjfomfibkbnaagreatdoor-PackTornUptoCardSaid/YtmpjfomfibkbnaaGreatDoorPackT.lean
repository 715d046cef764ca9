/- pack.order; slices.SortFunc at entries, by it. -/
import Derived.Test.YtmpjfomfibkbnaaGreatDoorPackP
import Derived.Test.YtmpjfomfibkbnaaGreatDoorBunRow
import Derived.Test.YtmpjfomfibkbnaaGreatDoorLayS
import Derived.Test.YtmpjfomfibkbnaaGreatDoorShelfC
import Derived.Shelf.SlSortCmp.NoneTotal
set_option linter.unusedSimpArgs false
set_option linter.unusedVariables false
namespace Go.Proofs.YtmpjfomfibkbnaaGreatDoor
open Go.RowKit Go.Sort

instance : Inhabited Ent := ⟨⟨ByteArray.empty, ByteArray.empty⟩⟩
theorem cmpB : ∀ a b : List UInt8, decide (Lib.compareBytes a b < 0) = bytesBefore a b
  | [], [] => rfl
  | [], _ :: _ => rfl
  | _ :: _, [] => rfl
  | a :: r, b :: s => by
    unfold Lib.compareBytes bytesBefore
    by_cases h : a < b
    · simp [h]
    · by_cases h2 : b < a
      · have hne : a ≠ b := fun e => by subst e; exact h h2
        simp [h, h2, hne]
      · have hab : a = b := by
          rw [← UInt8.toNat_inj]
          have h' := mt UInt8.lt_iff_toNat_lt.2 h
          have h2' := mt UInt8.lt_iff_toNat_lt.2 h2
          omega
        subst hab
        have ih := cmpB r s
        simp only [h, if_false, decide_false, Bool.false_or, beq_self_eq_true, Bool.true_and]
        exact ih
def cfE (x y : Ent) : Int := Lib.compareBytes x.key.data.toList y.key.data.toList
theorem ltOf_cfE (x y : Ent) : ltOf cfE x y = ltK x.key y.key := cmpB _ _
theorem swoE : SWO (ltOf cfE) where
  irrefl x := by rw [ltOf_cfE]; exact ltK_irr _
  trans x y z h1 h2 := by rw [ltOf_cfE] at *; exact ltK_trans h1 h2
  ntrans x y z h1 h2 := by
    rw [ltOf_cfE] at *
    cases h : ltK x.key z.key with
    | false => rfl
    | true =>
      rcases ltK_tri x.key y.key with g | g | g
      · rw [g] at h1; cases h1
      · rw [← g, h] at h2; cases h2
      · have := ltK_trans g h; rw [this] at h2; cases h2

theorem flatE_get (l : List Ent) (t : Nat) (ht : t < l.length * 2) : (flatE l)[t]! = (entCells l.toArray[t / 2]!)[t % 2]! := by
  have hi : t / 2 < l.length := by omega
  have hh := flatE_at l (t / 2) hi
  have hm : t % 2 < 2 := Nat.mod_lt _ (by decide)
  have e1 : (flatE l)[t]? = (entCells l[t / 2])[t % 2]? := by
    rw [← hh, List.getElem?_take, if_pos hm, List.getElem?_drop]
    congr 1; omega
  have e2 : l.toArray[t / 2]! = l[t / 2] := by rw [getElem!_pos l.toArray (t / 2) (by simpa using hi)]; simp
  rw [e2]
  rw [List.getElem!_eq_getElem?_getD, List.getElem!_eq_getElem?_getD, e1]
theorem flatK_flatE (d : Array Ent) : flatK entCells 2 d = (flatE d.toList).toArray := by
  refine ext_get! (by rw [size_flatK]; simp [flatE_length]) fun t ht => ?_
  rw [size_flatK] at ht
  rw [get_flatK _ _ _ _ ht]
  have := flatE_get d.toList t (by rw [Array.length_toList]; exact ht)
  rw [Array.toArray_toList] at this
  rw [← this]; simp
theorem sorted_is_srt {l : List Ent} (hu : Uniq l) {d' : Array Ent} (hp : PermIn 0 l.toArray.size l.toArray d') (hs : SortedIn (ltOf cfE) 0 l.toArray.size d') : d'.toList = srt l := by
  obtain ⟨h1, _, h3⟩ := hp
  have e1 : d'.extract 0 l.toArray.size = d' := by rw [← h1]; simp
  have e2 : l.toArray.extract 0 l.toArray.size = l.toArray := by simp
  rw [e1, e2] at h3
  have h4 : d'.toList.Perm l := by simpa using h3
  have hu' : Uniq d'.toList := h4.symm.pairwise hu fun {x y} hxy => Ne.symm hxy
  refine srt_eq ?_ (srt_srt l) (h4.trans (srt_perm hu).symm)
  refine List.pairwise_iff_getElem.2 fun i j hi hj hij => ?_
  have hj' : j < l.toArray.size := by rw [← h1]; simpa using hj
  have := hs i j (Nat.zero_le _) hij hj'
  rw [ltOf_cfE] at this
  have g1 : d'[j]! = d'.toList[j] := by rw [getElem!_pos d' j (by simpa using hj)]; simp
  have g2 : d'[i]! = d'.toList[i] := by rw [getElem!_pos d' i (by simpa using hi)]; simp
  rw [g1, g2] at this
  rcases ltK_tri d'.toList[i].key d'.toList[j].key with g | g | g
  · exact g
  · exact absurd g (List.pairwise_iff_getElem.1 hu' i j hi hj hij)
  · rw [g] at this; cases this

set_option maxHeartbeats 1000000 in
theorem order_any (x y : Ent) (W : World) :
    Calls Tryz.prog 27 #[.agg (entCells x).toArray, .agg (entCells y).toArray] W fun e w' => e = .returned (.int .i64 (cfE x y)) ∧ ∃ q os', w' = grow (W.drewN q) os' := by
  have hcon := fun W' => Tryz.strings_Compare x.key y.key W'
  unfold cfE
  generalize Lib.compareBytes x.key.data.toList y.key.data.toList = r at hcon ⊢
  obtain ⟨xk, xt⟩ := x
  obtain ⟨yk, yt⟩ := y
  unfold entCells
  dsimp only at hcon ⊢
  go_enter Tryz.func27, Tryz.ntmps27
  go_wp2_with fail
  refine (hcon _).mono ?_
  rintro e w' ⟨rfl, rfl⟩
  go_wp2_with fail
  go_ret
  exact ⟨rfl, 0, _, by rw [alloc_eq_grow, alloc_eq_grow, grow_grow]; rfl⟩
theorem orderLays (blk off size : Nat) (w : World) : CmpLays Tryz.prog 27 #[] entCells 2 cfE blk off size w :=
  fun _ _ _ _ x y => order_any x y _

theorem heap_mapBlock {w : World} {b : Nat} {f : Array Value → Array Value} {cur : Array Value} {t : TypeId} {fr : Nat × Nat} (h : w.heap[b]? = some (.cells cur t fr)) : (mapBlock w b f).heap[b]? = some (.cells (f cur) t fr) := by
  obtain ⟨hlt, hk⟩ := Array.getElem?_eq_some_iff.1 h
  show (w.heap.modify b _)[b]? = _
  rw [Array.getElem?_eq_getElem (by rw [Array.size_modify]; exact hlt), Array.getElem_modify_self, hk]
  rfl
theorem heap_mapBlock_other {w : World} {b k : Nat} {f : Array Value → Array Value} (h : k ≠ b) : (mapBlock w b f).heap[k]? = w.heap[k]? := by
  show (w.heap.modify b _)[k]? = _
  rw [Array.getElem?_modify, if_neg (Ne.symm h)]
theorem heap_grow {w : World} {os : Array Obj} {k : Nat} (h : k < w.heap.size) : (grow w os).heap[k]? = w.heap[k]? := by
  show (w.heap ++ os)[k]? = _
  rw [Array.getElem?_append_left h]
theorem putCells_take (F cur : Array Value) (h : F.size ≤ cur.size) : (putCells id 0 F cur).toList.take F.size = F.toList := by
  apply List.ext_getElem
  · simp [putCells]; omega
  · intro i h1 h2
    have hi : i < F.size := by simpa using h2
    simp [putCells, hi]

theorem sortE_any (base : Nat) (l : List Ent) (v : Value) (w : World) (hu : Uniq l) (hn : l.length < 4611686018427387904) (h : w.ownsRow base 32 2 v l.length (flatE l)) :
    Calls Tryz.prog 43 #[v, .func (.func 27) #[] #[]] w fun e w' => e = .returned (.tuple #[]) ∧ w'.ownsRow base 32 2 v l.length (flatE (srt l)) ∧ Below base w w' := by
  obtain ⟨hlen, ⟨rfl, h0⟩ | ⟨g, cap, cur, rfl, hbase, hg, hcap, hmax, hcur, htake⟩⟩ := h
  · have hl : l = [] := List.length_eq_zero_iff.1 h0
    subst hl
    refine (AnyF.slices_SortFunc_none Tryz.laySortF none 0 _ w).mono ?_
    rintro e w' ⟨rfl, rfl⟩
    exact ⟨rfl, ⟨rfl, .inl ⟨rfl, rfl⟩⟩, Below.refl _ _⟩
  · have hlt : g < w.heap.size := (Array.getElem?_eq_some_iff.1 hg).1
    have hsz : l.toArray.size = l.length := by simp
    have hH : HoldsK entCells 2 w g 0 l.toArray := by
      intro j hj
      rw [size_flatK, hsz] at hj
      have hjc : j < cur.size := by rw [hcur]; exact Nat.lt_of_lt_of_le hj (Nat.mul_le_mul_right 2 hcap)
      have e1 : (flatE l)[j]? = some cur[j] := by
        rw [← htake, List.getElem?_take, if_pos hj, Array.getElem?_toList, Array.getElem?_eq_getElem hjc]
      refine ⟨?_, ?_⟩
      · rw [flatK_flatE, Nat.zero_add]
        have e2 : (flatE l.toArray.toList).toArray[j]! = cur[j] := by
          simp only [List.toList_toArray]
          rw [getElem!_pos _ j (by rw [List.size_toArray, flatE_length]; exact hj)]
          have := (List.getElem?_eq_some_iff.1 e1).2
          simpa using this
        rw [e2]
        simp [World.cell?, hg, hjc]
      · simp [World.frozen?, hg]
    have hcon := AnyQ.slices_SortFunc Tryz.laySortF 2 Tryz.isAgg32 Tryz.sizeOf32 entCells (fun _ => rfl) (fun x v hv => by simp [entCells] at hv; rcases hv with rfl | rfl <;> rfl) cfE swoE 27 #[] g 0 cap l.toArray w (enters_of Tryz.func27 (by kernel_rfl) rfl) (orderLays g 0 _ w) hH hlt (by rw [hsz]; exact hn)
    rw [hsz] at hcon
    refine hcon.mono ?_
    rintro e w' ⟨rfl, d', n, os, hp, hs, rfl⟩
    rw [← hsz] at hp hs
    have hd := sorted_is_srt hu hp hs
    have hdl : d'.size = l.length := by rw [hp.1, hsz]
    have hg2 : (sortWorldK entCells 2 w g 0 n d' os).heap[g]? = some (.cells (putCells id 0 (flatK entCells 2 d') cur) 32 (0, 0)) := by
      unfold sortWorldK
      rw [heap_grow (by show g < (putRowK entCells 2 (Sort.ahead w n) g 0 d').heap.size; simp [putRowK]; exact hlt)]
      exact heap_mapBlock (w := Sort.ahead w n) hg
    refine ⟨rfl, ⟨?_, .inr ⟨g, cap, _, rfl, hbase, hg2, hcap, hmax, ?_, ?_⟩⟩, ?_⟩
    · rw [flatE_length, srt_length hu]
    · simp [putCells]; exact hcur
    · have hF : (flatK entCells 2 d').size = l.length * 2 := by rw [size_flatK, hdl]
      have := putCells_take (flatK entCells 2 d') cur (by rw [hF, hcur]; exact Nat.mul_le_mul_right 2 hcap)
      rw [hF] at this
      rw [this, flatK_flatE, hd]
    · refine ⟨rfl, rfl, rfl, ?_, fun k hk => ?_⟩
      · show w.heap.size ≤ (grow _ os).heap.size
        simp [grow, putRowK]
      · unfold sortWorldK
        rw [heap_grow (by show k < (putRowK entCells 2 (Sort.ahead w n) g 0 d').heap.size; simp [putRowK]; omega)]
        exact heap_mapBlock_other (w := Sort.ahead w n) (by omega)
end Go.Proofs.YtmpjfomfibkbnaaGreatDoor
