/- Arguments as values; plainly: what is wrong with them. -/
import Derived.Test.YtjdfpoppimcikaaGreatDoorNamesD
import Derived.Test.YtjdfpoppimcikaaGreatDoorDecC
import Derived.Test.YtjdfpoppimcikaaGreatDoorAppend
import Derived.Maps.OwnSet
import Derived.Maps.Own
import Derived.Maps.Views
namespace Go.Proofs.YtjdfpoppimcikaaGreatDoor
open Go.RowKit

structure ArgV where
  name : ByteArray
  isNum : Bool
  num : DecV
  text : ByteArray
def ArgV.cells (a : ArgV) : List Value := [.string a.name, .bool a.isNum, .int .i64 a.num.coef, .int .i64 a.num.scale, .string a.text]
def ArgV.val (a : ArgV) : Value := .agg #[.string a.name, .bool a.isNum, .int .i64 a.num.coef, .int .i64 a.num.scale, .string a.text]
def Enc.argV : Enc ArgV := ⟨5, 56, fun _ _ _ cs a => cs = a.cells, fun B a => a.name.size ≤ B ∧ ((Lit.int .i64 a.num.coef).wf = true ∧ (Lit.int .i64 a.num.scale).wf = true) ∧ a.text.size ≤ B, fun a => a.name.size + a.text.size + 5⟩
theorem Enc.argV_laws : Enc.argV.Laws := ⟨fun h => by cases h; rfl, fun h _ => h, fun h _ _ => h⟩
theorem ListOk.argVAt {w : World} {lo hi : Nat} {A : Option Addr} {n c : Nat} {l : List ArgV} (h : ListOk Enc.argV w lo hi (.slice A n c) l) (i : Nat) (hl : i < l.length) :
    ∃ b o, A = some ⟨b, o, none⟩ ∧ lo ≤ b ∧ b < hi ∧ w.cell? ⟨b, o + i * 5, none⟩ = some (.string l[i].name) ∧ w.cell? ⟨b, o + i * 5 + 1, none⟩ = some (.bool l[i].isNum) ∧ w.cell? ⟨b, o + i * 5 + 2, none⟩ = some (.int .i64 l[i].num.coef) ∧ w.cell? ⟨b, o + i * 5 + 3, none⟩ = some (.int .i64 l[i].num.scale) ∧ w.cell? ⟨b, o + i * 5 + 4, none⟩ = some (.string l[i].text) := by
  obtain ⟨A', c', hv, _, hi'⟩ := h
  injection hv with hv1 _ _
  subst hv1
  obtain ⟨b, o, cs, hA, h1, h2, h3, h4⟩ := hi' i hl
  have h4 : cs = l[i].cells := h4
  subst h4
  exact ⟨b, o, hA, h1, h2, h3 0 _ rfl, h3 1 _ rfl, h3 2 _ rfl, h3 3 _ rfl, h3 4 _ rfl⟩
abbrev KMap := ByteArray → Option Bool
def putB (f : KMap) (k : ByteArray) (b : Bool) : KMap := fun s => if s = k then some b else f s
def argE : List ArgV → KMap → Int
  | [], _ => 0
  | a :: r, f => if nameR a.name = false then 3 else if a.isNum = true ∧ ¬ a.num.ok then 1 else if (f a.name).isSome = true then 5 else argE r (putB f a.name a.isNum)
def argM (l : List ArgV) (f : KMap) : KMap := l.foldl (fun f a => putB f a.name a.isNum) f
def needBad (x : Ned) (b : Bool) : Bool := (x.num && !b) || (x.text && b)
def needE : List Ned → KMap → Int
  | [], _ => 0
  | x :: r, f => if (f x.name).isSome = false then 2 else if needBad x ((f x.name).getD false) = true then 7 else needE r f
def fitsR (n : Nat) (m : List (Nd n)) (args : List ArgV) : Int :=
  if (ofR n m).1 ≠ 0 then (ofR n m).1 else if argE args (fun _ => none) ≠ 0 then argE args (fun _ => none) else needE (ofR n m).2 (argM args fun _ => none)
theorem argM_snoc (l : List ArgV) (f : KMap) (j : Nat) (h : j < l.length) : argM (l.take (j + 1)) f = putB (argM (l.take j) f) l[j].name l[j].isNum := by
  unfold argM
  rw [List.take_succ_eq_append_getElem h, List.foldl_append]; rfl
/- the names are no longer than the message's texts -/
theorem putN_names {P : ByteArray → Prop} {l : List Ned} (h : ∀ x ∈ l, P x.name) (i : Nat) (b c : Bool) : ∀ x ∈ putN l i b c, P x.name := by
  intro x hx
  unfold putN at hx
  split at hx
  · rename_i hi
    rcases List.mem_or_eq_of_mem_set hx with hx | rfl
    · exact h x hx
    · exact h l[i] (List.getElem_mem hi)
  · exact h x hx
theorem addN_names {P : ByteArray → Prop} {l : List Ned} (h : ∀ x ∈ l, P x.name) (kind : Int) {t : ByteArray} (ht : P t) : ∀ x ∈ addN l kind t, P x.name := by
  unfold addN
  split
  · exact h
  · split
    · refine putN_names (fun x hx => ?_) _ _ _
      rcases List.mem_append.1 hx with hx | hx
      · exact h x hx
      · obtain rfl := List.mem_singleton.1 hx; exact ht
    · exact putN_names h _ _ _
theorem casA_names {β : Type} {P : ByteArray → Prop} {g : List β → List Ned → List Ned} : ∀ (cs : List (ByteArray × List β)) (l : List Ned), (∀ c ∈ cs, ∀ l, (∀ x ∈ l, P x.name) → ∀ x ∈ g c.2 l, P x.name) → (∀ x ∈ l, P x.name) → ∀ x ∈ casA g cs l, P x.name
  | [], l, _, h => h
  | c :: r, l, hg, h => casA_names r (g c.2 l) (fun d hd => hg d (List.mem_cons_of_mem _ hd)) (hg c (List.mem_cons_self ..) l h)
theorem nodA_names {β : Type} {P : ByteArray → Prop} {g : List β → List Ned → List Ned} : ∀ (m : List (NdF β)) (l : List Ned), (∀ x ∈ m, P x.text ∧ ∀ c ∈ x.cases, ∀ l, (∀ x ∈ l, P x.name) → ∀ x ∈ g c.2 l, P x.name) → (∀ x ∈ l, P x.name) → ∀ x ∈ nodA g m l, P x.name
  | [], l, _, h => h
  | x :: r, l, hm, h => nodA_names r _ (fun y hy => hm y (List.mem_cons_of_mem _ hy))
      (casA_names (casesR x) _ (fun c hc => (hm x (List.mem_cons_self ..)).2 c (casesR_sub hc)) (addN_names h x.kind (hm x (List.mem_cons_self ..)).1))
theorem allN_names : (n : Nat) → (m : List (Nd n)) → (l : List Ned) → MsgIn n m → (∀ x ∈ l, x.name.size ≤ 1000000000) → ∀ x ∈ allN n m l, x.name.size ≤ 1000000000
  | 0, _, l, _, h => h
  | n + 1, m, l, hm, h => nodA_names (P := fun s => s.size ≤ 1000000000) (m : List (NdF (Nd n))) l (fun x hx => by
      have h1 : smallF (SmallN n) x := hm.each x hx
      exact ⟨h1.1, fun c hc l hl => allN_names n c.2 l (hm.body hx hc) hl⟩) h
theorem ofR_names (n : Nat) (m : List (Nd n)) (hm : MsgIn n m) : ∀ x ∈ (ofR n m).2, x.name.size ≤ 1000000000 := by
  unfold ofR
  split
  · intro x hx; cases hx
  · split
    · intro x hx; cases hx
    · exact allN_names n m [] hm (fun x hx => nomatch hx)
theorem ofR_len (n : Nat) (m : List (Nd n)) (hc : cntN n m ≤ 10000000) : (ofR n m).2.length ≤ 10000000 := by
  have h := allN_len n m []
  simp at h
  unfold ofR
  split
  · exact Nat.zero_le _
  · split
    · exact Nat.zero_le _
    · show (allN n m []).length ≤ _; omega
end Go.Proofs.YtjdfpoppimcikaaGreatDoor
/- Maps from strings to whatever values: made, written, asked. -/

namespace Go.Proofs.YtjdfpoppimcikaaGreatDoor
open Go.RowKit Go.Maps

def heldR : Value → Option (DataW Value × List MemPlace) := fun v => some (.held v, [])
/-- the map at block b reads as f: of each key its value -/
def OwnsV (w : World) (b n : Nat) (f : ByteArray → Option Value) : Prop :=
  ∃ D : DataW Value, w.ownsMap Tryz.prog 9 heldR b n D ∧ ∀ s : ByteArray, has D (.string s.data.toList) = (f s).isSome ∧ ∀ z, D.atKey (.string s.data.toList) (.held z) = .held ((f s).getD z)
theorem keyedS : Keyed Tryz.prog 9 := string_keyed Tryz.underlying9
theorem keyS {k : ByteArray} (hk : k.size ≤ maxLen) : keyOf Tryz.prog 9 (.string k) = some (.string k.data.toList) := Go.WideMaps.keyOf_string_mk Tryz.underlying9 hk
theorem OwnsV.made (w : World) : OwnsV (w.alloc (.map #[] 0)) w.heap.size 0 (fun _ => none) :=
  ⟨.map [], World.ownsMap_made w _ _ _, fun s => ⟨rfl, fun z => rfl⟩⟩
theorem OwnsV.lt {w : World} {b n : Nat} {f : ByteArray → Option Value} (h : OwnsV w b n f) : b < w.heap.size := by
  obtain ⟨D, h1, _⟩ := h
  exact h1.lt
theorem OwnsV.keep {w w' : World} {b n : Nat} {f : ByteArray → Option Value} (h : OwnsV w b n f) (hb : w'.heap[b]? = w.heap[b]?) : OwnsV w' b n f := by
  obtain ⟨D, ⟨es, clock, h1, F, h2, h3⟩, h4⟩ := h
  exact ⟨D, ⟨es, clock, hb.trans h1, F, h2, h3⟩, h4⟩
theorem OwnsV.below {w w' : World} {b n B : Nat} {f : ByteArray → Option Value} (h : OwnsV w b n f) (hb : Below B w w') (hB : b < B) : OwnsV w' b n f := h.keep (hb.block b hB)
theorem held_inj {a b : Value} (h : (DataW.held a : DataW Value) = .held b) : a = b := by injection h
theorem OwnsV.look {w : World} {b n : Nat} {f : ByteArray → Option Value} (h : OwnsV w b n f) {t e : TypeId} (ht : Tryz.prog.underlying t = some (.map 9 e)) {z : Value} (hz : (zeroValue e).run Tryz.prog w = .ok z w) {k : ByteArray} (hk : k.size ≤ maxLen) :
    (Instr.lookup t (.map (some b)) (.string k) false).run Tryz.prog w = .ok ((f k).getD z) w := by
  obtain ⟨D, h1, h2⟩ := h
  obtain ⟨v, ps, hrun, hv⟩ := h1.lookup keyedS ht hz (zd := .held z) (zp := []) rfl (keyS hk)
  rw [(h2 k).2 z] at hv
  have e1 : v = (f k).getD z := held_inj (congrArg Prod.fst (Option.some.inj hv))
  rw [hrun, e1]
theorem OwnsV.look_ok {w : World} {b n : Nat} {f : ByteArray → Option Value} (h : OwnsV w b n f) {t e : TypeId} (ht : Tryz.prog.underlying t = some (.map 9 e)) {z : Value} (hz : (zeroValue e).run Tryz.prog w = .ok z w) {k : ByteArray} (hk : k.size ≤ maxLen) :
    (Instr.lookup t (.map (some b)) (.string k) true).run Tryz.prog w = .ok (.tuple #[(f k).getD z, .bool (f k).isSome]) w := by
  obtain ⟨D, h1, h2⟩ := h
  obtain ⟨v, ps, hrun, hv⟩ := h1.look_ok keyedS ht hz (zd := .held z) (zp := []) rfl (keyS hk)
  rw [(h2 k).2 z] at hv
  have e1 : v = (f k).getD z := held_inj (congrArg Prod.fst (Option.some.inj hv))
  rw [hrun, e1, (h2 k).1]
def putV (f : ByteArray → Option Value) (k : ByteArray) (v : Value) : ByteArray → Option Value := fun s => if s = k then some v else f s
theorem bytes_inj {a b : ByteArray} (h : a.data.toList = b.data.toList) : a = b := by
  cases a; cases b
  simp only [ByteArray.mk.injEq]
  exact Array.toList_inj.1 h
theorem OwnsV.put {w : World} {b n : Nat} {f : ByteArray → Option Value} (h : OwnsV w b n f) {t e : TypeId} (ht : Tryz.prog.underlying t = some (.map 9 e)) (hn : n < maxLen) {k : ByteArray} (hk : k.size ≤ maxLen) (v : Value) :
    ∃ w', (Instr.mapUpdate t (.map (some b)) (.string k) v).run Tryz.prog w = .ok () w' ∧ OwnsV w' b (n + 1) (putV f k v) ∧ w.mapTurned w' b := by
  obtain ⟨D, h1, h2⟩ := h
  obtain ⟨w', hrun, h3, h4⟩ := h1.store keyedS ht hn (keyS hk) (val := v) (d := .held v) (ps := []) rfl
  refine ⟨w', hrun, ⟨_, h3, fun s => ?_⟩, h4⟩
  have hm := h1.isMap
  by_cases hs : s = k
  · subst hs
    unfold putV
    rw [if_pos rfl]
    refine ⟨has_put_same hm ?_ _, fun z => ?_⟩
    · exact trivial
    · rw [atKey_put_same hm ?_]
      · rfl
      · exact trivial
  · have hne : (Lit.string s.data.toList) ≠ .string k.data.toList := fun e => hs (bytes_inj (Lit.string.inj e))
    unfold putV
    rw [if_neg hs]
    exact ⟨(has_put_other hne _).trans (h2 s).1, fun z => (atKey_put_other hne _ _).trans ((h2 s).2 z)⟩
theorem wpList_insert_V {w : World} {ops : Array Oper} {rest : List Oper} {o : Oper} {a : Act} {Q : Exit → Act → World → Prop}
    (hg : o.guard = none) (m x v : Operand) (t e : TypeId) (hop : o.op = Op.insert t m x v) (ht : Tryz.prog.underlying t = some (.map 9 e)) (b n : Nat) (f : ByteArray → Option Value)
    (hm : a.eval m = .map (some b)) (hown : OwnsV w b n f) (hn : n < maxLen) (key : ByteArray) (val : Value) (hx : a.eval x = .string key) (hv : a.eval v = val) (hk : key.size ≤ maxLen)
    (hK : ∀ w', OwnsV w' b (n + 1) (putV f key val) → w.grownBy w' (some b) → wpList Tryz.prog ops Q rest (a.put o.dst undef) w') :
    wpList Tryz.prog ops Q (o :: rest) a w := by
  refine wpList_plain hg fun K' hK' => ?_
  obtain ⟨w', hrun, r1, r2⟩ := hown.put ht hn hk val
  unfold Oper.wp
  simp [execOp, hop, hm, hx, hv, hrun, Result.andThen]
  exact hK' _ _ (hK w' r1 r2.grown)
theorem wpList_update_V {w : World} {ops : Array Oper} {rest : List Oper} {o : Oper} {a : Act} {Q : Exit → Act → World → Prop}
    (hg : o.guard = none) (m x v : Operand) (t e : TypeId) (hop : o.op = Op.mapUpdate t m x v) (ht : Tryz.prog.underlying t = some (.map 9 e)) (b n : Nat) (f : ByteArray → Option Value)
    (hm : a.eval m = .map (some b)) (hown : OwnsV w b n f) (hn : n < maxLen) (key : ByteArray) (val : Value) (hx : a.eval x = .string key) (hv : a.eval v = val) (hk : key.size ≤ maxLen)
    (hK : ∀ w', OwnsV w' b (n + 1) (putV f key val) → w.grownBy w' (some b) → wpList Tryz.prog ops Q rest (a.put o.dst undef) w') :
    wpList Tryz.prog ops Q (o :: rest) a w := by
  refine wpList_plain hg fun K' hK' => ?_
  obtain ⟨w', hrun, r1, r2⟩ := hown.put ht hn hk val
  unfold Oper.wp
  simp [execOp, hop, hm, hx, hv, hrun, Result.andThen]
  exact hK' _ _ (hK w' r1 r2.grown)
end Go.Proofs.YtjdfpoppimcikaaGreatDoor
/- names.Fits. -/

namespace Go.Proofs.YtjdfpoppimcikaaGreatDoor
open Go.RowKit Go.Maps

theorem OwnsV.same {w : World} {b n : Nat} {f g : ByteArray → Option Value} (h : OwnsV w b n f) (e : ∀ s, g s = f s) : OwnsV w b n g := by
  have : g = f := funext e
  rwa [this]
theorem putV_bool (f : KMap) (k : ByteArray) (b : Bool) (s : ByteArray) : (putB f k b s).map Value.bool = putV (fun s => (f s).map Value.bool) k (.bool b) s := by
  unfold putB putV
  split <;> rfl
theorem argE_step (a : ArgV) (r : List ArgV) (f : KMap) : (nameR a.name = false → argE (a :: r) f = 3) ∧ (nameR a.name = true ∧ a.isNum = true ∧ ¬ a.num.ok → argE (a :: r) f = 1) ∧
    (nameR a.name = true ∧ (a.isNum = true → a.num.ok) → (f a.name).isSome = true → argE (a :: r) f = 5) ∧ (nameR a.name = true ∧ (a.isNum = true → a.num.ok) → (f a.name).isSome = false → argE (a :: r) f = argE r (putB f a.name a.isNum)) := by
  have e : argE (a :: r) f = if nameR a.name = false then 3 else if a.isNum = true ∧ ¬ a.num.ok then 1 else if (f a.name).isSome = true then 5 else argE r (putB f a.name a.isNum) := rfl
  refine ⟨fun h => ?_, fun h => ?_, fun h k => ?_, fun h k => ?_⟩
  · rw [e, if_pos h]
  · rw [e, if_neg (by rw [h.1]; decide), if_pos h.2]
  · rw [e, if_neg (by rw [h.1]; decide), if_neg (fun q => q.2 (h.2 q.1)), if_pos k]
  · rw [e, if_neg (by rw [h.1]; decide), if_neg (fun q => q.2 (h.2 q.1)), if_neg (by rw [k]; decide)]
set_option maxHeartbeats 12800000 in
set_option maxRecDepth 100000 in
theorem fits_any (n : Nat) (m : List (Nd n)) (v : Value) (lo : Nat) (args : List ArgV) (vA : Value) (loA : Nat) (w : World) (hm : MsgIn n m) (hc : cntN n m ≤ 10000000) (hv : ListOk (Enc.node n) w lo w.heap.size v m) (hV : MV w)
    (hA : ListOk Enc.argV w loA w.heap.size vA args) (ha : args.length ≤ 1000000) (hs : Hid (∀ a ∈ args, a.name.size ≤ 1000000000)) :
    Calls Tryz.prog 13 #[v, vA] w fun e w' => e = .returned (errV (fitsR n m args)) ∧ Below w.heap.size w w' := by
  obtain ⟨A, c, rfl, _⟩ := hA.form
  have HOf := Lib.hid (of_any n m v lo w hm hc hv hV)
  have HNs := Lib.hid (ofR_names n m hm)
  have hln := ofR_len n m hc
  have HAr : Hid (∀ W, Below w.heap.size w W → ListOk Enc.argV W loA w.heap.size (.slice A args.length c) args) := Lib.hid fun W hW => hA.below Enc.argV_laws hW
  have HF0 : Hid ((ofR n m).1 ≠ 0 → fitsR n m args = (ofR n m).1) := Lib.hid fun h => if_pos h
  have HF1 : Hid ((ofR n m).1 = 0 → argE args (fun _ => none) ≠ 0 → fitsR n m args = argE args (fun _ => none)) := Lib.hid fun h k => (if_neg (by rw [h]; decide)).trans (if_pos k)
  have HF2 : Hid ((ofR n m).1 = 0 → argE args (fun _ => none) = 0 → fitsR n m args = needE (ofR n m).2 (argM args fun _ => none)) := Lib.hid fun h k => (if_neg (by rw [h]; decide)).trans (if_neg (by rw [k]; decide))
  have HVm := Lib.hid hV
  generalize fitsR n m args = fr at *
  generalize ofR n m = R at *
  obtain ⟨f, L⟩ := R
  dsimp only at HOf HNs hln HF0 HF1 HF2
  have hmm := @run_makeMap Tryz.prog
  have HZb : Hid (∀ W, (zeroValue 4).run Tryz.prog W = .ok (.bool false) W) := Lib.hid fun _ => by kernel_rfl
  clear hv hA hm hc hV
  go_enter Tryz.func13, Tryz.ntmps13
  go_wp2_with fail
  refine HOf.out.mono ?_
  clear HOf
  rintro e w2 ⟨hb2, u, rfl, hrow⟩
  obtain ⟨UA, Uc, rfl, _⟩ := own_slice hrow
  by_cases hf : f = 0
  · subst hf
    have HFit : Hid (argE args (fun _ => none) ≠ 0 → fr = argE args (fun _ => none)) := Lib.hid (HF1.out rfl)
    have HFt2 : Hid (argE args (fun _ => none) = 0 → fr = needE L (argM args fun _ => none)) := Lib.hid (HF2.out rfl)
    have HB2 := Lib.hid hb2
    have HRow := Lib.hid hrow
    have hs2 := hb2.size
    have HO0 : Hid (OwnsV (w2.alloc (.map #[] 0)) w2.heap.size 0 (fun s => ((argM ([] : List ArgV) fun _ => none) s).map Value.bool)) := Lib.hid (OwnsV.made w2)
    have HB20 : Hid (Below w2.heap.size w2 (w2.alloc (.map #[] 0))) := Lib.hid ((Below.refl _ _).alloc (Nat.le_refl _) _)
    rw [errV_zero]
    clear HF0 HF1 HF2 hb2 hrow
    obtain ⟨mb, hmbe⟩ : ∃ mb, mb = w2.heap.size := ⟨_, rfl⟩
    have hmb : w2.heap.size ≤ mb := by omega
    rw [← hmbe] at HO0
    have HMe := Lib.hid hmbe
    go_wp2_with fail
    rw [← HMe.out]
    clear hmbe
    go_loopw [28] (fun i wr => ∃ (j cnt : Nat), j ≤ args.length ∧ cnt ≤ j ∧ i = .int .i64 (j : Int) ∧ Hid (argE args (fun _ => none) = argE (args.drop j) (argM (args.take j) fun _ => none)) ∧ OwnsV wr mb cnt (fun s => ((argM (args.take j) fun _ => none) s).map Value.bool) ∧ Below w2.heap.size w2 wr) (fun i _ => args.length - (intOf i).toNat)
    case atStart => exact ⟨0, 0, Nat.zero_le _, Nat.le_refl _, rfl, Lib.hid rfl, HO0.out, HB20.out⟩
    case round =>
      clear HO0 HB20
      obtain ⟨j, cnt, hj, hcnt, rfl, HAe, hown, hb⟩ := hrel
      obtain ⟨wo, rfl⟩ : ∃ wo : World, wo = wr := ⟨_, rfl⟩
      have HO := Lib.hid hown
      have HB := Lib.hid hb
      have HBw := Lib.hid (HB2.out.trans (hb.mono hs2))
      by_cases hlt : j < args.length
      · have i1 : (0 : Int) ≤ (j : Int) := Int.natCast_nonneg j
        have i2 : (j : Int) < (args.length : Int) := by omega
        obtain ⟨b1, o1, rfl, _, _, x0, x1, x2, x3, x4⟩ := (HAr.out _ HBw.out).argVAt j hlt
        have HSn := Lib.hid (argM_snoc args (fun _ => none) j hlt)
        have hsz0 := hs.out _ (List.getElem_mem hlt)
        have hdr : args.drop j = args[j] :: args.drop (j + 1) := List.drop_eq_getElem_cons hlt
        have hst := argE_step args[j] (args.drop (j + 1)) (argM (args.take j) fun _ => none)
        rw [← hdr, ← HAe.out] at hst
        have HStep := Lib.hid hst
        obtain ⟨x, hx⟩ : ∃ x, x = ((argM (args.take j) fun _ => none) args[j].name).isSome := ⟨_, rfl⟩
        have HKe : Hid ((((argM (args.take j) fun _ => none) args[j].name).map Value.bool).isSome = x ∧ ∃ y, (((argM (args.take j) fun _ => none) args[j].name).map Value.bool).getD (.bool false) = .bool y) := Lib.hid (by
          rw [hx]
          cases (argM (args.take j) fun _ => none) args[j].name with
          | none => exact ⟨rfl, false, rfl⟩
          | some b => exact ⟨rfl, b, rfl⟩)
        rw [← hx] at HStep
        obtain ⟨hk1, y, hk2⟩ := HKe.out
        have HKe : Hid ((((argM (args.take j) fun _ => none) args[j].name).map Value.bool).getD (.bool false) = .bool y ∧ (((argM (args.take j) fun _ => none) args[j].name).map Value.bool).isSome = x) := Lib.hid ⟨hk2, hk1⟩
        clear hown hb hdr hst hx hk1 hk2 HAe
        generalize args[j] = a at *
        obtain ⟨nm, isn, ⟨co, sc⟩, tx⟩ := a
        dsimp only at x0 x1 x2 x3 x4 HSn hsz0 HStep HKe
        have hsz : nm.size ≤ maxLen := by unfold maxLen; omega
        obtain ⟨W3, eW3⟩ : ∃ W3, W3 = wo.alloc (.cells #[.string nm, .bool isn, .int .i64 co, .int .i64 sc, .string tx] 35) := ⟨_, rfl⟩
        have mk3 : Blk W3 wo.heap.size 35 #[.string nm, .bool isn, .int .i64 co, .int .i64 sc, .string tx] := by rw [eW3]; exact Blk.new _ _ _
        have hb3 : Below wo.heap.size wo W3 := by rw [eW3]; exact (Below.refl _ _).alloc (Nat.le_refl _) _
        have HN3 := Lib.hid (name_any nm W3)
        have HB3 := Lib.hid hb3
        have MK3 := Lib.hid mk3
        have EW := Lib.hid eW3
        have hmlt := HO.out.lt
        clear eW3 mk3 hb3
        generalize hnr : nameR nm = nr at *
        clear hnr
        go_upto_region 8 with fail
        rw [← EW.out]
        have k0 := (MK3.out.cell 0).trans (show _ = some (.string nm) from rfl)
        clear EW x0 x1 x2 x3 x4
        go_wp2_with fail
        refine HN3.out.mono ?_
        clear HN3 k0
        rintro e w4 ⟨rfl, hb4⟩
        have hb34 : Below wo.heap.size wo w4 := HB3.out.trans (hb4.mono HB3.out.size)
        have HB4 := Lib.hid hb34
        have MK4 := Lib.hid (MK3.out.below hb4 MK3.out.lt)
        have HO4 := Lib.hid (HO.out.below hb34 hmlt)
        have HB24 := Lib.hid (HB.out.trans (hb34.mono HB.out.size))
        have HBw4 := Lib.hid (HB2.out.trans (HB24.out.mono hs2))
        clear hb4 hb34 MK3 HB3
        cases nr with
        | false =>
          have HR : Hid (argE args (fun _ => none) = 3) := Lib.hid (HStep.out.1 rfl)
          clear HStep
          go_wp2_with fail
          go_ret
          exact ⟨by rw [HFit.out (by rw [HR.out]; decide), HR.out]; rfl, HBw4.out⟩
        | true =>
          have d0 := (MK4.out.cell 0).trans (show _ = some (.string nm) from rfl)
          have d1 := (MK4.out.cell 1).trans (show _ = some (.bool isn) from rfl)
          have d2 := (MK4.out.cell 2).trans (show _ = some (.int .i64 co) from rfl)
          have d3 := (MK4.out.cell 3).trans (show _ = some (.int .i64 sc) from rfl)
          cases isn with
          | false =>
            have HOw := HO4
            have HBx := HBw4
            have HB2x := HB24
            have hlk := HOw.out.look_ok (t := 83) (e := 4) Tryz.underlying83 (HZb.out w4) hsz
            rw [HKe.out.1, HKe.out.2] at hlk
            by_cases hin : x = true
            · subst hin
              have HR : Hid (argE args (fun _ => none) = 5) := Lib.hid (HStep.out.2.2.1 ⟨by first | rfl | trivial, fun h => by cases h⟩ (by first | rfl | trivial))
              clear HStep
              go_wp2_with fail
              go_ret
              exact ⟨by rw [HFit.out (by rw [HR.out]; decide), HR.out]; rfl, HBx.out⟩
            · have hxf : x = false := by simpa using hin
              subst hxf
              have HN : Hid (argE args (fun _ => none) = argE (args.drop (j + 1)) (putB (argM (args.take j) fun _ => none) nm false)) := Lib.hid (HStep.out.2.2.2 ⟨by first | rfl | trivial, fun h => by cases h⟩ (by first | rfl | trivial))
              clear HStep hin
              go_wp2_with (at_mapUpdate; refine wpList_update_V rfl _ _ _ 83 4 rfl Tryz.underlying83 mb cnt _ rfl HOw.out (by unfold maxLen; omega) nm (.bool false) rfl rfl hsz ?_)
              intro w7 hown7 hg7
              have HO7 := Lib.hid hown7
              have HB7 := Lib.hid (HB2x.out.grown hg7 HB2x.out.size (fun k e => by cases e; exact hmb))
              clear hown7 hg7 hlk
              go_wp2_with fail
              go_roundw
              case rel =>
                refine ⟨j + 1, cnt + 1, by omega, by omega, by go_num, ?_, ?_, HB7.out⟩
                · rw [HSn.out]; exact HN
                · rw [HSn.out]; exact HO7.out.same (fun s => putV_bool _ _ _ s)
              case measure => simp [intOf]; omega
          | true =>
            have HCk : Hid (Calls Tryz.prog 26 #[.agg #[.int .i64 co, .int .i64 sc]] w4 fun e w' => e = .returned (errD (checkD ⟨co, sc⟩)) ∧ Below w4.heap.size w4 w') := Lib.hid (checkD_any ⟨co, sc⟩ w4)
            go_wp2_with fail
            refine HCk.out.mono ?_
            clear HCk d0 d1 d2 d3
            rintro e w5 ⟨rfl, hb5⟩
            have MK5 := Lib.hid (MK4.out.below hb5 MK4.out.lt)
            have HOw := Lib.hid (HO4.out.below hb5 HO4.out.lt)
            have HB2x := Lib.hid (HB24.out.trans (hb5.mono HB24.out.size))
            have HBx := Lib.hid (HB2.out.trans (HB2x.out.mono hs2))
            have d0 := (MK5.out.cell 0).trans (show _ = some (.string nm) from rfl)
            have d1 := (MK5.out.cell 1).trans (show _ = some (.bool true) from rfl)
            clear hb5 MK4 HO4 HB24 HBw4
            by_cases hok : DecV.ok ⟨co, sc⟩
            · rw [checkD_ok hok, errD_zero]
              have HOk := Lib.hid hok
              clear hok
              have hlk := HOw.out.look_ok (t := 83) (e := 4) Tryz.underlying83 (HZb.out w5) hsz
              rw [HKe.out.1, HKe.out.2] at hlk
              by_cases hin : x = true
              · subst hin
                have HR : Hid (argE args (fun _ => none) = 5) := Lib.hid (HStep.out.2.2.1 ⟨by first | rfl | trivial, fun _ => HOk.out⟩ (by first | rfl | trivial))
                clear HStep
                go_wp2_with fail
                go_ret
                exact ⟨by rw [HFit.out (by rw [HR.out]; decide), HR.out]; rfl, HBx.out⟩
              · have hxf : x = false := by simpa using hin
                subst hxf
                have HN : Hid (argE args (fun _ => none) = argE (args.drop (j + 1)) (putB (argM (args.take j) fun _ => none) nm true)) := Lib.hid (HStep.out.2.2.2 ⟨by first | rfl | trivial, fun _ => HOk.out⟩ (by first | rfl | trivial))
                clear HStep hin
                go_wp2_with (at_mapUpdate; refine wpList_update_V rfl _ _ _ 83 4 rfl Tryz.underlying83 mb cnt _ rfl HOw.out (by unfold maxLen; omega) nm (.bool true) rfl rfl hsz ?_)
                intro w7 hown7 hg7
                have HO7 := Lib.hid hown7
                have HB7 := Lib.hid (HB2x.out.grown hg7 HB2x.out.size (fun k e => by cases e; exact hmb))
                clear hown7 hg7 hlk
                go_wp2_with fail
                go_roundw
                case rel =>
                  refine ⟨j + 1, cnt + 1, by omega, by omega, by go_num, ?_, ?_, HB7.out⟩
                  · rw [HSn.out]; exact HN
                  · rw [HSn.out]; exact HO7.out.same (fun s => putV_bool _ _ _ s)
                case measure => simp [intOf]; omega
            · have HR : Hid (argE args (fun _ => none) = 1) := Lib.hid (HStep.out.2.1 ⟨by first | rfl | trivial, by first | rfl | trivial, hok⟩)
              rw [checkD_no hok, errD_ne (by decide)]
              clear HStep hok
              go_wp2_with fail
              go_ret
              exact ⟨by rw [HFit.out (by rw [HR.out]; decide), HR.out]; rfl, HBx.out⟩
      · obtain rfl : j = args.length := by omega
        have et : args.take args.length = args := List.take_length
        have HA0 : Hid (argE args (fun _ => none) = 0) := Lib.hid (by rw [HAe.out, List.drop_length]; rfl)
        have HFr : Hid (fr = needE L (argM args fun _ => none)) := Lib.hid (HFt2.out HA0.out)
        rw [et] at HO
        generalize argM args (fun _ => none) = F at *
        have hmlt := HO.out.lt
        clear et hown hb HAe HA0 HFit HFt2 hs HAr
        go_wp2_with fail
        go_loopw [62] (fun i wq => ∃ k : Nat, k ≤ L.length ∧ i = .int .i64 (k : Int) ∧ Hid (fr = needE (L.drop k) F) ∧ Below wo.heap.size wo wq) (fun i _ => L.length - (intOf i).toNat)
        case atStart => exact ⟨0, Nat.zero_le _, rfl, HFr, Below.refl _ _⟩
        case round =>
          clear HFr
          obtain ⟨k, hk, rfl, HNe, hbq⟩ := hrel
          have HBq := Lib.hid hbq
          have HB2q := Lib.hid (HB.out.trans (hbq.mono HB.out.size))
          have HBwq := Lib.hid (HB2.out.trans (HB2q.out.mono hs2))
          by_cases hlk : k < L.length
          · have i1 : (0 : Int) ≤ (k : Int) := Int.natCast_nonneg k
            have i2 : (k : Int) < (L.length : Int) := by omega
            obtain ⟨b1, o1, rfl, _, _, x0, x1, x2⟩ := (neds_of_own (lo := 0) (hi := wr.heap.size) (own_below HRow.out HB2q.out (Nat.le_refl _)) (Nat.zero_le _) (Nat.le_refl _)).nedAt k hlk
            have hszn := HNs.out _ (List.getElem_mem hlk)
            have hdr : L.drop k = L[k] :: L.drop (k + 1) := List.drop_eq_getElem_cons hlk
            rw [hdr] at HNe
            have HOq := Lib.hid (HO.out.below hbq hmlt)
            clear hdr hbq
            generalize L[k] = e at *
            obtain ⟨e0, e1, e2⟩ := e
            dsimp only at x0 x1 x2 hszn
            have hlk2 := HOq.out.look_ok (t := 83) (e := 4) (k := e0) Tryz.underlying83 (HZb.out wr) (by unfold maxLen; omega)
            have hlk3 : (Instr.lookup 83 (.map (some mb)) (.string e0) true).run Tryz.prog (wr.alloc (.cells #[.string e0, .bool e1, .bool e2] 82)) = .ok (.tuple #[((F e0).map Value.bool).getD (.bool false), .bool ((F e0).map Value.bool).isSome]) (wr.alloc (.cells #[.string e0, .bool e1, .bool e2] 82)) :=
              (HOq.out.below ((Below.refl wr.heap.size wr).alloc (Nat.le_refl _) _) HOq.out.lt).look_ok (t := 83) (e := 4) (k := e0) Tryz.underlying83 (HZb.out _) (by unfold maxLen; omega)
            have HBa : Hid (Below wo.heap.size wo (wr.alloc (.cells #[.string e0, .bool e1, .bool e2] 82))) := Lib.hid (HBq.out.alloc HBq.out.size _)
            have HBwa : Hid (Below w.heap.size w (wr.alloc (.cells #[.string e0, .bool e1, .bool e2] 82))) := Lib.hid (HBwq.out.alloc HBwq.out.size _)
            have HNe2 : Hid (fr = if (F e0).isSome = false then 2 else if ((e1 && !((F e0).getD false)) || (e2 && (F e0).getD false)) = true then 7 else needE (L.drop (k + 1)) F) := Lib.hid HNe.out
            clear hlk2 HNe HO HOq
            cases hF : F e0 with
            | none =>
              rw [hF] at hlk3 HNe2
              have HE : Hid (fr = 2) := Lib.hid (by rw [HNe2.out]; rfl)
              have hlk4 : (Instr.lookup 83 (.map (some mb)) (.string e0) true).run Tryz.prog (wr.alloc (.cells #[.string e0, .bool e1, .bool e2] 82)) = .ok (.tuple #[.bool false, .bool false]) (wr.alloc (.cells #[.string e0, .bool e1, .bool e2] 82)) := hlk3
              clear hlk3 HNe2 hF
              go_wp2_with fail
              go_ret
              exact ⟨by rw [HE.out]; rfl, HBwa.out⟩
            | some y =>
              rw [hF] at hlk3 HNe2
              have HE : Hid (fr = if ((e1 && !y) || (e2 && y)) = true then 7 else needE (L.drop (k + 1)) F) := Lib.hid HNe2.out
              have hlk4 : (Instr.lookup 83 (.map (some mb)) (.string e0) true).run Tryz.prog (wr.alloc (.cells #[.string e0, .bool e1, .bool e2] 82)) = .ok (.tuple #[.bool y, .bool true]) (wr.alloc (.cells #[.string e0, .bool e1, .bool e2] 82)) := hlk3
              clear hlk3 HNe2 hF
              cases e1 <;> cases e2 <;> cases y
              all_goals first
                | (have HEn : Hid (fr = needE (L.drop (k + 1)) F) := Lib.hid HE.out
                   clear HE
                   go_wp2_with fail
                   go_roundw
                   case rel => exact ⟨k + 1, by omega, by go_num, HEn, HBa.out⟩
                   case measure => simp [intOf]; omega)
                | (have HEn : Hid (fr = 7) := Lib.hid HE.out
                   clear HE
                   go_wp2_with fail
                   go_ret
                   exact ⟨by rw [HEn.out]; rfl, HBwa.out⟩)
          · obtain rfl : k = L.length := by omega
            have HE : Hid (fr = 0) := Lib.hid (by rw [HNe.out, List.drop_length]; rfl)
            clear HNe hbq
            go_wp2_with fail
            go_ret
            exact ⟨by rw [HE.out]; rfl, HBwq.out⟩
  · have HE := Lib.hid (HF0.out hf)
    have HB2 := Lib.hid hb2
    rw [errV_ne hf]
    clear HF0 HF1 HF2 hrow hb2
    go_wp2_with fail
    go_ret
    exact ⟨by rw [HE.out, errV_ne hf]; rfl, HB2.out⟩
end Go.Proofs.YtjdfpoppimcikaaGreatDoor
