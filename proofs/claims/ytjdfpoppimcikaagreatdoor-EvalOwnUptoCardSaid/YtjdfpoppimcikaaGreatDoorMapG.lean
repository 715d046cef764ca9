/- Arguments as values; plainly: what is wrong with them. -/
import Derived.Test.YtjdfpoppimcikaaGreatDoorNamesD
import Derived.Test.YtjdfpoppimcikaaGreatDoorDecC
import Derived.Test.YtjdfpoppimcikaaGreatDoorAppend
import Derived.Maps.OwnSet
import Derived.Maps.Own
import Derived.Maps.Views
namespace Go.Proofs.YtjdfpoppimcikaaGreatDoor
open Go.RowKit

structure ArgV where
  name : ByteArray
  isNum : Bool
  num : DecV
  text : ByteArray
def ArgV.cells (a : ArgV) : List Value := [.string a.name, .bool a.isNum, .int .i64 a.num.coef, .int .i64 a.num.scale, .string a.text]
def ArgV.val (a : ArgV) : Value := .agg #[.string a.name, .bool a.isNum, .int .i64 a.num.coef, .int .i64 a.num.scale, .string a.text]
def Enc.argV : Enc ArgV := ⟨5, 56, fun _ _ _ cs a => cs = a.cells, fun B a => a.name.size ≤ B ∧ ((Lit.int .i64 a.num.coef).wf = true ∧ (Lit.int .i64 a.num.scale).wf = true) ∧ a.text.size ≤ B, fun a => a.name.size + a.text.size + 5⟩
theorem Enc.argV_laws : Enc.argV.Laws := ⟨fun h => by cases h; rfl, fun h _ => h, fun h _ _ => h⟩
theorem ListOk.argVAt {w : World} {lo hi : Nat} {A : Option Addr} {n c : Nat} {l : List ArgV} (h : ListOk Enc.argV w lo hi (.slice A n c) l) (i : Nat) (hl : i < l.length) :
    ∃ b o, A = some ⟨b, o, none⟩ ∧ lo ≤ b ∧ b < hi ∧ w.cell? ⟨b, o + i * 5, none⟩ = some (.string l[i].name) ∧ w.cell? ⟨b, o + i * 5 + 1, none⟩ = some (.bool l[i].isNum) ∧ w.cell? ⟨b, o + i * 5 + 2, none⟩ = some (.int .i64 l[i].num.coef) ∧ w.cell? ⟨b, o + i * 5 + 3, none⟩ = some (.int .i64 l[i].num.scale) ∧ w.cell? ⟨b, o + i * 5 + 4, none⟩ = some (.string l[i].text) := by
  obtain ⟨A', c', hv, _, hi'⟩ := h
  injection hv with hv1 _ _
  subst hv1
  obtain ⟨b, o, cs, hA, h1, h2, h3, h4⟩ := hi' i hl
  have h4 : cs = l[i].cells := h4
  subst h4
  exact ⟨b, o, hA, h1, h2, h3 0 _ rfl, h3 1 _ rfl, h3 2 _ rfl, h3 3 _ rfl, h3 4 _ rfl⟩
abbrev KMap := ByteArray → Option Bool
def putB (f : KMap) (k : ByteArray) (b : Bool) : KMap := fun s => if s = k then some b else f s
def argE : List ArgV → KMap → Int
  | [], _ => 0
  | a :: r, f => if nameR a.name = false then 3 else if a.isNum = true ∧ ¬ a.num.ok then 1 else if (f a.name).isSome = true then 5 else argE r (putB f a.name a.isNum)
def argM (l : List ArgV) (f : KMap) : KMap := l.foldl (fun f a => putB f a.name a.isNum) f
def needBad (x : Ned) (b : Bool) : Bool := (x.num && !b) || (x.text && b)
def needE : List Ned → KMap → Int
  | [], _ => 0
  | x :: r, f => if (f x.name).isSome = false then 2 else if needBad x ((f x.name).getD false) = true then 7 else needE r f
def fitsR (n : Nat) (m : List (Nd n)) (args : List ArgV) : Int :=
  if (ofR n m).1 ≠ 0 then (ofR n m).1 else if argE args (fun _ => none) ≠ 0 then argE args (fun _ => none) else needE (ofR n m).2 (argM args fun _ => none)
theorem argM_snoc (l : List ArgV) (f : KMap) (j : Nat) (h : j < l.length) : argM (l.take (j + 1)) f = putB (argM (l.take j) f) l[j].name l[j].isNum := by
  unfold argM
  rw [List.take_succ_eq_append_getElem h, List.foldl_append]; rfl
/- the names are no longer than the message's texts -/
theorem putN_names {P : ByteArray → Prop} {l : List Ned} (h : ∀ x ∈ l, P x.name) (i : Nat) (b c : Bool) : ∀ x ∈ putN l i b c, P x.name := by
  intro x hx
  unfold putN at hx
  split at hx
  · rename_i hi
    rcases List.mem_or_eq_of_mem_set hx with hx | rfl
    · exact h x hx
    · exact h l[i] (List.getElem_mem hi)
  · exact h x hx
theorem addN_names {P : ByteArray → Prop} {l : List Ned} (h : ∀ x ∈ l, P x.name) (kind : Int) {t : ByteArray} (ht : P t) : ∀ x ∈ addN l kind t, P x.name := by
  unfold addN
  split
  · exact h
  · split
    · refine putN_names (fun x hx => ?_) _ _ _
      rcases List.mem_append.1 hx with hx | hx
      · exact h x hx
      · obtain rfl := List.mem_singleton.1 hx; exact ht
    · exact putN_names h _ _ _
theorem casA_names {β : Type} {P : ByteArray → Prop} {g : List β → List Ned → List Ned} : ∀ (cs : List (ByteArray × List β)) (l : List Ned), (∀ c ∈ cs, ∀ l, (∀ x ∈ l, P x.name) → ∀ x ∈ g c.2 l, P x.name) → (∀ x ∈ l, P x.name) → ∀ x ∈ casA g cs l, P x.name
  | [], l, _, h => h
  | c :: r, l, hg, h => casA_names r (g c.2 l) (fun d hd => hg d (List.mem_cons_of_mem _ hd)) (hg c (List.mem_cons_self ..) l h)
theorem nodA_names {β : Type} {P : ByteArray → Prop} {g : List β → List Ned → List Ned} : ∀ (m : List (NdF β)) (l : List Ned), (∀ x ∈ m, P x.text ∧ ∀ c ∈ x.cases, ∀ l, (∀ x ∈ l, P x.name) → ∀ x ∈ g c.2 l, P x.name) → (∀ x ∈ l, P x.name) → ∀ x ∈ nodA g m l, P x.name
  | [], l, _, h => h
  | x :: r, l, hm, h => nodA_names r _ (fun y hy => hm y (List.mem_cons_of_mem _ hy))
      (casA_names (casesR x) _ (fun c hc => (hm x (List.mem_cons_self ..)).2 c (casesR_sub hc)) (addN_names h x.kind (hm x (List.mem_cons_self ..)).1))
theorem allN_names : (n : Nat) → (m : List (Nd n)) → (l : List Ned) → MsgIn n m → (∀ x ∈ l, x.name.size ≤ 1000000000) → ∀ x ∈ allN n m l, x.name.size ≤ 1000000000
  | 0, _, l, _, h => h
  | n + 1, m, l, hm, h => nodA_names (P := fun s => s.size ≤ 1000000000) (m : List (NdF (Nd n))) l (fun x hx => by
      have h1 : smallF (SmallN n) x := hm.each x hx
      exact ⟨h1.1, fun c hc l hl => allN_names n c.2 l (hm.body hx hc) hl⟩) h
theorem ofR_names (n : Nat) (m : List (Nd n)) (hm : MsgIn n m) : ∀ x ∈ (ofR n m).2, x.name.size ≤ 1000000000 := by
  unfold ofR
  split
  · intro x hx; cases hx
  · split
    · intro x hx; cases hx
    · exact allN_names n m [] hm (fun x hx => nomatch hx)
theorem ofR_len (n : Nat) (m : List (Nd n)) (hc : cntN n m ≤ 10000000) : (ofR n m).2.length ≤ 10000000 := by
  have h := allN_len n m []
  simp at h
  unfold ofR
  split
  · exact Nat.zero_le _
  · split
    · exact Nat.zero_le _
    · show (allN n m []).length ≤ _; omega
end Go.Proofs.YtjdfpoppimcikaaGreatDoor
/- Maps from strings to whatever values: made, written, asked. -/

namespace Go.Proofs.YtjdfpoppimcikaaGreatDoor
open Go.RowKit Go.Maps

def heldR : Value → Option (DataW Value × List MemPlace) := fun v => some (.held v, [])
/-- the map at block b reads as f: of each key its value -/
def OwnsV (w : World) (b n : Nat) (f : ByteArray → Option Value) : Prop :=
  ∃ D : DataW Value, w.ownsMap Tryz.prog 9 heldR b n D ∧ ∀ s : ByteArray, has D (.string s.data.toList) = (f s).isSome ∧ ∀ z, D.atKey (.string s.data.toList) (.held z) = .held ((f s).getD z)
theorem keyedS : Keyed Tryz.prog 9 := string_keyed Tryz.underlying9
theorem keyS {k : ByteArray} (hk : k.size ≤ maxLen) : keyOf Tryz.prog 9 (.string k) = some (.string k.data.toList) := Go.WideMaps.keyOf_string_mk Tryz.underlying9 hk
theorem OwnsV.made (w : World) : OwnsV (w.alloc (.map #[] 0)) w.heap.size 0 (fun _ => none) :=
  ⟨.map [], World.ownsMap_made w _ _ _, fun s => ⟨rfl, fun z => rfl⟩⟩
theorem OwnsV.lt {w : World} {b n : Nat} {f : ByteArray → Option Value} (h : OwnsV w b n f) : b < w.heap.size := by
  obtain ⟨D, h1, _⟩ := h
  exact h1.lt
theorem OwnsV.keep {w w' : World} {b n : Nat} {f : ByteArray → Option Value} (h : OwnsV w b n f) (hb : w'.heap[b]? = w.heap[b]?) : OwnsV w' b n f := by
  obtain ⟨D, ⟨es, clock, h1, F, h2, h3⟩, h4⟩ := h
  exact ⟨D, ⟨es, clock, hb.trans h1, F, h2, h3⟩, h4⟩
theorem OwnsV.below {w w' : World} {b n B : Nat} {f : ByteArray → Option Value} (h : OwnsV w b n f) (hb : Below B w w') (hB : b < B) : OwnsV w' b n f := h.keep (hb.block b hB)
theorem held_inj {a b : Value} (h : (DataW.held a : DataW Value) = .held b) : a = b := by injection h
theorem OwnsV.look {w : World} {b n : Nat} {f : ByteArray → Option Value} (h : OwnsV w b n f) {t e : TypeId} (ht : Tryz.prog.underlying t = some (.map 9 e)) {z : Value} (hz : (zeroValue e).run Tryz.prog w = .ok z w) {k : ByteArray} (hk : k.size ≤ maxLen) :
    (Instr.lookup t (.map (some b)) (.string k) false).run Tryz.prog w = .ok ((f k).getD z) w := by
  obtain ⟨D, h1, h2⟩ := h
  obtain ⟨v, ps, hrun, hv⟩ := h1.lookup keyedS ht hz (zd := .held z) (zp := []) rfl (keyS hk)
  rw [(h2 k).2 z] at hv
  have e1 : v = (f k).getD z := held_inj (congrArg Prod.fst (Option.some.inj hv))
  rw [hrun, e1]
theorem OwnsV.look_ok {w : World} {b n : Nat} {f : ByteArray → Option Value} (h : OwnsV w b n f) {t e : TypeId} (ht : Tryz.prog.underlying t = some (.map 9 e)) {z : Value} (hz : (zeroValue e).run Tryz.prog w = .ok z w) {k : ByteArray} (hk : k.size ≤ maxLen) :
    (Instr.lookup t (.map (some b)) (.string k) true).run Tryz.prog w = .ok (.tuple #[(f k).getD z, .bool (f k).isSome]) w := by
  obtain ⟨D, h1, h2⟩ := h
  obtain ⟨v, ps, hrun, hv⟩ := h1.look_ok keyedS ht hz (zd := .held z) (zp := []) rfl (keyS hk)
  rw [(h2 k).2 z] at hv
  have e1 : v = (f k).getD z := held_inj (congrArg Prod.fst (Option.some.inj hv))
  rw [hrun, e1, (h2 k).1]
def putV (f : ByteArray → Option Value) (k : ByteArray) (v : Value) : ByteArray → Option Value := fun s => if s = k then some v else f s
theorem bytes_inj {a b : ByteArray} (h : a.data.toList = b.data.toList) : a = b := by
  cases a; cases b
  simp only [ByteArray.mk.injEq]
  exact Array.toList_inj.1 h
theorem OwnsV.put {w : World} {b n : Nat} {f : ByteArray → Option Value} (h : OwnsV w b n f) {t e : TypeId} (ht : Tryz.prog.underlying t = some (.map 9 e)) (hn : n < maxLen) {k : ByteArray} (hk : k.size ≤ maxLen) (v : Value) :
    ∃ w', (Instr.mapUpdate t (.map (some b)) (.string k) v).run Tryz.prog w = .ok () w' ∧ OwnsV w' b (n + 1) (putV f k v) ∧ w.mapTurned w' b := by
  obtain ⟨D, h1, h2⟩ := h
  obtain ⟨w', hrun, h3, h4⟩ := h1.store keyedS ht hn (keyS hk) (val := v) (d := .held v) (ps := []) rfl
  refine ⟨w', hrun, ⟨_, h3, fun s => ?_⟩, h4⟩
  have hm := h1.isMap
  by_cases hs : s = k
  · subst hs
    unfold putV
    rw [if_pos rfl]
    refine ⟨has_put_same hm ?_ _, fun z => ?_⟩
    · exact trivial
    · rw [atKey_put_same hm ?_]
      · rfl
      · exact trivial
  · have hne : (Lit.string s.data.toList) ≠ .string k.data.toList := fun e => hs (bytes_inj (Lit.string.inj e))
    unfold putV
    rw [if_neg hs]
    exact ⟨(has_put_other hne _).trans (h2 s).1, fun z => (atKey_put_other hne _ _).trans ((h2 s).2 z)⟩
theorem wpList_insert_V {w : World} {ops : Array Oper} {rest : List Oper} {o : Oper} {a : Act} {Q : Exit → Act → World → Prop}
    (hg : o.guard = none) (m x v : Operand) (t e : TypeId) (hop : o.op = Op.insert t m x v) (ht : Tryz.prog.underlying t = some (.map 9 e)) (b n : Nat) (f : ByteArray → Option Value)
    (hm : a.eval m = .map (some b)) (hown : OwnsV w b n f) (hn : n < maxLen) (key : ByteArray) (val : Value) (hx : a.eval x = .string key) (hv : a.eval v = val) (hk : key.size ≤ maxLen)
    (hK : ∀ w', OwnsV w' b (n + 1) (putV f key val) → w.grownBy w' (some b) → wpList Tryz.prog ops Q rest (a.put o.dst undef) w') :
    wpList Tryz.prog ops Q (o :: rest) a w := by
  refine wpList_plain hg fun K' hK' => ?_
  obtain ⟨w', hrun, r1, r2⟩ := hown.put ht hn hk val
  unfold Oper.wp
  simp [execOp, hop, hm, hx, hv, hrun, Result.andThen]
  exact hK' _ _ (hK w' r1 r2.grown)
theorem wpList_update_V {w : World} {ops : Array Oper} {rest : List Oper} {o : Oper} {a : Act} {Q : Exit → Act → World → Prop}
    (hg : o.guard = none) (m x v : Operand) (t e : TypeId) (hop : o.op = Op.mapUpdate t m x v) (ht : Tryz.prog.underlying t = some (.map 9 e)) (b n : Nat) (f : ByteArray → Option Value)
    (hm : a.eval m = .map (some b)) (hown : OwnsV w b n f) (hn : n < maxLen) (key : ByteArray) (val : Value) (hx : a.eval x = .string key) (hv : a.eval v = val) (hk : key.size ≤ maxLen)
    (hK : ∀ w', OwnsV w' b (n + 1) (putV f key val) → w.grownBy w' (some b) → wpList Tryz.prog ops Q rest (a.put o.dst undef) w') :
    wpList Tryz.prog ops Q (o :: rest) a w := by
  refine wpList_plain hg fun K' hK' => ?_
  obtain ⟨w', hrun, r1, r2⟩ := hown.put ht hn hk val
  unfold Oper.wp
  simp [execOp, hop, hm, hx, hv, hrun, Result.andThen]
  exact hK' _ _ (hK w' r1 r2.grown)
end Go.Proofs.YtjdfpoppimcikaaGreatDoor
