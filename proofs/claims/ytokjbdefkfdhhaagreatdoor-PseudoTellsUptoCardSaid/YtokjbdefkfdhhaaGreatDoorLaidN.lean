/- What the cards' lists of NamesOwn and PseudoTells give (they are the same); a world that meets them. -/
import Derived.Test.YtokjbdefkfdhhaaGreatDoorMsgV
import Derived.Test.YtokjbdefkfdhhaaGreatDoorAs
import Derived.Test.YtokjbdefkfdhhaaGreatDoorOpenB
import Derived.Test.YtokjbdefkfdhhaaGreatDoorRows
import Derived.Deep.DeepHandedRow
import Derived.LaidLaws
import Derived.LaidHandle
import Derived.Lib.LaidTab
import Derived.Stop.Joined
import Derived.Stop.LaidErr
import Derived.Shelf.Vars
import Derived.Lay
namespace Go.Proofs.YtokjbdefkfdhhaaGreatDoor
open Go.RowKit Go.ChangeShapes Go.WideShapes Go.ChangeAt

theorem iface_of_trod {P : Program} {w : World} {sp : Nat → Bool} {fuel : Nat} {t : TypeId} {ms : Array (String × TypeId)} {cs : List Value} {nm : String} {d : DataW Unit} {p : List MemPlace} (ht : P.underlying t = some (.interface ms))
    (h : DataW.trod (fun _ => ()) P w 0 sp false fuel t cs = some (.iface nm d, p)) : ∃ u v, cs = [.iface u v] := by
  cases fuel with
  | zero => simp [DataW.trod] at h
  | succ fuel =>
    unfold DataW.trod at h
    rw [ht] at h
    match cs, h with
    | [.iface u v], _ => exact ⟨u, v, rfl⟩
    | [.nilIface], h => simp at h
theorem iface_of_head {P : Program} {W : World} {name nm : String} {d : DataW Unit} {rest : List (String × DataW Unit)} {g : Nat} {t : TypeId} {ms : Array (String × TypeId)}
    (hg : P.globalNamed name = some g) (hty : (P.globals[g]?).map (·.type) = some t) (ht : P.underlying t = some (.interface ms)) (h : laidMet P ((name, .iface nm d) :: rest) W) : ∃ u v, W.var? P name = some #[.iface u v] := by
  obtain ⟨ps, ⟨g', t', cs, fuel, p, q, hg', ht', hvar, hd, _, _⟩, _⟩ := h
  obtain rfl := Option.some.inj (hg.symm.trans hg')
  obtain rfl := Option.some.inj (hty.symm.trans ht')
  obtain ⟨u, v, e⟩ := iface_of_trod ht hd
  exact ⟨u, v, by rw [hvar]; exact congrArg some (Array.toList_inj.1 e)⟩
/-- a variable that is a list of strings, none of them behind -/
theorem strs_of_head {P : Program} {W : World} {name : String} {ss : List (List UInt8)} {rest : List (String × DataW Unit)} {g : Nat} {t e : TypeId}
    (hg : P.globalNamed name = some g) (hty : (P.globals[g]?).map (·.type) = some t) (ht : P.underlying t = some (.slice e)) (he : P.underlying e = some .string) (hce : P.cellsOf e = 1) (hne : 0 < ss.length)
    (h : laidMet P ((name, .slice (ss.map fun s => .lit (.string s)) []) :: rest) W) :
    ∃ b o c, ss.length ≤ c ∧ W.var? P name = some #[.slice (some ⟨b, o, none⟩) ss.length c] ∧ ∀ j (h : j < ss.length), W.cell? ⟨b, o + j, none⟩ = some (.string ⟨ss[j].toArray⟩) := by
  obtain ⟨ps, ⟨g', t', cs, fuel, p, q, hg', ht', hvar, hd, _, _⟩, _⟩ := h
  obtain rfl := Option.some.inj (hg.symm.trans hg')
  obtain rfl := Option.some.inj (hty.symm.trans ht')
  rcases DataW.trod_slice ht hd with ⟨_, h2⟩ | ⟨a, len, cap, elems, rs, n, _, hcs, hx, hb, hl, hm, hlen, hel, _, _⟩
  · simp at h2
  · have e1 : (ss.map fun s => (DataW.lit (.string s) : DataW Unit)) = elems.map (·.1) := by
      have := congrArg Prod.fst hx
      simp at this
      exact this.1
    have hn : len = ss.length := by
      have := congrArg List.length e1
      simp at this; omega
    subst hn
    have key : ∀ j (h : j < ss.length), W.cell? (a.add j) = some (.string ⟨ss[j].toArray⟩) := by
      intro j hj
      have h1 := hel j hj
      have hz : elems[j]? = some (elems[j]'(by omega)) := List.getElem?_eq_getElem (by omega)
      rw [hz, Option.bind_eq_some_iff] at h1
      obtain ⟨cs', hcs', htr⟩ := h1
      rw [hce] at hcs'
      obtain ⟨_, hcl, hat⟩ := World.cells?_some hcs'
      obtain ⟨s, rfl, hs, _⟩ := DataW.trod_string he htr
      have e2 : (elems[j]'(by omega)).1 = .lit (.string ss[j]) := by
        have : (elems.map (·.1))[j]'(by simp; omega) = (ss.map fun s => (DataW.lit (.string s) : DataW Unit))[j]'(by simp; omega) := by congr 1; exact e1.symm
        simpa using this
      rw [hs] at e2
      simp at e2
      have h0 := hat 0 (by omega)
      have ea : (a.add (j * 1)).add 0 = a.add j := by
        rw [Nat.mul_one]
        unfold Addr.add
        simp
      rw [ea] at h0
      rw [h0]
      simp
      cases s with
      | mk d => cases d with
        | mk l => simp at e2; rw [e2]
    have hspot : a.spot = none := by
      have hsome : W.cell? a = some (.string ⟨ss[0].toArray⟩) := by
        have := key 0 hne
        unfold Addr.add at this
        simpa using this
      unfold World.cell? at hsome
      split at hsome
      · split at hsome
        · cases hsome
        · cases hs : a.spot with
          | none => rfl
          | some q => simp_all
      · cases hsome
    refine ⟨a.block, a.off, cap, hl, ?_, fun j hj => ?_⟩
    · rw [hvar]
      have : a = ⟨a.block, a.off, none⟩ := by rw [← hspot]
      rw [← this]
      exact congrArg some (Array.toList_inj.1 hcs)
    · have := key j hj
      have e3 : a.add j = ⟨a.block, a.off + j, none⟩ := by
        unfold Addr.add
        split
        · subst_vars; rw [← hspot]; rfl
        · rfl
      rwa [e3] at this
def laidN : List (String × DataW Unit) := Rows.namesOwnUptoRow.laid
def laidNd : List (String × DataW Unit) := laidN.filter fun x => x.2.handleName?.isNone
theorem et : Tryz.prog.globalNamed "errors.errorType" = some 0 := by kernel_rfl
theorem rt : (Tryz.prog.cutTypes.find? (·.1 == "internal/reflectlite.rtype")).map (·.2) = some 102 := by kernel_rfl
theorem oneRow : ((List.range 204).filter fun t => Tryz.prog.rowNamed t [101, 114, 114, 111, 114]) = [25] := by kernel_rfl
theorem types_count : Tryz.prog.types.size = 204 := by kernel_rfl
theorem laid_parts {W : World} (h : laidMetH Tryz.prog laidN W) : laidMet Tryz.prog laidNd W ∧ handlesMet Tryz.prog [("errors.errorType", Rows.laid_errors_errorType)] W := by
  have h' := h
  unfold laidMetH at h'
  rw [show (laidN.filter fun x => x.2.handleName?.isSome) = [("errors.errorType", Rows.laid_errors_errorType)] from by kernel_rfl] at h'
  exact h'
theorem errVar_of_laidN {W : World} (h : laidMetH Tryz.prog laidN W) : ErrVar W := by
  obtain ⟨name, u, ty, e1, e2, e3, e4, e5⟩ := (laid_parts h).2 _ (List.mem_singleton.2 rfl)
  have en : name = [101, 114, 114, 111, 114] := (Option.some.inj e1).symm
  subst en
  obtain rfl := Option.some.inj (rt.symm.trans e2)
  have hm : ty ∈ (List.range 204).filter fun t => Tryz.prog.rowNamed t [101, 114, 114, 111, 114] := List.mem_filter.2 ⟨List.mem_range.2 (by rw [← types_count]; exact e3), e4⟩
  rw [oneRow] at hm
  obtain rfl := List.mem_singleton.1 hm
  have hh : typeHandle Tryz.prog 25 = .pointer (some ⟨10, 25, none⟩) := by kernel_rfl
  rw [hh] at e5
  have := World.var?_cell et e5 0
  unfold ErrVar
  simpa using this
theorem mv_of_laidN {W : World} (h : laidMetH Tryz.prog laidN W) : MV W := by
  have h0 : laidMet Tryz.prog laidNd W := (laid_parts h).1
  have h1 : laidMet Tryz.prog (("internal/strconv.uint64pow10", Lib.tabData .u64 Lib.pow10Tab) :: _) W := (h0.tail).tail
  have h2 : laidMet Tryz.prog (("strconv.ErrRange", _) :: _) W := h1.tail.tail
  have h3 : laidMet Tryz.prog (("strconv.ErrSyntax", _) :: _) W := h2.tail
  have h4 : laidMet Tryz.prog (("linguister/msg.kinds", .slice ([[122, 101, 114, 111], [111, 110, 101], [116, 119, 111], [102, 101, 119], [109, 97, 110, 121], [111, 116, 104, 101, 114]].map fun s => .lit (.string s)) []) :: _) W := h3.tail
  obtain ⟨b, o, c, k1, k2, k3⟩ := strs_of_head (g := 2) (t := 75) (by kernel_rfl) (by kernel_rfl) Tryz.underlying75 Tryz.underlying9 (by kernel_rfl) (by decide) h4
  refine ⟨?_, ?_, ?_, b, o, c, k1, ?_, ?_, fun j hj => ?_⟩
  · exact iface_of_head (g := 5) (t := 25) (by kernel_rfl) (by kernel_rfl) Tryz.underlying25 h3
  · exact iface_of_head (g := 6) (t := 25) (by kernel_rfl) (by kernel_rfl) Tryz.underlying25 h2
  · exact Lib.tabIs_of_head (g := 7) (t := 169) (n := 20) (by kernel_rfl) (by kernel_rfl) (by kernel_rfl) Tryz.underlying153 (by kernel_rfl) (by kernel_rfl) h1
  · exact cellLt (k3 0 (by decide))
  · have := World.var?_cell (g := 2) (by kernel_rfl) k2 0
    simpa using this
  · rw [k3 j (by simpa [kindsB] using hj)]
    have : j < 6 := by simpa [kindsB] using hj
    match j, this with
    | 0, _ => rfl
    | 1, _ => rfl
    | 2, _ => rfl
    | 3, _ => rfl
    | 4, _ => rfl
    | 5, _ => rfl
/- ## A world that meets the list -/
def putCells (cs : Array Value) : Obj → Obj
  | .cells _ t frozen => .cells cs t frozen
  | o => o
noncomputable def handled (os : Os) : World :=
  { World.holding Tryz.prog os ⟨#[], #[], []⟩ with heap := (World.holding Tryz.prog os ⟨#[], #[], []⟩).heap.modify 0 (putCells #[.iface 102 (.agg #[.pointer (some ⟨10, 25, none⟩)])]) }
noncomputable def laidWorld (_ : Array Value) (os : Os) : World := (handled os).layVars Tryz.prog laidNd
theorem laidWorld_data (os : Os) (args : Array Value) : laidMet Tryz.prog laidNd ((laidWorld args os).forCall (fun _ _ => 0) ⟨#[], args, []⟩).memory := by
  have e1 : (laidNd.filter fun x => (laidNd.map (·.1)).contains x.1) = laidNd := List.filter_eq_self.2 fun x hx => List.contains_iff_mem.2 (List.mem_map.2 ⟨x, hx, rfl⟩)
  have e2 : (laidNd.filter fun x => !(laidNd.map (·.1)).contains x.1) = [] := List.filter_eq_nil_iff.2 fun x hx => by rw [List.contains_iff_mem.2 (List.mem_map.2 ⟨x, hx, rfl⟩)]; simp
  have h : laidMet Tryz.prog laidNd (laidWorld args os) := laidMet_layVars (w0 := handled os) (laidNd.map (·.1)) [] (by rw [e1]; rfl) (by rw [e1]; kernel_rfl) (by rw [e1]; kernel_rfl) (by rw [e2]; exact LaidIn.none)
  exact h.of_heap (by simp [World.memory, World.forCall, Input.heap])
theorem laidWorld_met (os : Os) (args : Array Value) : laidMetH Tryz.prog laidN ((laidWorld args os).forCall (fun _ _ => 0) ⟨#[], args, []⟩).memory :=
  laidMetH_of_parts (laidWorld_data os args) (by kernel_rfl)
section
variable {H : Type} {enc : TypeId × Value → H}
theorem witness_row_zip {C : Checked} {os : Os} {f : FuncId} {fn : Func} {s : OpenSpec} {conds : List PathCond} {apart : Bool} {laid : List (String × DataW Unit)} (modest : Bool) (w0 : World) (args : Array Value) (hos : w0.os = os)
    (hv : (w0.forCall (fun _ _ => 0) ⟨#[], args, []⟩).variablesZipB C.prog = true)
    (hr : ((w0.forCall (fun _ _ => 0) ⟨#[], args, []⟩).heap.toList.drop C.prog.globals.size).take ((begin C.prog (fun _ _ => 0) default).world.heap.size - C.prog.globals.size) =
      (begin C.prog (fun _ _ => 0) default).world.heap.toList.drop C.prog.globals.size)
    (hok : Input.okWideB C.prog (w0.forCall (fun _ _ => 0) ⟨#[], args, []⟩) f ⟨#[], args, []⟩ = true)
    (hrow : s.preRow enc C.prog fn conds apart laid (w0.forCall (fun _ _ => 0) ⟨#[], args, []⟩).memory args) :
    ∃ (w : World) (tape : Tape) (i : Input), w.os = os ∧ (w.forCall tape i).Shaped C.prog ∧ i.vars = [] ∧ Input.okWide C.prog (w.forCall tape i) .any w.heap.size f i ∧
      s.preRow enc C.prog fn conds apart laid (w.forCall tape i).memory i.args ∧ ({ modest := modest } : Assume).holds C.prog (lone (Frame.enter C.prog f i.args .normal) [] (w.forCall tape i)) :=
  ⟨w0, fun _ _ => 0, ⟨#[], args, []⟩, hos, World.shaped_of_ZipB hv hr, (Input.okWide_of_okWideB (base := 0) hok).1, (Input.okWide_of_okWideB hok).2, hrow, by
    simp only [Assume.holds]
    exact ⟨by simp, by simp, fun _ => Modest.zero, by simp, by simp⟩⟩
end
end Go.Proofs.YtokjbdefkfdhhaaGreatDoor
