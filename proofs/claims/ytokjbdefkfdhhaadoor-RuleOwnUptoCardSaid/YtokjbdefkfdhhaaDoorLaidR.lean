/- What the card's list of RuleOwn gives; the operands of a number opened; a world that meets the list. -/
import Derived.Test.YtokjbdefkfdhhaaDoorRuleH
import Derived.Test.YtokjbdefkfdhhaaDoorOpenB
import Derived.Test.YtokjbdefkfdhhaaDoorRows
import Derived.Deep.DeepHandedRow
import Derived.LaidLaws
import Derived.LaidHandle
import Derived.Lib.LaidTab
import Derived.Stop.Joined
import Derived.Stop.LaidErr
import Derived.Shelf.Vars
import Derived.Lay
namespace Go.Proofs.YtokjbdefkfdhhaaDoor
open Go.RowKit Go.ChangeShapes Go.WideShapes Go.ChangeAt

/- ## The operands -/
def Enc.ops : Enc OpV := ⟨5, 40, fun _ _ _ cs o => cs = [.int .i64 o.i, .int .i64 o.v, .int .i64 o.w, .int .i64 o.f, .int .i64 o.t], fun _ o => o.Ok, fun _ => 1⟩
theorem cells_ops : Tryd.prog.cellsOf 23 = 5 := by kernel_rfl
theorem cells_intR : Tryd.prog.cellsOf 3 = 1 := by kernel_rfl
theorem five_of {α : Type} : ∀ l : List α, l.length = 5 → ∃ a b c d e, l = [a, b, c, d, e]
  | [a, b, c, d, e], _ => ⟨a, b, c, d, e, rfl⟩
theorem opens_ops : Opens Tryd.prog Enc.ops 23 := by
  intro H enc w sp held fuel cs x hi h hx
  obtain ⟨xs, n, rfl, rfl, hcl, hxl, hel⟩ := DataW.trod_struct Tryd.underlying23 h
  have e0 := hel 0 _ rfl
  have e1 := hel 1 _ rfl
  have e2 := hel 2 _ rfl
  have e3 := hel 3 _ rfl
  have e4 := hel 4 _ rfl
  have hl5 : xs.length = 5 := hxl
  obtain ⟨y0, y1, y2, y3, y4, rfl⟩ := five_of xs hl5
  rw [cells_ops] at hcl
  obtain ⟨c0, c1, c2, c3, c4, rfl⟩ := five_of cs hcl
  change DataW.trod enc Tryd.prog w 0 sp held n 3 ((List.drop 0 [c0, c1, c2, c3, c4]).take (Tryd.prog.cellsOf 3)) = some y0 at e0
  change DataW.trod enc Tryd.prog w 0 sp held n 3 ((List.drop 1 [c0, c1, c2, c3, c4]).take (Tryd.prog.cellsOf 3)) = some y1 at e1
  change DataW.trod enc Tryd.prog w 0 sp held n 3 ((List.drop 2 [c0, c1, c2, c3, c4]).take (Tryd.prog.cellsOf 3)) = some y2 at e2
  change DataW.trod enc Tryd.prog w 0 sp held n 3 ((List.drop 3 [c0, c1, c2, c3, c4]).take (Tryd.prog.cellsOf 3)) = some y3 at e3
  change DataW.trod enc Tryd.prog w 0 sp held n 3 ((List.drop 4 [c0, c1, c2, c3, c4]).take (Tryd.prog.cellsOf 3)) = some y4 at e4
  rw [cells_intR] at e0 e1 e2 e3 e4
  obtain ⟨n0, h0, _, w0⟩ := DataW.trod_int Tryd.underlying3 e0
  obtain ⟨n1, h1, _, w1⟩ := DataW.trod_int Tryd.underlying3 e1
  obtain ⟨n2, h2, _, w2⟩ := DataW.trod_int Tryd.underlying3 e2
  obtain ⟨n3, h3, _, w3⟩ := DataW.trod_int Tryd.underlying3 e3
  obtain ⟨n4, h4, _, w4⟩ := DataW.trod_int Tryd.underlying3 e4
  simp at h0 h1 h2 h3 h4
  subst h0; subst h1; subst h2; subst h3; subst h4
  exact ⟨⟨n0, n1, n2, n3, n4⟩, rfl, fun _ _ => ⟨w0, w1, w2, w3, w4⟩, by simp [Enc.ops, Rows.uptoBulk]⟩

/- ## The variables -/
theorem iface_of_trod {P : Program} {w : World} {sp : Nat → Bool} {fuel : Nat} {t : TypeId} {ms : Array (String × TypeId)} {cs : List Value} {nm : String} {d : DataW Unit} {p : List MemPlace} (ht : P.underlying t = some (.interface ms))
    (h : DataW.trod (fun _ => ()) P w 0 sp false fuel t cs = some (.iface nm d, p)) : ∃ u v, cs = [.iface u v] := by
  cases fuel with
  | zero => simp [DataW.trod] at h
  | succ fuel =>
    unfold DataW.trod at h
    rw [ht] at h
    match cs, h with
    | [.iface u v], _ => exact ⟨u, v, rfl⟩
    | [.nilIface], h => simp at h
theorem iface_of_head {P : Program} {W : World} {name nm : String} {d : DataW Unit} {rest : List (String × DataW Unit)} {g : Nat} {t : TypeId} {ms : Array (String × TypeId)}
    (hg : P.globalNamed name = some g) (hty : (P.globals[g]?).map (·.type) = some t) (ht : P.underlying t = some (.interface ms)) (h : laidMet P ((name, .iface nm d) :: rest) W) : ∃ u v, W.var? P name = some #[.iface u v] := by
  obtain ⟨ps, ⟨g', t', cs, fuel, p, q, hg', ht', hvar, hd, _, _⟩, _⟩ := h
  obtain rfl := Option.some.inj (hg.symm.trans hg')
  obtain rfl := Option.some.inj (hty.symm.trans ht')
  obtain ⟨u, v, e⟩ := iface_of_trod ht hd
  exact ⟨u, v, by rw [hvar]; exact congrArg some (Array.toList_inj.1 e)⟩
theorem laid_plainR (W : World) (h : laidMetH Tryd.prog Rows.ruleOwnUptoRow.laid W) : laidMet Tryd.prog Rows.ruleOwnUptoRow.laid W := by
  unfold laidMetH at h
  rw [show (Rows.ruleOwnUptoRow.laid.filter fun x => x.2.handleName?.isSome) = [] from by kernel_rfl] at h
  exact h
theorem rv_of_laid {W : World} (h : laidMetH Tryd.prog Rows.ruleOwnUptoRow.laid W) (hS : W.ShapedOpen Tryd.prog) : RV W := by
  have h0 := laid_plainR W h
  have h1 : laidMet Tryd.prog (("internal/strconv.uint64pow10", Lib.tabData .u64 Lib.pow10Tab) :: _) W := (h0.tail).tail
  have h2 : laidMet Tryd.prog (("strconv.ErrRange", _) :: _) W := h1.tail.tail
  have h3 : laidMet Tryd.prog (("strconv.ErrSyntax", _) :: _) W := h2.tail
  refine ⟨?_, ?_, ?_, ?_⟩
  · exact cell_of_shapedOpen_int (zero := #[.int .i64 0]) (t := 3) (k := .i64) hS (of_decide_eq_true (by kernel_rfl)) (by kernel_rfl) rfl (by kernel_rfl) (by kernel_rfl) Tryd.underlying3
  · exact iface_of_head (g := 3) (t := 26) (by kernel_rfl) (by kernel_rfl) Tryd.underlying26 h3
  · exact iface_of_head (g := 4) (t := 26) (by kernel_rfl) (by kernel_rfl) Tryd.underlying26 h2
  · exact Lib.tabIs_of_head (g := 5) (t := 119) (n := 20) (by kernel_rfl) (by kernel_rfl) (by kernel_rfl) Tryd.underlying104 (by kernel_rfl) (by kernel_rfl) h1
/- ## A world that meets the list -/
noncomputable def laidWorld (_ : Array Value) (os : Os) : World := World.laidAll Tryd.prog os Rows.ruleOwnUptoRow.laid
theorem laidWorld_met (os : Os) (args : Array Value) : laidMetH Tryd.prog Rows.ruleOwnUptoRow.laid ((laidWorld args os).forCall (fun _ _ => 0) ⟨#[], args, []⟩).memory := by
  have h : laidMet Tryd.prog Rows.ruleOwnUptoRow.laid ((laidWorld args os).forCall (fun _ _ => 0) ⟨#[], args, []⟩).memory := laidMet_laidAll args (by kernel_rfl) (by kernel_rfl)
  unfold laidMetH
  rw [show (Rows.ruleOwnUptoRow.laid.filter fun x => x.2.handleName?.isSome) = [] from by kernel_rfl]
  exact h
section
variable {H : Type} {enc : TypeId × Value → H}
theorem witness_row_zip {C : Checked} {os : Os} {f : FuncId} {fn : Func} {s : OpenSpec} {conds : List PathCond} {apart : Bool} {laid : List (String × DataW Unit)} (modest : Bool) (w0 : World) (args : Array Value) (hos : w0.os = os)
    (hv : (w0.forCall (fun _ _ => 0) ⟨#[], args, []⟩).variablesZipB C.prog = true)
    (hr : ((w0.forCall (fun _ _ => 0) ⟨#[], args, []⟩).heap.toList.drop C.prog.globals.size).take ((begin C.prog (fun _ _ => 0) default).world.heap.size - C.prog.globals.size) =
      (begin C.prog (fun _ _ => 0) default).world.heap.toList.drop C.prog.globals.size)
    (hok : Input.okWideB C.prog (w0.forCall (fun _ _ => 0) ⟨#[], args, []⟩) f ⟨#[], args, []⟩ = true)
    (hrow : s.preRow enc C.prog fn conds apart laid (w0.forCall (fun _ _ => 0) ⟨#[], args, []⟩).memory args) :
    ∃ (w : World) (tape : Tape) (i : Input), w.os = os ∧ (w.forCall tape i).Shaped C.prog ∧ i.vars = [] ∧ Input.okWide C.prog (w.forCall tape i) .any w.heap.size f i ∧
      s.preRow enc C.prog fn conds apart laid (w.forCall tape i).memory i.args ∧ ({ modest := modest } : Assume).holds C.prog (lone (Frame.enter C.prog f i.args .normal) [] (w.forCall tape i)) :=
  ⟨w0, fun _ _ => 0, ⟨#[], args, []⟩, hos, World.shaped_of_ZipB hv hr, (Input.okWide_of_okWideB (base := 0) hok).1, (Input.okWide_of_okWideB hok).2, hrow, by
    simp only [Assume.holds]
    exact ⟨by simp, by simp, fun _ => Modest.zero, by simp, by simp⟩⟩
end
end Go.Proofs.YtokjbdefkfdhhaaDoor
