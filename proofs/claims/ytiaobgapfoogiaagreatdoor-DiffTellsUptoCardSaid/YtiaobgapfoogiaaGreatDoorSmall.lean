/- The small bundle of the laws of chapter 4's statements, and where its key is found. -/
import Derived.Test.YtiaobgapfoogiaaGreatDoorFind
set_option linter.unusedSimpArgs false
set_option linter.unusedVariables false
namespace Go.Proofs.YtiaobgapfoogiaaGreatDoor
open Go.RowKit

def hiK : ByteArray := ⟨#[104, 105]⟩
def deT : ByteArray := ⟨#[100, 101]⟩
def helloT : ByteArray := ⟨#[104, 101, 108, 108, 111, 32, 123, 110, 97, 109, 101, 125]⟩
def smallBun : Bun := ⟨en, [⟨hiK, helloT⟩]⟩
theorem small_err : (findIn [smallBun] deT hiK).err = 0 := by decide +kernel
theorem small_at : (findIn [smallBun] deT hiK).at_ = 0 := by decide +kernel
theorem small_txt : (findIn [smallBun] deT hiK).text = helloT := by decide +kernel

theorem foundA {l : List Bun} {name key : ByteArray} (h : loadFault l ≠ 0) : findIn l name key = ⟨loadFault l, 0, ByteArray.empty⟩ := by unfold findIn; rw [if_neg h]
theorem foundB {l : List Bun} {name key : ByteArray} (h : loadFault l = 0) (h2 : isTag name = false) : findIn l name key = ⟨3, 0, ByteArray.empty⟩ := by unfold findIn; rw [if_pos h, h2]; rfl
theorem small_any (w : World) : Calls Tryz.prog 21 #[] w fun e w' => Below w.heap.size w w' ∧ ∃ A c, e = .returned (.agg #[.string en, .slice A 1 c]) ∧ ListOk Enc.ent w' w.heap.size w'.heap.size (.slice A 1 c) [⟨hiK, helloT⟩] := by
  go_enter Tryz.func21, Tryz.ntmps21
  go_wp2_with fail
  obtain ⟨W2, eW2⟩ : ∃ W2, W2 = (w.alloc (.cells #[.string ⟨#[101, 110]⟩, .slice (some ⟨w.heap.size + 1, 0, none⟩) 1 1] 24)).alloc (.cells #[.string ⟨#[104, 105]⟩, .string ⟨#[104, 101, 108, 108, 111, 32, 123, 110, 97, 109, 101, 125]⟩] 33) := ⟨_, rfl⟩
  have mb : Blk W2 w.heap.size 24 #[.string ⟨#[101, 110]⟩, .slice (some ⟨w.heap.size + 1, 0, none⟩) 1 1] := by rw [eW2]; exact (Blk.new _ _ _).alloc _
  have me : Blk W2 (w.heap.size + 1) 33 #[.string hiK, .string helloT] := by
    rw [eW2]
    have := Blk.new (w.alloc (.cells #[.string ⟨#[101, 110]⟩, .slice (some ⟨w.heap.size + 1, 0, none⟩) 1 1] 24)) 33 #[.string hiK, .string helloT]
    rw [World.size_alloc] at this; exact this
  have hb : Below w.heap.size w W2 := by rw [eW2]; exact ((Below.refl _ _).alloc (Nat.le_refl _) _).alloc (by simp) _
  rw [← eW2]
  have c0 := mb.cell 0
  have c1 := mb.cell 1
  simp at c0 c1
  clear eW2
  refine bodyPost_ret (v := .agg #[.string en, .slice (some ⟨w.heap.size + 1, 0, none⟩) 1 1]) (by simp [results, Tryz.results21, go_sem, c0, c1]; rfl) rfl ?_
  refine ⟨hb, some ⟨w.heap.size + 1, 0, none⟩, 1, rfl, some ⟨w.heap.size + 1, 0, none⟩, 1, rfl, Nat.le_refl _, fun i hi => ?_⟩
  have hi0 : i = 0 := by simpa using hi
  subst hi0
  refine ⟨w.heap.size + 1, 0, [.string hiK, .string helloT], rfl, Nat.le_succ _, me.lt, fun j u hj => ?_, rfl⟩
  rw [show 0 + 0 * Enc.ent.sz + j = j from by omega, me.cell j]; simpa using hj
theorem smallIn {w1 : World} {lo : Nat} {A : Option Addr} {c : Nat} (h : ListOk Enc.ent w1 lo w1.heap.size (.slice A 1 c) [⟨hiK, helloT⟩]) : BunsIn (w1.alloc (.cells #[.string en, .slice A 1 c] 24)) (.slice (some ⟨w1.heap.size, 0, none⟩) 1 1) [smallBun] := by
  refine ⟨⟨0, some ⟨w1.heap.size, 0, none⟩, 1, rfl, Nat.le_refl _, fun i hi => ?_⟩, by decide, fun b hb => ?_⟩
  · have hi0 : i = 0 := by simpa using hi
    subst hi0
    refine ⟨w1.heap.size, 0, [.string en, .slice A 1 c], rfl, Nat.zero_le _, by simp, fun j u hj => ?_, _, rfl, ?_⟩
    · rw [show 0 + 0 * Enc.bun.sz + j = j from by omega, (Blk.new w1 24 #[.string en, .slice A 1 c]).cell j]; simpa using hj
    · exact (h.below Enc.ent_laws ((Below.refl _ _).alloc (Nat.le_refl _) _)).mono Enc.ent_laws (Nat.zero_le _) (by simp)
  · rw [List.mem_singleton.1 hb]
    exact ⟨by decide +kernel, by decide +kernel, fun e he => by
      rw [List.mem_singleton.1 he]; exact ⟨by decide +kernel, by decide +kernel⟩⟩
end Go.Proofs.YtiaobgapfoogiaaGreatDoor
