/- The walk of linguisterlaw4.differs. -/
import Derived.Test.YtiaobgapfoogiaaGreatDoorDiffOf
import Derived.Test.YtiaobgapfoogiaaGreatDoorDiffP
import Derived.Test.YtiaobgapfoogiaaGreatDoorSmall
set_option linter.unusedSimpArgs false
set_option linter.unusedVariables false
namespace Go.Proofs.YtiaobgapfoogiaaGreatDoor
open Go.RowKit Go.Maps

def byeBun : Bun := ⟨en, [⟨⟨#[98, 121, 101]⟩, ⟨#[120]⟩⟩]⟩
theorem d_fault : bothFault smallBun byeBun = 0 := by decide +kernel
theorem d_put : (diffPut smallBun.ents byeBun.ents).length = 1 := by decide +kernel
theorem d_gone : diffGone smallBun.ents byeBun.ents = [hiK] := by decide +kernel
theorem strs_own {w : World} {base : Nat} {v : Value} {l : List ByteArray} (h : w.ownsRow base 9 1 v l.length (l.map .string)) : ListOk Enc.str w base w.heap.size v l := ListOk.strs_of_own h (Nat.le_refl _) (Nat.le_refl _)
theorem bunIn_one {w : World} {lo : Nat} {A : Option Addr} {c : Nat} {t k x : ByteArray} (h : ListOk Enc.ent w lo w.heap.size (.slice A 1 c) [⟨k, x⟩]) (ht : t.size < 4294967281) (hk : k.size ≤ 9223372036854775807) (hx : x.size ≤ 9223372036854775807) : BunIn w ⟨t, [⟨k, x⟩]⟩ (.slice A 1 c) :=
  ⟨⟨lo, h⟩, ht, by show (1 : Nat) ≤ _; decide, fun e he => by rw [List.mem_singleton.1 he]; exact ⟨hk, hx⟩⟩
theorem ent_one (w : World) (k x : ByteArray) : ListOk Enc.ent (w.alloc (.cells #[.string k, .string x] 33)) w.heap.size (w.alloc (.cells #[.string k, .string x] 33)).heap.size (.slice (some ⟨w.heap.size, 0, none⟩) 1 1) [⟨k, x⟩] :=
  ⟨some ⟨w.heap.size, 0, none⟩, 1, rfl, Nat.le_refl _, fun i hi => by
    have hi0 : i = 0 := by simpa using hi
    subst hi0
    refine ⟨w.heap.size, 0, [.string k, .string x], rfl, Nat.le_refl _, by simp, fun j u hj => ?_, rfl⟩
    rw [show 0 + 0 * Enc.ent.sz + j = j from by omega, (Blk.new w 33 #[.string k, .string x]).cell j]; simpa using hj⟩

set_option maxHeartbeats 1600000 in
set_option maxRecDepth 100000 in
theorem differs_any (w : World) (hm : MaxVar w) : Calls Tryz.prog 7 #[] w fun e w' => e = .returned (.bool true) ∧ Below w.heap.size w w' := by
  have HM := Lib.hid hm
  have HSm := Lib.hid (small_any w)
  clear hm
  go_enter Tryz.func7, Tryz.ntmps7
  go_wp2_with fail
  refine HSm.out.mono ?_
  clear HSm
  rintro e w1 ⟨hb1, A1, c1, rfl, hl1⟩
  have hs1 := hb1.size
  have hba : Below w1.heap.size w1 (w1.alloc (.cells #[.string ⟨#[98, 121, 101]⟩, .string ⟨#[120]⟩] 33)) := (Below.refl _ _).alloc (Nat.le_refl _) _
  have hin1 : BunIn (w1.alloc (.cells #[.string ⟨#[98, 121, 101]⟩, .string ⟨#[120]⟩] 33)) smallBun (.slice A1 1 c1) :=
    bunIn_one ((hl1.below Enc.ent_laws hba).mono Enc.ent_laws (Nat.le_refl _) hba.size) (by decide +kernel) (by decide +kernel) (by decide +kernel)
  have hin2 : BunIn (w1.alloc (.cells #[.string ⟨#[98, 121, 101]⟩, .string ⟨#[120]⟩] 33)) byeBun (.slice (some ⟨w1.heap.size, 0, none⟩) 1 1) :=
    bunIn_one (ent_one w1 ⟨#[98, 121, 101]⟩ ⟨#[120]⟩) (by decide +kernel) (by decide +kernel) (by decide +kernel)
  have HB1 := Lib.hid (hb1.trans (hba.mono hs1))
  have HOf := Lib.hid (diffOf_any smallBun byeBun _ _ _ hin1 hin2 (HM.out.below HB1.out))
  have e1 : smallBun.tag = (⟨#[101, 110]⟩ : ByteArray) := rfl
  have e2 : byeBun.tag = (⟨#[101, 110]⟩ : ByteArray) := rfl
  rw [e1, e2] at HOf
  clear hb1 hl1 hba hin1 hin2 e1 e2
  go_wp2_with fail
  refine HOf.out.mono ?_
  clear HOf
  rintro e w2 ⟨hb2, ⟨hf, _⟩ | ⟨_, V, L, rfl, hV, hL⟩⟩
  · exact absurd d_fault hf
  · have HB2 := Lib.hid (HB1.out.trans (hb2.mono HB1.out.size))
    have hs2 := HB2.out.size
    rw [d_put] at hV
    rw [d_gone] at hL
    obtain ⟨AV, cV, rfl, _⟩ := own_slice hV
    obtain ⟨AL, cL, rfl, _⟩ := own_slice hL
    have HLl : Hid (∀ W, Below w2.heap.size w2 W → ListOk Enc.str W 0 w2.heap.size (.slice AL 1 cL) [hiK]) := Lib.hid fun W hW => ((strs_own (l := [hiK]) hL).below Enc.str_laws hW).mono Enc.str_laws (Nat.zero_le _) (Nat.le_refl _)
    have e3 : byeBun.tag = (⟨#[101, 110]⟩ : ByteArray) := rfl
    rw [e3]
    clear hb2 hV hL e3
    go_wp2_with fail
    obtain ⟨W3, eW3⟩ : ∃ W3, W3 = (w2.alloc (.cells #[.string ⟨#[101, 110]⟩, .slice AV 1 cV] 24)).alloc (.cells #[.string ⟨#[104, 105]⟩] 9) := ⟨_, rfl⟩
    have hb3 : Below w2.heap.size w2 W3 := by rw [eW3]; exact ((Below.refl _ _).alloc (Nat.le_refl _) _).alloc (by simp) _
    have mb : Blk W3 w2.heap.size 24 #[.string ⟨#[101, 110]⟩, .slice AV 1 cV] := by rw [eW3]; exact (Blk.new _ _ _).alloc _
    have mh : Blk W3 (w2.heap.size + 1) 9 #[.string hiK] := by
      rw [eW3]
      have := Blk.new (w2.alloc (.cells #[.string ⟨#[101, 110]⟩, .slice AV 1 cV] 24)) 9 #[.string hiK]
      rw [World.size_alloc] at this; exact this
    have hh : ListOk Enc.str W3 0 W3.heap.size (.slice (some ⟨w2.heap.size + 1, 0, none⟩) 1 1) [hiK] := ⟨some ⟨w2.heap.size + 1, 0, none⟩, 1, rfl, Nat.le_refl _, fun i hi => by
      have hi0 : i = 0 := by simpa using hi
      subst hi0
      refine ⟨w2.heap.size + 1, 0, [.string hiK], rfl, Nat.zero_le _, mh.lt, fun j u hj => ?_, rfl⟩
      rw [show 0 + 0 * Enc.str.sz + j = j from by omega, mh.cell j]; simpa using hj⟩
    have hT := texts_any (.slice AL 1 cL) _ [hiK] [hiK] 0 w2.heap.size 0 W3.heap.size W3 (HLl.out W3 hb3) hh (by decide) (by decide)
    rw [show decide ([hiK] = [hiK]) = true from by simp] at hT
    have HT := Lib.hid hT
    have HB3 := Lib.hid (HB2.out.trans (hb3.mono hs2))
    have k1 : ∀ n, (W3.drewN n).cell? ⟨w2.heap.size, 1, none⟩ = some (.slice AV 1 cV) := fun n => ((mb.drewN n).cell 1).trans (by simp)
    rw [← eW3]
    clear eW3 hb3 mb mh hh hT HLl
    refine HT.out.mono ?_
    clear HT
    rintro e w4 ⟨rfl, n, rfl⟩
    have k1n := k1 n
    go_wp2_with fail
    go_ret
    exact ⟨rfl, below_drewN HB3.out n⟩
end Go.Proofs.YtiaobgapfoogiaaGreatDoor
