/- linguisterlaw5.PropOwn, with pack.Encode. -/
import Derived.Test.YtoneheloojlifaaGreatDoorPropOwn
import Derived.Test.YtoneheloojlifaaGreatDoorPackN
namespace Go.Proofs.YtoneheloojlifaaGreatDoor
open Go.RowKit

theorem propOwn_any (b : Bun) (v : Value) (s x : ByteArray) (w : World) (h : BunIn w b v) (hs : s.size ≤ 100000000) (hm : MaxVar w) (hE : ErrVar w) :
    Calls Tryz.prog 6 #[.agg #[.string b.tag, v], .string s, .string x] w fun e w' => e = .returned (.bool true) ∧ Below w.heap.size w w' :=
  propOwn_gen b v s x w h hs hm hE (Lib.hid fun W V hW hV => by
    refine (encode_any b V W hV (hm.below hW)).mono ?_
    rintro e w' ⟨hb, ⟨hf, rfl⟩ | ⟨h0, u, rfl, hu⟩⟩
    · exact ⟨hb, none, 0, 0, rfl, fun _ => hf, fun _ => rfl⟩
    · obtain ⟨A, c, rfl, _⟩ := own_slice hu
      refine ⟨hb, A, _, c, by rw [h0]; rfl, fun h => ?_, fun h => absurd h0 h⟩
      have := bytes_len b
      omega)
end Go.Proofs.YtoneheloojlifaaGreatDoor
