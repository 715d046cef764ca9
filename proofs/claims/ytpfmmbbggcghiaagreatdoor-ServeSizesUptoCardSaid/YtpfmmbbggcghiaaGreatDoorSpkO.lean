/- (*speaker).one: one node said. -/
import Derived.Test.YtpfmmbbggcghiaaGreatDoorSpkP
import Derived.Deep.RegionHeld3
import Derived.Deep.Cut
namespace Go.Proofs.YtpfmmbbggcghiaaGreatDoor
open Go.RowKit
structure SayW (B:Nat) (mb n:Nat) (f:ByteArray→Option ArgV) (w:World):Prop where
 ev:∀ W,Below B w W→EvV W
 own:∀ W,Below B w W→OwnsV W mb n (fun s=>(f s).map ArgV.val)
theorem SayW.on {B mb n:Nat} {f:ByteArray→Option ArgV} {w w':World} (h:SayW B mb n f w) (hb:Below B w w'):SayW B mb n f w':=⟨fun W hW=>h.ev W (hb.trans hW),fun W hW=>h.own W (hb.trans hW)⟩
end Go.Proofs.YtpfmmbbggcghiaaGreatDoor
