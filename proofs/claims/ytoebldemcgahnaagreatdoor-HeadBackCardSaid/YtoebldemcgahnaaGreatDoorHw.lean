/- The laid variables of frames and disks together. -/
import Derived.Test.YtoebldemcgahnaaGreatDoorFf
import Derived.Test.YtoebldemcgahnaaGreatDoorDb
namespace Go.Proofs.YtoebldemcgahnaaGreatDoor
open Go.RowKit
/-- The laid variables of both packages. -/
structure HwW (w : World) (a0 a1 a2 aD aA : Addr) : Prop where
  f : FrW w a0 a1 a2
  d : DkW w aD aA
theorem HwW.below {w w' : World} {a0 a1 a2 aD aA : Addr} (h : HwW w a0 a1 a2 aD aA) (hb : Below w.heap.size w w') : HwW w' a0 a1 a2 aD aA := ⟨h.f.below hb, h.d.below hb⟩
end Go.Proofs.YtoebldemcgahnaaGreatDoor
