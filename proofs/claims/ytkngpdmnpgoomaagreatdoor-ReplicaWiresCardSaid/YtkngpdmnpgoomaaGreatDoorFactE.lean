/-
  Closed facts of ReplicaWires' row. No condition.
-/
import Derived.Test.YtkngpdmnpgoomaaGreatDoorRows
import Derived.JoinedOf
import Derived.ProofKit
namespace Go.Proofs.YtkngpdmnpgoomaaGreatDoor
open Go.ChangeShapes Go.WideShapes Go.ChangeAt Go.RowKit
set_option maxRecDepth 100000
theorem jf2 : (mapsRowed Tryz.pinned.checked.prog) = true := by kernel_rfl
end Go.Proofs.YtkngpdmnpgoomaaGreatDoor
