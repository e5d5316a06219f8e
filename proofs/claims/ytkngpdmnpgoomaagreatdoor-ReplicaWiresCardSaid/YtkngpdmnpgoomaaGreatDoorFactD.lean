/-
  A closed fact of ReplicaWires' row. No condition.
-/
import Derived.Test.YtkngpdmnpgoomaaGreatDoorRows
import Derived.JoinedOf
import Derived.ProofKit
namespace Go.Proofs.YtkngpdmnpgoomaaGreatDoor
open Go.ChangeShapes Go.WideShapes Go.ChangeAt Go.RowKit
set_option maxRecDepth 100000
theorem jf12 : ((Rows.replicaWiresRow.named == Tryz.pinned.checked.prog.varsNamed 3)) = true := by kernel_rfl
end Go.Proofs.YtkngpdmnpgoomaaGreatDoor
