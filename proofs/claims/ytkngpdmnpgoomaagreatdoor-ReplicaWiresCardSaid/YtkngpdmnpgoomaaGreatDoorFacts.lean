/-
  The closed facts of ReplicaWires' row together. No condition.
-/
import Derived.Test.YtkngpdmnpgoomaaGreatDoorWit
import Derived.Test.YtkngpdmnpgoomaaGreatDoorFactA
import Derived.Test.YtkngpdmnpgoomaaGreatDoorFactB
import Derived.Test.YtkngpdmnpgoomaaGreatDoorFactC
import Derived.Test.YtkngpdmnpgoomaaGreatDoorFactD
import Derived.Test.YtkngpdmnpgoomaaGreatDoorFactE
import Derived.Test.YtkngpdmnpgoomaaGreatDoorFactF
import Derived.Test.YtkngpdmnpgoomaaGreatDoorFactG
namespace Go.Proofs.YtkngpdmnpgoomaaGreatDoor
open Go.ChangeShapes Go.WideShapes Go.ChangeAt Go.RowKit
set_option maxRecDepth 100000
theorem jf1 : (laidOutB Tryz.pinned.checked.prog) = true := Tryz.laidOut
theorem and2 {a b : Bool} (h : a = true) (k : b = true) : (a && b) = true := by rw [h, k]; rfl
theorem row_closed : joinedFacts Tryz.pinned.checked.prog 3 Tryz.f3 Rows.replicaWiresSpec Rows.replicaWiresRow = true := by
  unfold joinedFacts
  exact (and2 (and2 (and2 (and2 (and2 (and2 (and2 (and2 (and2 (and2 (and2 (and2 (and2 (and2 (and2 (and2 (and2 (and2 (and2 (and2 (and2 (and2 (and2 (and2 (and2 (and2 (and2 (and2 (and2 (and2 (and2 jf0 jf1) jf2) jf3) jf4) jf5) jf6) jf7) jf8) jf9) jf10) jf11) jf12) jf13) jf14) jf15) jf16) jf17) jf18) jf19) jf20) jf21) jf22) jf23) jf24) jf25) jf26) jf27) jf28) jf29) jf30) jf31)
end Go.Proofs.YtkngpdmnpgoomaaGreatDoor
