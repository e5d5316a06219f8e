/-
  The law's first call, awake, answers true in every world. No condition.
-/
import Derived.Test.YtkngpdmnpgoomaaGreatDoorEnv
/-! WRun -/
namespace Go.Proofs
open Go.Det
set_option maxRecDepth 1000000
theorem awakes : closedA En 4 70000 = some (.lit (.bool true)) := by kernel_rfl
theorem awake_calls (w : World) : Calls Tryz.prog 4 #[] w fun e w' => e = .returned (.bool true) ∧ Kept w.heap.size w w' := calls_closed envOk awakes w
end Go.Proofs
