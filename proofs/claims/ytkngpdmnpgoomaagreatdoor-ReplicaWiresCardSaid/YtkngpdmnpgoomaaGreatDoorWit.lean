/-
  The world that the listed variables' own initialisers leave meets the row's condition on them. No condition.
-/
import Derived.Test.YtkngpdmnpgoomaaGreatDoorRows
import Derived.ProofKit
import Derived.LaidMore
import Derived.OpenShut
import Derived.Stop.Joined
namespace Go.Proofs.YtkngpdmnpgoomaaGreatDoor
open Go.ChangeShapes Go.WideShapes Go.ChangeAt Go.RowKit
theorem Tryz.own : ownKnob Tryz.prog.godebug = none := by kernel_rfl
theorem Tryz.laidOut : laidOutB Tryz.prog = true := by kernel_rfl
abbrev laidR : List (String × DataW Unit) := [("veneer/sha.rounds", Rows.laid_veneer_sha_rounds), ("errors.errorType", Rows.laid_errors_errorType)]
theorem dm1 (os : Os) (args : Array Value) : laidMet Tryz.prog (laidR.filter fun x => x.2.handleName?.isNone) ((World.doorLaid Tryz.prog 400 os).forCall (fun _ _ => 0) ⟨#[], args, []⟩).memory := laidMet_of_run' 8 (by kernel_rfl) (by kernel_rfl)
theorem door_met (os : Os) (args : Array Value) : laidMetH Tryz.prog laidR ((World.doorLaid Tryz.prog 400 os).forCall (fun _ _ => 0) ⟨#[], args, []⟩).memory :=
  laidMetH_of_parts3 (fuel := 8) (dm1 os args) (by kernel_rfl) (by kernel_rfl)
end Go.Proofs.YtkngpdmnpgoomaaGreatDoor
