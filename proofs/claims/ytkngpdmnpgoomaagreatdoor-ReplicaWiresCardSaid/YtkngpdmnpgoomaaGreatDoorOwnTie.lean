/-
  What ReplicaWires' row lists of two package-level variables is tied to the program's own text: ten closed facts, each apart. No condition.
-/
import Derived.Test.YtkngpdmnpgoomaaGreatDoorRows
import Derived.LaidByTextLater
import Derived.SevenTiedAt
namespace Go.Proofs.YtkngpdmnpgoomaaGreatDoor
open Go
abbrev laidL : List (String × DataW Unit) := [("veneer/sha.rounds", Rows.laid_veneer_sha_rounds), ("errors.errorType", Rows.laid_errors_errorType)]
theorem own1 : Tryz.prog.worded (varsWordLater true) = true := by kernel_rfl
theorem own2 : Tryz.prog.worded (varsWordLater !true) = false := by kernel_rfl
theorem own3 : Tryz.prog.worded rootWordLater = true := by kernel_rfl
theorem own4 : laidL.map (fun x => Tryz.prog.kindOfLater x.1) = [LaidKind.data, LaidKind.handle].map some := by kernel_rfl
theorem own5 : (Tryz.prog.funcNamed "gosem.cut.vars").isSome = true := by kernel_rfl
theorem own6 : varsNamedLaterB Tryz.prog (varsId Tryz.prog) laidL = true := by kernel_rfl
theorem own7 : ∀ os tape, varsDone Tryz.prog 400 (varsId Tryz.prog) os tape = true := fun _ _ => by kernel_rfl
theorem own8 : ∀ os tape, (DataW.laidRun Tryz.prog (varsWorld Tryz.prog 400 (varsId Tryz.prog) os tape).memory 8 ((laidL.filter fun x => x.2.handleName?.isNone).map (·.1))).map (·.1) = some (laidL.filter fun x => x.2.handleName?.isNone) := fun _ _ => by kernel_rfl
theorem own9 : ∀ os tape, (DataW.laidRun Tryz.prog (varsWorld Tryz.prog 400 (varsId Tryz.prog) os tape).memory 8 ((laidL.filter fun x => x.2.handleName?.isNone).map (·.1))).map (fun x => decide x.2.Nodup && laidRowsB Tryz.prog (varsWorld Tryz.prog 400 (varsId Tryz.prog) os tape).memory x.2) = some true := fun _ _ => by kernel_rfl
theorem own10 : ∀ os tape, (laidL.filter fun x => x.2.handleName?.isSome).all (handleAtB Tryz.prog (varsWorld Tryz.prog 400 (varsId Tryz.prog) os tape).memory) = true := fun _ _ => by kernel_rfl
theorem ownTie : Tryz.prog.laidByTextLater laidL [.data, .handle] true := Program.laidByTextLater_by_run_h 400 8 own1 own2 own3 own4 own5 own6 own7 own8 own9 own10
theorem noOwnUnsafe : Tryz.pinned.checked.prog.headLifts.contains "ownunsafe" = false := by kernel_rfl
end Go.Proofs.YtkngpdmnpgoomaaGreatDoor
