/-
  The tied card of ReplicaWires: for every input the law returns true, and each argument reads behind the call as before it. Condition: the two package-level variables that the row lists start as the program's text lays them, which the card ties to that text.
-/
import Derived.Test.YtkngpdmnpgoomaaGreatDoorRow
import Derived.Test.YtkngpdmnpgoomaaGreatDoorFacts
import Derived.Test.YtkngpdmnpgoomaaGreatDoorFactH
namespace Go.Proofs.YtkngpdmnpgoomaaGreatDoor
open Go
set_option maxRecDepth 100000
theorem replicaWires_row : Rows.ReplicaWiresSaid :=
  OpenClaim.holds_of_wide 3 Tryz.f3 rfl rfl rfl rfl rfl rfl rfl ⟨rfl, rfl, rfl, rfl, rfl⟩ rfl rfl rfl rfl rfl row_num Tryz.func3 row_closed row_inst row_wrap
    (fun os started H enc _ => lifted os started H enc)
theorem replicaWires_card : Rows.ReplicaWiresCardSaid :=
  Claim7.holds_tied_plain_at .later [] [.data, .handle] true (true, "509f83cf28425e2f2e9527d52e54c786e2c7d8fc5e309a3a91cc1f713c398696") true
    replicaWires_row (fun _ h => by cases h) card_wf (fun _ h => by cases h) row_tie rfl ⟨rfl, rfl⟩ card_main rfl card_stands card_goes
#print axioms replicaWires_card
end Go.Proofs.YtkngpdmnpgoomaaGreatDoor
