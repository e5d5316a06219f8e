/-
  DERIVED. GIVEN WITH THE SEED: THE CARDS: each row of YtkngpdmnpgoomaaGreatDoorRows.lean that lists a variable, with what it lists TIED to the program's text (the seventh form; the later family's looks); each row that meets fmt, with fmt's text TOLD by the authors' own Lean function (tested against real Go, not proved from fmt's source: count such statements apart). THE CARD IS WHAT COUNTS. Prove the row's statement (the work); the ties are given (YtkngpdmnpgoomaaGreatDoorTie.lean); close each card by the builder's one call (the guide's Derived/Test/ToyasCard.lean, 'card_holds'). Laid BY PROGRAM, IN A SANDBOX (cutbox-door.mjs). By AI agents, Wed Nov 11 2026. No macro, syntax, notation, axiom, sorry.
-/
import Derived.Test.YtkngpdmnpgoomaaGreatDoorRows
import GoSem.ClaimSeven
namespace Go.Proofs.YtkngpdmnpgoomaaGreatDoor
namespace Rows

/-- THE TIED CARD OF 'veneerlaw22.ReplicaWires'. -/
def replicaWiresCard : Claim7 := { stood := { row := replicaWiresRow, standIns := [], harness := (true, "509f83cf28425e2f2e9527d52e54c786e2c7d8fc5e309a3a91cc1f713c398696"), looks := true }, kinds := [], alts := [], laidByText := true, laidKinds := [.data, .handle], laidTests := true, laidLooks := .later }
def ReplicaWiresCardSaid : Prop := Claim7.holds Tryz.pinned (.plain (OpenSpec.ofChange replicaWiresSpec)) replicaWiresCard

/-- THE SECOND FORM's CARD OF 'veneerlaw22.ReplicaWires'. -/
def replicaWiresUptoCard : Claim7 := { stood := { row := replicaWiresUptoRow, standIns := [], harness := (true, "509f83cf28425e2f2e9527d52e54c786e2c7d8fc5e309a3a91cc1f713c398696"), looks := true }, kinds := [], alts := [], laidByText := true, laidKinds := [.data, .handle], laidTests := true, laidLooks := .later }
def ReplicaWiresUptoCardSaid : Prop := Claim7.holds Tryz.pinned (.plain (OpenSpec.upto replicaWiresSpec)) replicaWiresUptoCard
end Rows
end Go.Proofs.YtkngpdmnpgoomaaGreatDoor
