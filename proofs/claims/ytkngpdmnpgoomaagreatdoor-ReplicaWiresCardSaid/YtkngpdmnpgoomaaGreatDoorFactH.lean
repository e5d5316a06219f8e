/-
  The closed facts of ReplicaWires' card, and the tie of its two listed variables. No condition.
-/
import Derived.Test.YtkngpdmnpgoomaaGreatDoorOwnTie
import Derived.Test.YtkngpdmnpgoomaaGreatDoorCards
import Derived.SevenTiedAt
namespace Go.Proofs.YtkngpdmnpgoomaaGreatDoor
open Go
set_option maxRecDepth 100000
theorem row_tie : Rows.replicaWiresRow.laidByTextAt .later Tryz.pinned [.data, .handle] true :=
  OpenClaim.laidByTextAt_later rfl rfl ownTie noOwnUnsafe
theorem card_wf : Rows.replicaWiresRow.wfByText (OpenSpec.ofChange Rows.replicaWiresSpec) = true := by kernel_rfl
theorem card_main : Tryz.pinned.checked.prog.mainIs = some (true, "509f83cf28425e2f2e9527d52e54c786e2c7d8fc5e309a3a91cc1f713c398696".toList) := by kernel_rfl
theorem card_num : Tryz.pinned.checked.prog.funcNamed Rows.replicaWiresRow.func = some 3 := by kernel_rfl
theorem card_looks : true = Tryz.pinned.checked.prog.looks [] := by kernel_rfl
theorem card_in30 : Tryz.pinned.checked.prog.wantsStandIn 30 = false := by kernel_rfl
theorem card_in31 : Tryz.pinned.checked.prog.wantsStandIn 31 = false := by kernel_rfl
theorem none_go : (Tryz.pinned.checked.prog.funcs.toList.all fun fn => !fn.goes) = true := by kernel_rfl
theorem no_go (P : Program) (h : (P.funcs.toList.all fun fn => !fn.goes) = true) (f : FuncId) : P.goes f = false := by
  have hone : ∀ fn ∈ P.funcs, fn.goes = false := fun fn hf => by
    have := List.all_eq_true.1 h fn (by simpa using hf)
    simpa using this
  unfold Program.goes
  have h1 : ((P.closure f).any fun g => (P.funcs[g]?).any Func.goes) = false := by
    rw [List.any_eq_false]
    intro g _ hg
    cases hq : P.funcs[g]? with
    | none => rw [hq] at hg; cases hg
    | some fn =>
      rw [hq] at hg
      have hgo : fn.goes = true := hg
      rw [hone fn (Array.mem_of_getElem? hq)] at hgo
      cases hgo
  have h2 : P.funcs.any Func.goes = false := by
    rw [Array.any_eq_false]
    intro i hi
    simp [hone _ (Array.getElem_mem hi)]
  rw [h1, h2]
  simp
theorem card_goes : false = Rows.replicaWiresRow.goesBy Tryz.pinned.checked.prog := by
  have hs : Rows.replicaWiresRow.start = .entering := rfl
  have hg := no_go _ none_go 3
  unfold OpenClaim.goesBy Program.goesAt Program.goesFrom
  rw [card_num, hs, Option.any_some, hg]
  rfl
theorem card_stands (f : FuncId) (fn : Func) (hf : Tryz.pinned.checked.prog.funcNamed Rows.replicaWiresRow.func = some f) (hfn : Tryz.pinned.checked.prog.funcs[f]? = some fn) :
    true = Tryz.pinned.checked.prog.looks [] ∧ ∀ (j : Nat) t, fn.params[j]? = some t → Tryz.pinned.checked.prog.wantsStandIn t = false := by
  obtain rfl : f = 3 := (Option.some.inj (card_num.symm.trans hf)).symm
  obtain rfl : fn = Tryz.f3 := (Option.some.inj (Tryz.func3.symm.trans hfn)).symm
  refine ⟨card_looks, fun j t ht => ?_⟩
  rw [Tryz.params3] at ht
  rcases j with _ | _ | j
  · obtain rfl : 30 = t := by simpa using ht
    exact card_in30
  · obtain rfl : 31 = t := by simpa using ht
    exact card_in31
  · simp at ht
end Go.Proofs.YtkngpdmnpgoomaaGreatDoor
