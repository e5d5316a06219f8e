/-
  ReplicaWires' row, lifted: for every input the law returns true, and each argument reads behind the call as before it. Condition: the two listed package-level variables read as the row lists them (the row's own cell).
-/
import Derived.Test.YtkngpdmnpgoomaaGreatDoorWit
import Derived.Test.YtkngpdmnpgoomaaGreatDoorOpen
namespace Go.Proofs.YtkngpdmnpgoomaaGreatDoor
set_option maxRecDepth 100000
open Go.ChangeShapes Go.WideShapes Go.ChangeAt Go.RowKit Go.Wires Go.Proofs
theorem _root_.Go.Wires.Fr.below {W W' : World} (h : Fr none' W W') : Below W.heap.size W { W' with tape := W.tape } := ⟨h.os, rfl, h.out, h.size, fun k hk => h.block k hk (fun h => h)⟩
theorem _root_.Go.Wires.Fr.kept {W W' : World} (h : Fr none' W W') (may : MemPlace → Prop) : W.keptBut W' may := h.below.frame may
theorem _root_.Go.Wires.Fr.same {W W' : World} (h : Fr none' W W') {p : MemPlace} (hp : p.block < W.heap.size) : W.sameAt W' p := h.below.same hp
theorem readRec30 : Tryz.prog.readableRec 30 = true := by kernel_rfl
theorem readRec31 : Tryz.prog.readableRec 31 = true := by kernel_rfl
theorem types3031 : 30 < Tryz.prog.types.size ∧ 31 < Tryz.prog.types.size := of_decide_eq_true (by kernel_rfl)
theorem noInit3 : Tryz.prog.inits.idxOf? 3 = none := by kernel_rfl
noncomputable abbrev args0 : Array Value := #[.agg #[.int .i64 0, .int .i64 0, .int .i64 0, .int .i64 0, .int .i64 0, .int .i64 0, .int .i64 0, .int .i64 0, .int .u8 0, .int .u8 0, .int .u8 0, .int .u8 0, .int .u8 0, .int .u8 0, .int .u8 0, .int .u8 0, .int .u8 0, .int .u8 0, .int .u8 0, .int .u8 0, .int .u8 0, .int .u8 0, .int .u8 0, .int .u8 0, .int .u8 0, .int .u8 0, .int .u8 0, .int .u8 0, .int .u8 0, .int .u8 0, .int .u8 0, .int .u8 0, .int .u8 0, .int .u8 0, .int .u8 0, .int .u8 0, .int .u8 0, .int .u8 0, .int .u8 0, .int .u8 0, .slice none 0 0, .string ⟨⟨[]⟩⟩, .int .i64 0, .bool false, .int .i64 0, .string ⟨⟨[]⟩⟩, .slice none 0 0], .slice none 0 0]
theorem w1 (os : Os) : ((World.doorLaid Tryz.prog 400 os).forCall (fun _ _ => 0) ⟨#[], args0, []⟩).Shaped Tryz.prog := World.shaped_of_RefB (by kernel_rfl) (by kernel_rfl)
theorem w2 (os : Os) : Input.okWideB Tryz.prog ((World.doorLaid Tryz.prog 400 os).forCall (fun _ _ => 0) ⟨#[], args0, []⟩) 3 ⟨#[], args0, []⟩ = true := by kernel_rfl
theorem w3 (os : Os) (H : Type) (enc : TypeId × Value → H) : Rows.replicaWiresSpec.preB enc Tryz.prog Tryz.f3 [] false ((World.doorLaid Tryz.prog 400 os).forCall (fun _ _ => 0) ⟨#[], args0, []⟩).memory args0 8 = true := by kernel_rfl
theorem w4 (os : Os) (H : Type) (enc : TypeId × Value → H) : Rows.replicaWiresSpec.sizedB enc Tryz.prog Tryz.f3 false ((World.doorLaid Tryz.prog 400 os).forCall (fun _ _ => 0) ⟨#[], args0, []⟩).memory args0 8 = true := by kernel_rfl
theorem lifted (os : Os) (started : os.Started) (H : Type) (enc : TypeId × Value → H) :
    ReturnsInHanded {} Tryz.checked os 3 .any (fun w args => (Rows.replicaWiresSpec.pre enc Tryz.prog Tryz.f3 [] false w args ∧ laidMetH Tryz.prog laidR w) ∧ sizedMet enc Tryz.prog Tryz.f3 (OpenSpec.ofChange Rows.replicaWiresSpec) false w args)
      (Rows.replicaWiresSpec.post enc Tryz.prog Tryz.f3 false true false false) := by
  refine returnsInHanded_of_change_and (C := Tryz.checked) (X := fun w _ => laidMetH Tryz.prog laidR w) (fun _ _ _ hh h => h.of_heap hh) Tryz.own started noInit3 Tryz.func3
    (ChangeSpec.witness_shaped (enc := enc) (C := Tryz.checked) (os := os) (X := fun w _ => laidMetH Tryz.prog laidR w) false (World.doorLaid Tryz.prog 400 os) args0 8 rfl (w1 os) (w2 os) (w3 os H enc) (w4 os H enc) (door_met os _)) ?_
  intro W base args ds gs before hval0 hW _ _ hL _
  have hval : ∀ (j : Nat) t v, Tryz.f3.params[j]? = some t → args[j]? = some v → Value.okWide Tryz.prog W .any base t v := hval0
  have hW' := hW
  obtain ⟨p, q, hA0, hV, rfl, hfz, hnd⟩ := hW
  have hA : DataW.TrodAll enc Tryz.prog W 0 (fun _ => true) true Tryz.f3.params.toList args.toList ds p := hA0
  rw [Tryz.params3] at hA hval
  obtain ⟨v0, v1, d0, d1, p0, p1, rfl, rfl, rfl, h0, h1⟩ := trodAll_two hA
  obtain ⟨rfl, rfl⟩ := trodVars_none hV
  clear hA0 hval0
  simp only [List.append_nil] at hW'
  have hlt : ∀ x ∈ p0 ++ p1, x.block < W.heap.size := fun x hx => by simpa using hW'.lt x (by simpa using hx)
  refine (wires_post (hval 0 30 v0 rfl rfl) (hval 1 31 v1 rfl rfl) h0 h1).mono fun e W' ⟨he, hF⟩ => ?_
  subst he
  have a0 := WideElems.Trod_stays Tryz.laidOut readRec30 types3031.1 h0 (fun x hx => hF.same (hlt x (by simp [hx]))) (fun x hx => by simpa using hlt x (by simp [hx])) (sp' := fun b => decide (b < W.heap.size))
  have a1 := WideElems.Trod_stays Tryz.laidOut readRec31 types3031.2 h1 (fun x hx => hF.same (hlt x (by simp [hx]))) (fun x hx => by simpa using hlt x (by simp [hx])) (sp' := fun b => decide (b < W.heap.size))
  exact ⟨_, rfl, [d0, d1], [], p0 ++ p1, [], p0 ++ p1, [], hW', trodAll_mk1 (shut_bool Tryz.underlying4 true), trodAll_mk2 a0 a1, rfl, hF.kept _, fun h => by cases h⟩

theorem row_num : Tryz.pinned.checked.prog.funcNamed Rows.replicaWiresRow.func = some 3 := by kernel_rfl
theorem row_inst : Tryz.f3.isInstance Tryz.pinned.checked.prog Rows.replicaWiresRow.origin Rows.replicaWiresRow.targs := of_decide_eq_true (by kernel_rfl)
theorem row_wrap : Tryz.f3.isWrapper Tryz.pinned.checked.prog Rows.replicaWiresRow.wrapper Rows.replicaWiresRow.mainSum := by unfold Func.isWrapper; rw [if_neg (of_decide_eq_false (by kernel_rfl))]; exact ⟨rfl, rfl⟩
abbrev sp := OpenSpec.ofChange Rows.replicaWiresSpec
end Go.Proofs.YtkngpdmnpgoomaaGreatDoor
