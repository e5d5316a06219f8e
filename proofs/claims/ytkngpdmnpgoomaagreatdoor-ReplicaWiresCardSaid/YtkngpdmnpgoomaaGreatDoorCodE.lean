/-
  Equal messages are told the same. Conditions: the bounds that each contract states.
-/
import Derived.Test.YtkngpdmnpgoomaaGreatDoorCodC
import Derived.Test.YtkngpdmnpgoomaaGreatDoorCodB
import Derived.ChangeKeysEq
/-! D1 -/
namespace Go.Proofs
open Go.RowKit Go.Wires
set_option maxHeartbeats 8000000
set_option maxRecDepth 100000
theorem sameEntries_spec (w : World) (l : List Entx) (ev ev' : Value) (hl : l.length ≤ 1000) (hE : Row w ev l.length (entCells l)) (hE' : Row w ev' l.length (entCells l)) : Calls Tryz.prog 35 #[ev, ev'] w fun e w' =>
    e = .returned (.bool true) ∧ Fr none' w w' := by
  obtain ⟨ao, cap, rfl, hcap⟩ := hE.shape
  obtain ⟨ao', cap', rfl, hcap'⟩ := hE'.shape
  go_enter Tryz.func35, Tryz.ntmps35
  go_wp2_with fail
  go_loopw [5] (fun u5 w3 => ∃ (i : Nat), i ≤ l.length ∧ u5 = .int .i64 (i : Nat) ∧ Fr none' w w3) (fun i _ => l.length - (intOf i).toNat)
  case atStart => exact ⟨0, by omega, rfl, Fr.refl _ _⟩
  case round =>
    obtain ⟨i, hi, rfl, hT⟩ := hrel
    by_cases hin : i < l.length
    · obtain ⟨en, hen⟩ : ∃ en, l[i]? = some en := ⟨l[i], by simp [hin]⟩
      obtain ⟨b, off, rfl, -⟩ := hE.at (by omega)
      obtain ⟨b', off', rfl, -⟩ := hE'.at (by omega)
      have hc := ent_cells hE hT hen (by omega)
      have hc' := ent_cells hE' hT hen (by omega)
      have x0 : wr.cell? ⟨b, off + i * 8, none⟩ = _ := hc 0 _ rfl
      have x1 := hc 1 _ rfl
      have x2 := hc 2 _ rfl
      have x3 := hc 3 _ rfl
      have x4 := hc 4 _ rfl
      have x5 := hc 5 _ rfl
      have x6 := hc 6 _ rfl
      have x7 := hc 7 _ rfl
      have y0 : wr.cell? ⟨b', off' + i * 8, none⟩ = _ := hc' 0 _ rfl
      have y1 := hc' 1 _ rfl
      have y2 := hc' 2 _ rfl
      have y3 := hc' 3 _ rfl
      have y4 := hc' 4 _ rfl
      have y5 := hc' 5 _ rfl
      have y6 := hc' 6 _ rfl
      have y7 := hc' 7 _ rfl
      clear hc hc' hE hE' hen
      go_wp2_with (first | go_region)
      refine ⟨⟨i + 1, by omega, by simp, hT.trans (Fr.drew _ _)⟩, ?_⟩
      simp [intOf]; omega
    · obtain rfl : i = l.length := by omega
      go_wp2_with fail
      go_returns
      exact ⟨rfl, hT⟩
theorem sameRes_spec (w : World) (r : Resx) (nv nv' : Value) (hl : r.names.length ≤ 9223372036854775807) (hN : Row w nv r.names.length (strs r.names)) (hN' : Row w nv' r.names.length (strs r.names)) : Calls Tryz.prog 36 #[r.val nv, r.val nv'] w fun e w' =>
    e = .returned (.bool true) ∧ Fr none' w w' := by
  obtain ⟨code, dir, size, data, N⟩ := r
  simp only at hl hN hN'
  simp only [Resx.val]
  obtain ⟨ao, cap, rfl, hcap⟩ := hN.shape
  obtain ⟨ao', cap', rfl, hcap'⟩ := hN'.shape
  have hA := two_old w (.cells #[.int .i64 code, .bool dir, .int .i64 size, .string ⟨⟨data⟩⟩, .slice ao N.length cap] 28) (.cells #[.int .i64 code, .bool dir, .int .i64 size, .string ⟨⟨data⟩⟩, .slice ao' N.length cap'] 28)
  have hB := two_new w (.cells #[.int .i64 code, .bool dir, .int .i64 size, .string ⟨⟨data⟩⟩, .slice ao N.length cap] 28) (.cells #[.int .i64 code, .bool dir, .int .i64 size, .string ⟨⟨data⟩⟩, .slice ao' N.length cap'] 28)
  have hT0 : Fr none' w ((w.alloc (.cells #[.int .i64 code, .bool dir, .int .i64 size, .string ⟨⟨data⟩⟩, .slice ao N.length cap] 28)).alloc (.cells #[.int .i64 code, .bool dir, .int .i64 size, .string ⟨⟨data⟩⟩, .slice ao' N.length cap'] 28)) := (Fr.alloc none' _ _).trans (Fr.alloc none' _ _)
  obtain ⟨c0, c1, c2, c3, c4⟩ := cells5 hA
  obtain ⟨d0, d1, d2, d3, d4⟩ := cells5 hB
  have HA : Hid _ := hA
  have HB : Hid _ := hB
  have HT : Hid _ := hT0
  clear hA hB hT0
  go_enter Tryz.func36, Tryz.ntmps36
  go_wp2_with fail
  go_loopw [5] (fun u5 w3 => ∃ (i : Nat), i ≤ N.length ∧ u5 = .int .i64 (i : Nat) ∧ Fr none' ((w.alloc (.cells #[.int .i64 code, .bool dir, .int .i64 size, .string ⟨⟨data⟩⟩, .slice ao N.length cap] 28)).alloc (.cells #[.int .i64 code, .bool dir, .int .i64 size, .string ⟨⟨data⟩⟩, .slice ao' N.length cap'] 28)) w3) (fun i _ => N.length - (intOf i).toNat)
  case atStart => exact ⟨0, by omega, rfl, Fr.refl _ _⟩
  case round =>
    clear c0 c1 c2 c3 c4 d0 d1 d2 d3 d4
    obtain ⟨i, hi, rfl, hT⟩ := hrel
    obtain ⟨c0, c1, c2, c3, c4⟩ := cells5 (hT.heap HA.out (fun h => h))
    obtain ⟨d0, d1, d2, d3, d4⟩ := cells5 (hT.heap HB.out (fun h => h))
    by_cases hin : i < N.length
    · obtain ⟨b, off, rfl, hc⟩ := (hN.fr (HT.out.trans hT) (fun _ _ _ h => h)).at (by omega)
      obtain ⟨b', off', rfl, hc'⟩ := (hN'.fr (HT.out.trans hT) (fun _ _ _ h => h)).at (by omega)
      have x0 := hc i (.string ⟨⟨N[i]⟩⟩) (by simp [strs, hin])
      have y0 := hc' i (.string ⟨⟨N[i]⟩⟩) (by simp [strs, hin])
      clear hc hc'
      go_wp2_with (first | go_region)
      refine ⟨⟨i + 1, by omega, by simp, hT.trans (Fr.drew _ _)⟩, ?_⟩
      simp [intOf]; omega
    · obtain rfl : i = N.length := by omega
      go_wp2_with fail
      go_returns
      exact ⟨rfl, HT.out.trans hT⟩
end Go.Proofs

/-! D2 -/
namespace Go.Proofs
open Go.RowKit Go.Wires
set_option maxHeartbeats 8000000
set_option maxRecDepth 100000
theorem Tryz.cells5' : Tryz.prog.cellsOf 5 = 1 := by kernel_rfl
theorem eq_bytes (w : World) (d : Nat) (X : List UInt8) : ∀ (is : List Nat), (∀ i ∈ is, i < X.length) → (Op.eqItems (d + 1) 5 1 (bvs X).toArray (bvs X).toArray is).run Tryz.prog w = .ok true w
  | [], _ => by simp [Op.eqItems]
  | i :: is, h => by
    have hi := h i (by simp)
    have ih := eq_bytes w d X is (fun j hj => h j (by simp [hj]))
    have hget : (bvs X).toArray[i]? = some (.int .u8 ((X[i]).toNat : Int)) := by
      have := bvs_get (List.getElem?_eq_getElem hi)
      simpa [bv] using this
    have hp : (part 5 (bvs X).toArray (i * 1)).run Tryz.prog w = .ok (.int .u8 ((X[i]).toNat : Int)) w := by
      rw [Nat.mul_one]
      simp [part, isAgg, run_underlying Tryz.underlying5, hget]
    have he : (Op.equalIn (d + 1) 5 (.int .u8 ((X[i]).toNat : Int)) (.int .u8 ((X[i]).toNat : Int))).run Tryz.prog w = .ok true w := by
      rw [run_equalIn_int w d 5 .u8 .u8 _ _ Tryz.underlying5]; simp
    simp only [Op.eqItems, Sem.run_bind, hp, he, Result.andThen_ok]
    simpa using ih
theorem eq23 (w : World) (X : List UInt8) (h : X.length = 32) : (Op.equalIn 10000 23 (.agg (bvs X).toArray) (.agg (bvs X).toArray)).run Tryz.prog w = .ok true w := by
  obtain ⟨i, hi, _⟩ := info_parts Tryz.info5
  rw [show (10000 : Nat) = 9999 + 1 from rfl, run_equalIn_array (P := Tryz.prog) w 9999 (n := 32) (e := 5) _ _ Tryz.underlying23 hi, Tryz.cells5']
  exact eq_bytes w 9998 X (List.range 32) (fun j hj => by rw [h]; simpa using hj)
theorem neq23 (w : World) (X : List UInt8) (h : X.length = 32) : (binOp .neq 23 (.agg (bvs X).toArray) (.agg (bvs X).toArray)).run Tryz.prog w = .ok (.bool false) w := by
  rw [run_neq_struct, eq23 w X h]; rfl
end Go.Proofs

/-! D3 -/
namespace Go.Proofs
open Go.RowKit Go.Wires
set_option maxHeartbeats 8000000
set_option maxRecDepth 100000
theorem load23g {w : World} {ops : Array Oper} {rest : List Oper} {o : Oper} {a : Act} {Q : Exit → Act → World → Prop} (x : Operand) (ho : o.op = .load 23 x) (hwt : Region.wanted o (yielded ops a.tmps) = true)
    (b off : Nat) (hx : a.eval x = .pointer (some ⟨b, off, none⟩)) (cs : List Value) (hn : cs.length = 32) (hc : ∀ j u, cs[j]? = some u → w.cell? ⟨b, off + j, none⟩ = some u)
    (h : wpList Tryz.prog ops Q rest (a.put o.dst (.agg cs.toArray)) w) : wpList Tryz.prog ops Q (o :: rest) a w := by
  refine wpList_step fun K hK => ?_
  rw [if_pos hwt]
  have hl := run_loadCells_list (P := Tryz.prog) w ⟨b, off, none⟩ cs (fun j u hu => by rw [Addr.add_lit]; exact hc j u hu)
  rw [hn] at hl
  unfold Oper.wp execOp
  simp only [ho, hx, Instr.loadAt, Instr.sureAddr, loadVar, Sem.run_bind, Sem.run_pure, Result.andThen_ok, agg23, size23, hl, if_true]
  exact hK _ _ h
theorem sameMsg_spec (w : World) (m : Msgx) (ev nv ev' nv' : Value) (hw : m.wf) (hE : Row w ev m.entries.length (entCells m.entries)) (hE' : Row w ev' m.entries.length (entCells m.entries))
    (hN : Row w nv m.res.names.length (strs m.res.names)) (hN' : Row w nv' m.res.names.length (strs m.res.names)) : Calls Tryz.prog 8 #[.agg (m.cells ev nv).toArray, .agg (m.cells ev' nv').toArray] w fun e w' =>
    e = .returned (.bool true) ∧ Fr none' w w' := by
  obtain ⟨ao, cap, rfl, hcap⟩ := hE.shape
  obtain ⟨ao', cap', rfl, hcap'⟩ := hE'.shape
  have hA := two_old w (.cells (m.cells (.slice ao m.entries.length cap) nv).toArray 30) (.cells (m.cells (.slice ao' m.entries.length cap') nv').toArray 30)
  have hB := two_new w (.cells (m.cells (.slice ao m.entries.length cap) nv).toArray 30) (.cells (m.cells (.slice ao' m.entries.length cap') nv').toArray 30)
  have hT0 : Fr none' w ((w.alloc (.cells (m.cells (.slice ao m.entries.length cap) nv).toArray 30)).alloc (.cells (m.cells (.slice ao' m.entries.length cap') nv').toArray 30)) := (Fr.alloc none' _ _).trans (Fr.alloc none' _ _)
  have HA : Hid _ := hA
  have HB : Hid _ := hB
  have HT : Hid _ := hT0
  have heq := fun w => eq23 w m.root hw.root
  obtain ⟨c0, c1, c2, c3, c4, c5, c6, c7, cR, c40, c41, c42, c43, c44, c45, c46⟩ := msg_facts hw.root hA
  obtain ⟨d0, d1, d2, d3, d4, d5, d6, d7, dR, d40, d41, d42, d43, d44, d45, d46⟩ := msg_facts hw.root hB
  clear hA hB hT0
  go_enter Tryz.func8, Tryz.ntmps8
  go_wp2_with (first
    | (refine load23g (.tmp 60) rfl (by rfl) w.heap.size 8 rfl (bvs m.root) (by rw [bvs_length]; exact hw.root) cR ?_)
    | (refine load23g (.tmp 62) rfl (by rfl) (w.heap.size + 1) 8 rfl (bvs m.root) (by rw [bvs_length]; exact hw.root) dR ?_)
    | (go_at_call 35; refine (sameEntries_spec _ m.entries _ _ hw.len (hE.fr HT.out (fun _ _ _ h => h)) (hE'.fr HT.out (fun _ _ _ h => h))).mono ?_; rintro e w2 ⟨rfl, hF⟩; obtain ⟨c0, c1, c2, c3, c4, c5, c6, c7, cR, c40, c41, c42, c43, c44, c45, c46⟩ := msg_facts hw.root (hF.heap HA.out (fun h => h)); obtain ⟨d0, d1, d2, d3, d4, d5, d6, d7, dR, d40, d41, d42, d43, d44, d45, d46⟩ := msg_facts hw.root (hF.heap HB.out (fun h => h)))
    | (go_at_call 36; refine (sameRes_spec _ m.res _ _ hw.res.names (hN.fr (HT.out.trans hF) (fun _ _ _ h => h)) (hN'.fr (HT.out.trans hF) (fun _ _ _ h => h))).mono ?_; rintro e w3 ⟨rfl, hF3⟩))
  go_returns
  exact ⟨rfl, (HT.out.trans hF).trans hF3⟩
end Go.Proofs
