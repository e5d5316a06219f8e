/-
  ReplicaWires walked, within its guards. Conditions: the message is well formed and lies in memory.
-/
import Derived.Test.YtkngpdmnpgoomaaGreatDoorCodG
import Derived.Test.YtkngpdmnpgoomaaGreatDoorCodH
import Derived.Test.YtkngpdmnpgoomaaGreatDoorLaw
import Derived.Test.YtkngpdmnpgoomaaGreatDoorCodC
import Derived.Test.YtkngpdmnpgoomaaGreatDoorCodE
import Derived.Test.YtkngpdmnpgoomaaGreatDoorRun
/-! G0 -/
namespace Go.Proofs
open Go.RowKit Go.Wires
set_option maxHeartbeats 8000000
set_option maxRecDepth 100000
theorem sl_nil (w : World) : Sl w (.slice none 0 0) [] := .inl ⟨rfl, rfl⟩
theorem zeroMsg_wf : zeroMsg.wf := ⟨by decide, by intro x hx; simp [Msgx.nums, zeroMsg] at hx; subst hx; decide, rfl, (by intro e he; cases he), (by decide), (by decide), ⟨by decide, by decide, by decide⟩⟩
theorem oe_row {N : Nat} {w : World} {v : Value} {l : List Entx} (h : Oe N w v l) : Row w v l.length (entCells l) := by
  rcases h.2 with ⟨h1, h2⟩ | ⟨g, cap, cur, rfl, hb, hg, hn, hm, hs, ht⟩
  · exact .inl ⟨h1, h2⟩
  · refine .inr ⟨g, 0, cap, rfl, hn, fun j u hu => ?_⟩
    have := World.ownsRow.cells (g := g) h rfl j u hu
    simpa [Addr.add_lit] using this
theorem own_lt {N e k n : Nat} {w : World} {v : Value} {xs : List Value} (h : w.ownsRow N e k v n xs) : ∀ b, v.ownBlock = some b → b < w.heap.size := fun b hb => (h.lt b hb).2
/-- What a reader of messages answers, for the walk. -/
def MsgAt (w : World) (m : Msgx) (ao : Option Addr) (n c : Nat) (bo : Option Addr) (k d : Nat) : Prop :=
  Row w (.slice ao n c) m.entries.length (entCells m.entries) ∧ Row w (.slice bo k d) m.res.names.length (strs m.res.names) ∧ (∀ b, (Value.slice bo k d).ownBlock = some b → b < w.heap.size)
theorem MsgAt.fr {w w' : World} {m : Msgx} {ao bo : Option Addr} {n c k d : Nat} (h : MsgAt w m ao n c bo k d) (hf : Fr none' w w') : MsgAt w' m ao n c bo k d :=
  ⟨h.1.fr hf (fun _ _ _ h => h), h.2.1.fr hf (fun _ _ _ h => h), fun b hb => Nat.lt_of_lt_of_le (h.2.2 b hb) hf.size⟩
theorem dec_x {w w' : World} {L : List UInt8} {c : Value} {e : Ending} {r : Option Msgx} (hr : msgOf L = r) (h : DecPost w L c e w') :
    ∃ ao n cp bo k d, e = .returned (.tuple #[.agg ((r.getD zeroMsg).cells (.slice ao n cp) (.slice bo k d)).toArray, c]) ∧ MsgAt w' (r.getD zeroMsg) ao n cp bo k d ∧ Fr none' w w' := by
  obtain ⟨ev, nv, h1, h2, h3, h4⟩ := h
  rw [hr] at h1 h2 h3
  obtain ⟨ao, n, cp, -, rfl⟩ := oe_shape h2
  obtain ⟨bo, k, d, -, rfl⟩ := on_shape h3
  exact ⟨ao, n, cp, bo, k, d, h1, ⟨oe_row h2, on_row h3, own_lt h3⟩, h4⟩
theorem decode_ok {L : List UInt8} {m : Msgx} (hm : msgOf L = some m) (w : World) (v : Value) (hv : Sl w v L) (hlen : L.length ≤ 70368744177000) : Calls Tryz.prog 7 #[v] w fun e w' =>
    ∃ ao n cp bo k d, e = .returned (.tuple #[.agg (m.cells (.slice ao n cp) (.slice bo k d)).toArray, .int .i64 0]) ∧ MsgAt w' m ao n cp bo k d ∧ Fr none' w w' := by
  refine (decode_spec w v L hv hlen).mono fun e w' h => ?_
  have := dec_x hm h
  rw [hm] at this
  exact this
theorem decode_bad {L : List UInt8} (hm : msgOf L = none) (w : World) (v : Value) (hv : Sl w v L) (hlen : L.length ≤ 70368744177000) : Calls Tryz.prog 7 #[v] w fun e w' =>
    ∃ ao n cp bo k d, e = .returned (.tuple #[.agg (zeroMsg.cells (.slice ao n cp) (.slice bo k d)).toArray, .int .i64 21]) ∧ MsgAt w' zeroMsg ao n cp bo k d ∧ Fr none' w w' := by
  refine (decode_spec w v L hv hlen).mono fun e w' h => ?_
  have := dec_x hm h
  rw [hm] at this
  exact this
theorem rfDec_ok {L : List UInt8} {m : Msgx} (hm : msgOf L = some m) (w : World) (v : Value) (hv : Sl w v L) (hb : ∀ k, v.ownBlock = some k → k < w.heap.size) (hlen : L.length ≤ 70368744177000) : Calls Tryz.prog 9 #[v] w fun e w' =>
    ∃ ao n cp bo k d, e = .returned (.tuple #[.agg (m.cells (.slice ao n cp) (.slice bo k d)).toArray, .bool true]) ∧ MsgAt w' m ao n cp bo k d ∧ Fr none' w w' := by
  refine (rf22Decode_spec w v L hv hb hlen).mono fun e w' h => ?_
  have := dec_x hm h
  rw [hm] at this
  exact this
theorem rfDec_bad {L : List UInt8} (hm : msgOf L = none) (w : World) (v : Value) (hv : Sl w v L) (hb : ∀ k, v.ownBlock = some k → k < w.heap.size) (hlen : L.length ≤ 70368744177000) : Calls Tryz.prog 9 #[v] w fun e w' =>
    ∃ ao n cp bo k d, e = .returned (.tuple #[.agg (zeroMsg.cells (.slice ao n cp) (.slice bo k d)).toArray, .bool false]) ∧ MsgAt w' zeroMsg ao n cp bo k d ∧ Fr none' w w' := by
  refine (rf22Decode_spec w v L hv hb hlen).mono fun e w' h => ?_
  have := dec_x hm h
  rw [hm] at this
  exact this
theorem enc_ok (w : World) (m : Msgx) (ev nv : Value) (hw : m.wf) (hok : m.ok = true) (hE : Row w ev m.entries.length (entCells m.entries)) (hN : Row w nv m.res.names.length (strs m.res.names)) (hbN : ∀ b, nv.ownBlock = some b → b < w.heap.size) :
    Calls Tryz.prog 5 #[.agg (m.cells ev nv).toArray] w fun e w' => ∃ ao n c, e = .returned (.tuple #[.slice ao n c, .int .i64 0]) ∧ Sl w' (.slice ao n c) m.bytes ∧ (∀ b, (Value.slice ao n c).ownBlock = some b → b < w'.heap.size) ∧ Fr none' w w' := by
  refine (repEncode_spec w m ev nv hw hE hN hbN).mono ?_
  rintro e w' ⟨v, c, rfl, h1, -, hF⟩
  obtain ⟨rfl, ho⟩ := h1 hok
  obtain ⟨ao, n, cp, -, rfl⟩ := own_shape ho
  exact ⟨ao, n, cp, rfl, Sl.of_own ho, own_lt ho, hF⟩
theorem enc_bad (w : World) (m : Msgx) (ev nv : Value) (hw : m.wf) (hok : m.ok = false) (hE : Row w ev m.entries.length (entCells m.entries)) (hN : Row w nv m.res.names.length (strs m.res.names)) (hbN : ∀ b, nv.ownBlock = some b → b < w.heap.size) :
    Calls Tryz.prog 5 #[.agg (m.cells ev nv).toArray] w fun e w' => e = .returned (.tuple #[.slice none 0 0, .int .i64 1]) ∧ Fr none' w w' := by
  refine (repEncode_spec w m ev nv hw hE hN hbN).mono ?_
  rintro e w' ⟨v, c, rfl, -, h1, hF⟩
  obtain ⟨rfl, rfl⟩ := h1 hok
  exact ⟨rfl, hF⟩
theorem rfEnc_ok (w : World) (m : Msgx) (ev nv : Value) (hw : m.wf) (hok : m.ok = true) (hE : Row w ev m.entries.length (entCells m.entries)) (hN : Row w nv m.res.names.length (strs m.res.names)) :
    Calls Tryz.prog 6 #[.agg (m.cells ev nv).toArray] w fun e w' => ∃ ao n c, e = .returned (.tuple #[.slice ao n c, .bool true]) ∧ Sl w' (.slice ao n c) m.bytes ∧ Fr none' w w' := by
  refine (rf22Encode_spec w m ev nv hw hE hN).mono ?_
  rintro e w' ⟨v, rfl, h1, -, hF⟩
  have ho := h1 hok
  obtain ⟨ao, n, cp, -, rfl⟩ := own_shape ho
  exact ⟨ao, n, cp, by rw [hok], Sl.of_own ho, hF⟩
theorem rfEnc_bad (w : World) (m : Msgx) (ev nv : Value) (hw : m.wf) (hok : m.ok = false) (hE : Row w ev m.entries.length (entCells m.entries)) (hN : Row w nv m.res.names.length (strs m.res.names)) :
    Calls Tryz.prog 6 #[.agg (m.cells ev nv).toArray] w fun e w' => e = .returned (.tuple #[.slice none 0 0, .bool false]) ∧ Fr none' w w' := by
  refine (rf22Encode_spec w m ev nv hw hE hN).mono ?_
  rintro e w' ⟨v, rfl, -, h1, hF⟩
  obtain rfl := h1 hok
  exact ⟨by rw [hok], hF⟩
theorem bytes_len {m : Msgx} (hw : m.wf) (hok : m.ok = true) : m.bytes.length ≤ 2000000 := by
  obtain ⟨h1, h2, h3, h4, h5, h6⟩ := ok_parts hok
  have hx : ∀ x ∈ m.nums, (wInt x).length ≤ 10 := fun x hx => wInt_le (hw.nums x hx)
  have e1 := flatMap_len wInt 10 m.nums hx
  have e2 := flatMap_len Entx.bytes 3500 m.entries (fun e he => by
    have a := bytes_op_len (hw.entries e he).op (h6 e he)
    have b1 := wInt_le (hw.entries e he).client
    have b2 := wInt_le (hw.entries e he).number
    have b3 := numW_le (m := e.op.bytes.length) (by omega)
    simp only [Entx.bytes, wText, List.length_append]; omega)
  have e3 := bytes_res_len hw.res h1
  have e4 := numW_le (m := m.kind.toNat) (by omega)
  have e5 := numW_le (m := m.entries.length) (by omega)
  have e6 := numW_le (m := m.data.length) (by omega)
  have e7 := numW_le (m := m.res.bytes.length) (by omega)
  have e8 : m.nums.length = 7 := rfl
  have e9 := hw.root
  have e10 : 3500 * m.entries.length ≤ 3500 * 32 := Nat.mul_le_mul_left _ h4
  simp only [Msgx.bytes, wText, List.length_append]
  omega
theorem load30g {w : World} {ops : Array Oper} {rest : List Oper} {o : Oper} {a : Act} {Q : Exit → Act → World → Prop} (x : Operand) (ho : o.op = .load 30 x) (hwt : Region.wanted o (yielded ops a.tmps) = true)
    (b : Nat) (hx : a.eval x = .pointer (some ⟨b, 0, none⟩)) (m : Msgx) (ev nv : Value) (T : TypeId) (hb : w.heap[b]? = some (.cells (m.cells ev nv).toArray T (0, 0))) (hr : m.root.length = 32)
    (h : wpList Tryz.prog ops Q rest (a.put o.dst (.agg (m.cells ev nv).toArray)) w) : wpList Tryz.prog ops Q (o :: rest) a w := by
  refine wpList_step fun K hK => ?_
  rw [if_pos hwt]
  have hl := run_loadCells_list (P := Tryz.prog) w ⟨b, 0, none⟩ (m.cells ev nv) (fun j u hu => by rw [Addr.add_lit]; exact cells_of hb j u hu)
  rw [msg_len hr] at hl
  unfold Oper.wp execOp
  simp only [ho, hx, Instr.loadAt, Instr.sureAddr, loadVar, Sem.run_bind, Sem.run_pure, Result.andThen_ok, agg30, size30, hl, if_true]
  exact hK _ _ h
theorem awake_x (w : World) : Calls Tryz.prog 4 #[] w fun e w' => e = .returned (.bool true) ∧ Fr none' w w' := by
  refine (awake_calls w).mono ?_
  rintro e w' ⟨rfl, hk⟩
  refine ⟨rfl, hk.os, hk.out, ?_, fun k h _ => hk.heap k h⟩
  by_cases hz : w.heap.size = 0
  · omega
  · have hl : w.heap.size - 1 < w.heap.size := by omega
    have h1 := hk.heap (w.heap.size - 1) hl
    rw [Array.getElem?_eq_getElem hl] at h1
    have := (Array.getElem?_eq_some_iff.1 h1).1
    omega
end Go.Proofs

/-! Gtt -/
namespace Go.Proofs
open Go.RowKit Go.Wires
set_option maxHeartbeats 8000000
set_option maxRecDepth 100000
theorem wires_tt (w : World) (m : Msgx) (ao bo o3 : Option Addr) (cap cp2 c3 : Nat) (Lb : List UInt8) (hw : m.wf) (hok : m.ok = true) {n0 : Msgx} (hm0 : msgOf Lb = some n0) (hE : Row w (.slice ao m.entries.length cap) m.entries.length (entCells m.entries))
    (hN : Row w (.slice bo m.res.names.length cp2) m.res.names.length (strs m.res.names)) (hbN : ∀ b, (Value.slice bo m.res.names.length cp2).ownBlock = some b → b < w.heap.size)
    (hS : Sl w (.slice o3 Lb.length c3) Lb) (hbb : ∀ b, (Value.slice o3 Lb.length c3).ownBlock = some b → b < w.heap.size) (hlen0 : Lb.length ≤ 200000) :
    Calls Tryz.prog 3 #[.agg (m.cells (.slice ao m.entries.length cap) (.slice bo m.res.names.length cp2)).toArray, .slice o3 Lb.length c3] w fun e w' => e = .returned (.bool true) ∧ Fr none' w w' := by
  have hlen : Lb.length ≤ 70368744177000 := by omega
  have hlm := hw.len
  have hn := msgOf_inv hm0
  have hF0 : Fr none' w (w.alloc (.cells (m.cells (.slice ao m.entries.length cap) (.slice bo m.res.names.length cp2)).toArray 30)) := Fr.alloc _ _ _
  have hT0 := hF0
  have hA0 := heap_alloc_new w (.cells (m.cells (.slice ao m.entries.length cap) (.slice bo m.res.names.length cp2)).toArray 30)
  have hS0 := hS.fr hF0 (fun _ _ h => h)
  have hM0 : MsgAt (w.alloc (.cells (m.cells (.slice ao m.entries.length cap) (.slice bo m.res.names.length cp2)).toArray 30)) m ao m.entries.length cap bo m.res.names.length cp2 := ⟨hE.fr hF0 (fun _ _ _ h => h), hN.fr hF0 (fun _ _ _ h => h), fun b hb => Nat.lt_of_lt_of_le (hbN b hb) hF0.size⟩
  clear hF0 hE hN hS hbN
  go_enter Tryz.func3, Tryz.ntmps3
  go_wp2_with (first
    | (go_at_call 4; refine (awake_x _).mono ?_; rintro e w1 ⟨rfl, hF⟩; have hT1 := hT0.trans hF; have hA1 := hF.heap hA0 (fun h => h); have hS1 := hS0.fr hF (fun _ _ h => h); have hM1 := hM0.fr hF; clear hF hT0 hA0 hS0 hM0; have c40 := msg_c40 hA1 hw.root)
    | (have hgg := hA1; clear hgg; refine load30m rfl (.tmp 2) rfl w.heap.size rfl m (.slice ao m.entries.length cap) (.slice bo m.res.names.length cp2) 30 hA1 hw.root ?_)
    | (go_at_call 5; have hgg := hM1; clear hgg; refine (enc_ok _ m _ _ hw hok hM1.1 hM1.2.1 hM1.2.2).mono ?_; rintro e w2 ⟨xo, xn, xc, rfl, hX2, hXb2, hF⟩; have hT2 := hT1.trans hF; have hA2 := hF.heap hA1 (fun h => h); have hS2 := hS1.fr hF (fun _ _ h => h); have hM2 := hM1.fr hF; clear hF hT1 hA1 hS1 hM1; clear c40)
    | (have hgg := hA2; clear hgg; refine load30m rfl (.tmp 2) rfl w.heap.size rfl m (.slice ao m.entries.length cap) (.slice bo m.res.names.length cp2) 30 hA2 hw.root ?_)
    | (go_at_call 6; refine (rfEnc_ok _ m _ _ hw hok hM2.1 hM2.2.1).mono ?_; rintro e w3 ⟨yo, yn, yc, rfl, hY3, hF⟩; have hX3 := hX2.fr hF (fun _ _ h => h); have hT3 := hT2.trans hF; have hA3 := hF.heap hA2 (fun h => h); have hS3 := hS2.fr hF (fun _ _ h => h); have hM3 := hM2.fr hF; clear hF hT2 hA2 hS2 hM2; have hcx := conv9 hX3; have hcy := conv9 hY3)
    | (go_at_call 7; have hgg := hX3; clear hgg; refine (decode_ok (msgOf_bytes hw hok) _ _ hX3 (Nat.le_trans (bytes_len hw hok) (by omega))).mono ?_; rintro e w4 ⟨d1, d2, d3, d4, d5, d6, rfl, hD4, hF⟩; clear hcx hcy hX3 hY3 hX2 hXb2; have hT4 := hT3.trans hF; have hA4 := hF.heap hA3 (fun h => h); have hS4 := hS3.fr hF (fun _ _ h => h); have hM4 := hM3.fr hF; clear hF hT3 hA3 hS3 hM3)
    | (refine store30m rfl (.tmp 9) (.tmp 61) rfl w4.heap.size rfl m d1 d2 d3 d4 d5 d6 rfl hw.root _ 30 (heap_alloc_new w4 _) rfl ?_; intro w5 hB5 hF5; have hF : Fr none' w4 w5 := (Fr.alloc none' w4 _).trans' hF5 (fun k hk e => by omega); have hD5 := hD4.fr hF; clear hD4 hF5; have hT5 := hT4.trans hF; have hA5 := hF.heap hA4 (fun h => h); have hS5 := hS4.fr hF (fun _ _ h => h); have hM5 := hM4.fr hF; clear hF hT4 hA4 hS4 hM4)
    | (refine load30g (.tmp 9) rfl (by rfl) w4.heap.size rfl m (.slice d1 d2 d3) (.slice d4 d5 d6) 30 hB5 hw.root ?_)
    | (have hgg := hA5; clear hgg; refine load30g (.tmp 2) rfl (by rfl) w.heap.size rfl m (.slice ao m.entries.length cap) (.slice bo m.res.names.length cp2) 30 hA5 hw.root ?_)
    | (go_at_call 8; have hgg := hD5; clear hgg; refine (sameMsg_spec _ m _ _ _ _ hw hD5.1 hM5.1 hD5.2.1 hM5.2.1).mono ?_; rintro e w6 ⟨rfl, hF⟩; clear hB5 hD5; have hT6 := hT5.trans hF; have hA6 := hF.heap hA5 (fun h => h); have hS6 := hS5.fr hF (fun _ _ h => h); have hM6 := hM5.fr hF; clear hF hT5 hA5 hS5 hM5)
    | (go_at_call 7; refine (decode_ok hm0 _ _ hS6 hlen).mono ?_; rintro e w7 ⟨f1, f2, f3, f4, f5, f6, rfl, hG7, hF⟩; have hT7 := hT6.trans hF; have hA7 := hF.heap hA6 (fun h => h); have hS7 := hS6.fr hF (fun _ _ h => h); have hM7 := hM6.fr hF; clear hF hT6 hA6 hS6 hM6)
    | (refine store30m rfl (.tmp 11) (.tmp 74) rfl w7.heap.size rfl n0 f1 f2 f3 f4 f5 f6 rfl hn.2.1.root _ 30 (heap_alloc_new w7 _) rfl ?_; intro w8 hC8 hF5; have hF : Fr none' w7 w8 := (Fr.alloc none' w7 _).trans' hF5 (fun k hk e => by omega); have hG8 := hG7.fr hF; clear hG7 hF5; have hT8 := hT7.trans hF; have hA8 := hF.heap hA7 (fun h => h); have hS8 := hS7.fr hF (fun _ _ h => h); have hM8 := hM7.fr hF; clear hF hT7 hA7 hS7 hM7)
    | (go_at_call 9; refine (rfDec_ok hm0 _ _ hS8 (fun k hk => Nat.lt_of_lt_of_le (hbb k hk) hT8.size) hlen).mono ?_; rintro e w9 ⟨g1, g2, g3, g4, g5, g6, rfl, hH9, hF⟩; have hG9 := hG8.fr hF; have hC9 := hF.heap hC8 (fun h => h); have hlC := lt_of_heap hC8; clear hG8 hC8; have hT9 := hT8.trans hF; have hA9 := hF.heap hA8 (fun h => h); have hS9 := hS8.fr hF (fun _ _ h => h); have hM9 := hM8.fr hF; clear hF hT8 hA8 hS8 hM8)
    | (refine store30m rfl (.tmp 13) (.tmp 79) rfl w9.heap.size rfl n0 g1 g2 g3 g4 g5 g6 rfl hn.2.1.root _ 30 (heap_alloc_new w9 _) rfl ?_; intro w10 hE10 hF5; have hF : Fr none' w9 w10 := (Fr.alloc none' w9 _).trans' hF5 (fun k hk e => by omega); have hG10 := hG9.fr hF; have hH10 := hH9.fr hF; have hC10 := hF.heap hC9 (fun h => h); clear hG9 hH9 hC9 hF5; have hT10 := hT9.trans hF; have hA10 := hF.heap hA9 (fun h => h); have hS10 := hS9.fr hF (fun _ _ h => h); have hM10 := hM9.fr hF; clear hF hT9 hA9 hS9 hM9)
    | (refine load30g (.tmp 11) rfl (by rfl) w7.heap.size rfl n0 (.slice f1 f2 f3) (.slice f4 f5 f6) 30 hC10 hn.2.1.root ?_)
    | (refine load30g (.tmp 13) rfl (by rfl) w9.heap.size rfl n0 (.slice g1 g2 g3) (.slice g4 g5 g6) 30 hE10 hn.2.1.root ?_)
    | (go_at_call 8; have hgg := hE10; clear hgg; refine (sameMsg_spec _ n0 _ _ _ _ hn.2.1 hG10.1 hH10.1 hG10.2.1 hH10.2.1).mono ?_; rintro e w11 ⟨rfl, hF⟩; have hG11 := hG10.fr hF; have hC11 := hF.heap hC10 (fun h => h); clear hG10 hC10 hE10 hH10; have hT11 := hT10.trans hF; have hA11 := hF.heap hA10 (fun h => h); have hS11 := hS10.fr hF (fun _ _ h => h); have hM11 := hM10.fr hF; clear hF hT10 hA10 hS10 hM10)
    | (refine load30m rfl (.tmp 11) rfl w7.heap.size rfl n0 (.slice f1 f2 f3) (.slice f4 f5 f6) 30 hC11 hn.2.1.root ?_)
    | (go_at_call 5; have hgg := hC11; clear hgg; refine (enc_ok _ n0 _ _ hn.2.1 hn.2.2 hG11.1 hG11.2.1 hG11.2.2).mono ?_; rintro e w12 ⟨zo, zn, zc, rfl, hZ, -, hF⟩; clear hC11 hG11; have hT12 := hT11.trans hF; have hA12 := hF.heap hA11 (fun h => h); have hS12 := hS11.fr hF (fun _ _ h => h); have hM12 := hM11.fr hF; clear hF hT11 hA11 hS11 hM11; rw [hn.1] at hZ; have hcz := conv9 hZ; have hcb := conv9 hS12))
  all_goals go_returns
  all_goals exact ⟨rfl, hT12⟩
end Go.Proofs

/-! Gtf -/
namespace Go.Proofs
open Go.RowKit Go.Wires
set_option maxHeartbeats 8000000
set_option maxRecDepth 100000
theorem wires_tf (w : World) (m : Msgx) (ao bo o3 : Option Addr) (cap cp2 c3 : Nat) (Lb : List UInt8) (hw : m.wf) (hok : m.ok = true) (hm0 : msgOf Lb = none) (hE : Row w (.slice ao m.entries.length cap) m.entries.length (entCells m.entries))
    (hN : Row w (.slice bo m.res.names.length cp2) m.res.names.length (strs m.res.names)) (hbN : ∀ b, (Value.slice bo m.res.names.length cp2).ownBlock = some b → b < w.heap.size)
    (hS : Sl w (.slice o3 Lb.length c3) Lb) (hbb : ∀ b, (Value.slice o3 Lb.length c3).ownBlock = some b → b < w.heap.size) (hlen0 : Lb.length ≤ 200000) :
    Calls Tryz.prog 3 #[.agg (m.cells (.slice ao m.entries.length cap) (.slice bo m.res.names.length cp2)).toArray, .slice o3 Lb.length c3] w fun e w' => e = .returned (.bool true) ∧ Fr none' w w' := by
  have hlen : Lb.length ≤ 70368744177000 := by omega
  have hlm := hw.len
  skip
  have hF0 : Fr none' w (w.alloc (.cells (m.cells (.slice ao m.entries.length cap) (.slice bo m.res.names.length cp2)).toArray 30)) := Fr.alloc _ _ _
  have hT0 := hF0
  have hA0 := heap_alloc_new w (.cells (m.cells (.slice ao m.entries.length cap) (.slice bo m.res.names.length cp2)).toArray 30)
  have hS0 := hS.fr hF0 (fun _ _ h => h)
  have hM0 : MsgAt (w.alloc (.cells (m.cells (.slice ao m.entries.length cap) (.slice bo m.res.names.length cp2)).toArray 30)) m ao m.entries.length cap bo m.res.names.length cp2 := ⟨hE.fr hF0 (fun _ _ _ h => h), hN.fr hF0 (fun _ _ _ h => h), fun b hb => Nat.lt_of_lt_of_le (hbN b hb) hF0.size⟩
  clear hF0 hE hN hS hbN
  go_enter Tryz.func3, Tryz.ntmps3
  go_wp2_with (first
    | (go_at_call 4; refine (awake_x _).mono ?_; rintro e w1 ⟨rfl, hF⟩; have hT1 := hT0.trans hF; have hA1 := hF.heap hA0 (fun h => h); have hS1 := hS0.fr hF (fun _ _ h => h); have hM1 := hM0.fr hF; clear hF hT0 hA0 hS0 hM0; have c40 := msg_c40 hA1 hw.root)
    | (have hgg := hA1; clear hgg; refine load30m rfl (.tmp 2) rfl w.heap.size rfl m (.slice ao m.entries.length cap) (.slice bo m.res.names.length cp2) 30 hA1 hw.root ?_)
    | (go_at_call 5; have hgg := hM1; clear hgg; refine (enc_ok _ m _ _ hw hok hM1.1 hM1.2.1 hM1.2.2).mono ?_; rintro e w2 ⟨xo, xn, xc, rfl, hX2, hXb2, hF⟩; have hT2 := hT1.trans hF; have hA2 := hF.heap hA1 (fun h => h); have hS2 := hS1.fr hF (fun _ _ h => h); have hM2 := hM1.fr hF; clear hF hT1 hA1 hS1 hM1; clear c40)
    | (have hgg := hA2; clear hgg; refine load30m rfl (.tmp 2) rfl w.heap.size rfl m (.slice ao m.entries.length cap) (.slice bo m.res.names.length cp2) 30 hA2 hw.root ?_)
    | (go_at_call 6; refine (rfEnc_ok _ m _ _ hw hok hM2.1 hM2.2.1).mono ?_; rintro e w3 ⟨yo, yn, yc, rfl, hY3, hF⟩; have hX3 := hX2.fr hF (fun _ _ h => h); have hT3 := hT2.trans hF; have hA3 := hF.heap hA2 (fun h => h); have hS3 := hS2.fr hF (fun _ _ h => h); have hM3 := hM2.fr hF; clear hF hT2 hA2 hS2 hM2; have hcx := conv9 hX3; have hcy := conv9 hY3)
    | (go_at_call 7; have hgg := hX3; clear hgg; refine (decode_ok (msgOf_bytes hw hok) _ _ hX3 (Nat.le_trans (bytes_len hw hok) (by omega))).mono ?_; rintro e w4 ⟨d1, d2, d3, d4, d5, d6, rfl, hD4, hF⟩; clear hcx hcy hX3 hY3 hX2 hXb2; have hT4 := hT3.trans hF; have hA4 := hF.heap hA3 (fun h => h); have hS4 := hS3.fr hF (fun _ _ h => h); have hM4 := hM3.fr hF; clear hF hT3 hA3 hS3 hM3)
    | (refine store30m rfl (.tmp 9) (.tmp 61) rfl w4.heap.size rfl m d1 d2 d3 d4 d5 d6 rfl hw.root _ 30 (heap_alloc_new w4 _) rfl ?_; intro w5 hB5 hF5; have hF : Fr none' w4 w5 := (Fr.alloc none' w4 _).trans' hF5 (fun k hk e => by omega); have hD5 := hD4.fr hF; clear hD4 hF5; have hT5 := hT4.trans hF; have hA5 := hF.heap hA4 (fun h => h); have hS5 := hS4.fr hF (fun _ _ h => h); have hM5 := hM4.fr hF; clear hF hT4 hA4 hS4 hM4)
    | (refine load30g (.tmp 9) rfl (by rfl) w4.heap.size rfl m (.slice d1 d2 d3) (.slice d4 d5 d6) 30 hB5 hw.root ?_)
    | (have hgg := hA5; clear hgg; refine load30g (.tmp 2) rfl (by rfl) w.heap.size rfl m (.slice ao m.entries.length cap) (.slice bo m.res.names.length cp2) 30 hA5 hw.root ?_)
    | (go_at_call 8; have hgg := hD5; clear hgg; refine (sameMsg_spec _ m _ _ _ _ hw hD5.1 hM5.1 hD5.2.1 hM5.2.1).mono ?_; rintro e w6 ⟨rfl, hF⟩; clear hB5 hD5; have hT6 := hT5.trans hF; have hA6 := hF.heap hA5 (fun h => h); have hS6 := hS5.fr hF (fun _ _ h => h); have hM6 := hM5.fr hF; clear hF hT5 hA5 hS5 hM5)
    | (go_at_call 7; refine (decode_bad hm0 _ _ hS6 hlen).mono ?_; rintro e w7 ⟨f1, f2, f3, f4, f5, f6, rfl, hG7, hF⟩; have hT7 := hT6.trans hF; have hA7 := hF.heap hA6 (fun h => h); have hS7 := hS6.fr hF (fun _ _ h => h); have hM7 := hM6.fr hF; clear hF hT6 hA6 hS6 hM6)
    | (refine store30m rfl (.tmp 11) (.tmp 74) rfl w7.heap.size rfl zeroMsg f1 f2 f3 f4 f5 f6 rfl zeroMsg_wf.root _ 30 (heap_alloc_new w7 _) rfl ?_; intro w8 hC8 hF5; have hF : Fr none' w7 w8 := (Fr.alloc none' w7 _).trans' hF5 (fun k hk e => by omega); have hG8 := hG7.fr hF; clear hG7 hF5; have hT8 := hT7.trans hF; have hA8 := hF.heap hA7 (fun h => h); have hS8 := hS7.fr hF (fun _ _ h => h); have hM8 := hM7.fr hF; clear hF hT7 hA7 hS7 hM7)
    | (go_at_call 9; refine (rfDec_bad hm0 _ _ hS8 (fun k hk => Nat.lt_of_lt_of_le (hbb k hk) hT8.size) hlen).mono ?_; rintro e w9 ⟨g1, g2, g3, g4, g5, g6, rfl, hH9, hF⟩; have hG9 := hG8.fr hF; have hC9 := hF.heap hC8 (fun h => h); have hlC := lt_of_heap hC8; clear hG8 hC8; have hT9 := hT8.trans hF; have hA9 := hF.heap hA8 (fun h => h); have hS9 := hS8.fr hF (fun _ _ h => h); have hM9 := hM8.fr hF; clear hF hT8 hA8 hS8 hM8)
    | (refine store30m rfl (.tmp 13) (.tmp 79) rfl w9.heap.size rfl zeroMsg g1 g2 g3 g4 g5 g6 rfl zeroMsg_wf.root _ 30 (heap_alloc_new w9 _) rfl ?_; intro w10 hE10 hF5; have hF : Fr none' w9 w10 := (Fr.alloc none' w9 _).trans' hF5 (fun k hk e => by omega); have hG10 := hG9.fr hF; have hH10 := hH9.fr hF; have hC10 := hF.heap hC9 (fun h => h); clear hG9 hH9 hC9 hF5; have hT10 := hT9.trans hF; have hA10 := hF.heap hA9 (fun h => h); have hS10 := hS9.fr hF (fun _ _ h => h); have hM10 := hM9.fr hF; clear hF hT9 hA9 hS9 hM9)
    | (refine load30g (.tmp 11) rfl (by rfl) w7.heap.size rfl zeroMsg (.slice f1 f2 f3) (.slice f4 f5 f6) 30 hC10 zeroMsg_wf.root ?_)
    | (refine load30g (.tmp 13) rfl (by rfl) w9.heap.size rfl zeroMsg (.slice g1 g2 g3) (.slice g4 g5 g6) 30 hE10 zeroMsg_wf.root ?_)
    | (go_at_call 8; have hgg := hE10; clear hgg; refine (sameMsg_spec _ zeroMsg _ _ _ _ zeroMsg_wf hG10.1 hH10.1 hG10.2.1 hH10.2.1).mono ?_; rintro e w11 ⟨rfl, hF⟩; have hG11 := hG10.fr hF; have hC11 := hF.heap hC10 (fun h => h); clear hG10 hC10 hE10 hH10; have hT11 := hT10.trans hF; have hA11 := hF.heap hA10 (fun h => h); have hS11 := hS10.fr hF (fun _ _ h => h); have hM11 := hM10.fr hF; clear hF hT10 hA10 hS10 hM10))
  all_goals go_returns
  all_goals exact ⟨rfl, hT11⟩
end Go.Proofs

/-! Gft -/
namespace Go.Proofs
open Go.RowKit Go.Wires
set_option maxHeartbeats 8000000
set_option maxRecDepth 100000
theorem wires_ft (w : World) (m : Msgx) (ao bo o3 : Option Addr) (cap cp2 c3 : Nat) (Lb : List UInt8) (hw : m.wf) (hok : m.ok = false) {n0 : Msgx} (hm0 : msgOf Lb = some n0) (hE : Row w (.slice ao m.entries.length cap) m.entries.length (entCells m.entries))
    (hN : Row w (.slice bo m.res.names.length cp2) m.res.names.length (strs m.res.names)) (hbN : ∀ b, (Value.slice bo m.res.names.length cp2).ownBlock = some b → b < w.heap.size)
    (hS : Sl w (.slice o3 Lb.length c3) Lb) (hbb : ∀ b, (Value.slice o3 Lb.length c3).ownBlock = some b → b < w.heap.size) (hlen0 : Lb.length ≤ 200000) :
    Calls Tryz.prog 3 #[.agg (m.cells (.slice ao m.entries.length cap) (.slice bo m.res.names.length cp2)).toArray, .slice o3 Lb.length c3] w fun e w' => e = .returned (.bool true) ∧ Fr none' w w' := by
  have hlen : Lb.length ≤ 70368744177000 := by omega
  have hlm := hw.len
  have hn := msgOf_inv hm0
  have hF0 : Fr none' w (w.alloc (.cells (m.cells (.slice ao m.entries.length cap) (.slice bo m.res.names.length cp2)).toArray 30)) := Fr.alloc _ _ _
  have hT0 := hF0
  have hA0 := heap_alloc_new w (.cells (m.cells (.slice ao m.entries.length cap) (.slice bo m.res.names.length cp2)).toArray 30)
  have hS0 := hS.fr hF0 (fun _ _ h => h)
  have hM0 : MsgAt (w.alloc (.cells (m.cells (.slice ao m.entries.length cap) (.slice bo m.res.names.length cp2)).toArray 30)) m ao m.entries.length cap bo m.res.names.length cp2 := ⟨hE.fr hF0 (fun _ _ _ h => h), hN.fr hF0 (fun _ _ _ h => h), fun b hb => Nat.lt_of_lt_of_le (hbN b hb) hF0.size⟩
  clear hF0 hE hN hS hbN
  go_enter Tryz.func3, Tryz.ntmps3
  go_wp2_with (first
    | (go_at_call 4; refine (awake_x _).mono ?_; rintro e w1 ⟨rfl, hF⟩; have hT1 := hT0.trans hF; have hA1 := hF.heap hA0 (fun h => h); have hS1 := hS0.fr hF (fun _ _ h => h); have hM1 := hM0.fr hF; clear hF hT0 hA0 hS0 hM0; have c40 := msg_c40 hA1 hw.root)
    | (have hgg := hA1; clear hgg; refine load30m rfl (.tmp 2) rfl w.heap.size rfl m (.slice ao m.entries.length cap) (.slice bo m.res.names.length cp2) 30 hA1 hw.root ?_)
    | (go_at_call 5; have hgg := hM1; clear hgg; refine (enc_bad _ m _ _ hw hok hM1.1 hM1.2.1 hM1.2.2).mono ?_; rintro e w2 ⟨rfl, hF⟩; have hT2 := hT1.trans hF; have hA2 := hF.heap hA1 (fun h => h); have hS2 := hS1.fr hF (fun _ _ h => h); have hM2 := hM1.fr hF; clear hF hT1 hA1 hS1 hM1; clear c40)
    | (have hgg := hA2; clear hgg; refine load30m rfl (.tmp 2) rfl w.heap.size rfl m (.slice ao m.entries.length cap) (.slice bo m.res.names.length cp2) 30 hA2 hw.root ?_)
    | (go_at_call 6; refine (rfEnc_bad _ m _ _ hw hok hM2.1 hM2.2.1).mono ?_; rintro e w3 ⟨rfl, hF⟩; have hT3 := hT2.trans hF; have hA3 := hF.heap hA2 (fun h => h); have hS3 := hS2.fr hF (fun _ _ h => h); have hM3 := hM2.fr hF; clear hF hT2 hA2 hS2 hM2; have hcx := conv9 (sl_nil w3))
    | (go_at_call 7; refine (decode_ok hm0 _ _ hS3 hlen).mono ?_; rintro e w4 ⟨f1, f2, f3, f4, f5, f6, rfl, hG4, hF⟩; have hT4 := hT3.trans hF; have hA4 := hF.heap hA3 (fun h => h); have hS4 := hS3.fr hF (fun _ _ h => h); have hM4 := hM3.fr hF; clear hF hT3 hA3 hS3 hM3)
    | (refine store30m rfl (.tmp 11) (.tmp 74) rfl w4.heap.size rfl n0 f1 f2 f3 f4 f5 f6 rfl hn.2.1.root _ 30 (heap_alloc_new w4 _) rfl ?_; intro w5 hC5 hF5; have hF : Fr none' w4 w5 := (Fr.alloc none' w4 _).trans' hF5 (fun k hk e => by omega); have hG5 := hG4.fr hF; clear hG4 hF5; have hT5 := hT4.trans hF; have hA5 := hF.heap hA4 (fun h => h); have hS5 := hS4.fr hF (fun _ _ h => h); have hM5 := hM4.fr hF; clear hF hT4 hA4 hS4 hM4)
    | (go_at_call 9; refine (rfDec_ok hm0 _ _ hS5 (fun k hk => Nat.lt_of_lt_of_le (hbb k hk) hT5.size) hlen).mono ?_; rintro e w6 ⟨g1, g2, g3, g4, g5, g6, rfl, hH6, hF⟩; have hG6 := hG5.fr hF; have hC6 := hF.heap hC5 (fun h => h); have hlC := lt_of_heap hC5; clear hG5 hC5; have hT6 := hT5.trans hF; have hA6 := hF.heap hA5 (fun h => h); have hS6 := hS5.fr hF (fun _ _ h => h); have hM6 := hM5.fr hF; clear hF hT5 hA5 hS5 hM5)
    | (refine store30m rfl (.tmp 13) (.tmp 79) rfl w6.heap.size rfl n0 g1 g2 g3 g4 g5 g6 rfl hn.2.1.root _ 30 (heap_alloc_new w6 _) rfl ?_; intro w7 hE7 hF5; have hF : Fr none' w6 w7 := (Fr.alloc none' w6 _).trans' hF5 (fun k hk e => by omega); have hG7 := hG6.fr hF; have hH7 := hH6.fr hF; have hC7 := hF.heap hC6 (fun h => h); clear hG6 hH6 hC6 hF5; have hT7 := hT6.trans hF; have hA7 := hF.heap hA6 (fun h => h); have hS7 := hS6.fr hF (fun _ _ h => h); have hM7 := hM6.fr hF; clear hF hT6 hA6 hS6 hM6)
    | (refine load30g (.tmp 11) rfl (by rfl) w4.heap.size rfl n0 (.slice f1 f2 f3) (.slice f4 f5 f6) 30 hC7 hn.2.1.root ?_)
    | (refine load30g (.tmp 13) rfl (by rfl) w6.heap.size rfl n0 (.slice g1 g2 g3) (.slice g4 g5 g6) 30 hE7 hn.2.1.root ?_)
    | (go_at_call 8; have hgg := hE7; clear hgg; refine (sameMsg_spec _ n0 _ _ _ _ hn.2.1 hG7.1 hH7.1 hG7.2.1 hH7.2.1).mono ?_; rintro e w8 ⟨rfl, hF⟩; have hG8 := hG7.fr hF; have hC8 := hF.heap hC7 (fun h => h); clear hG7 hC7 hE7 hH7; have hT8 := hT7.trans hF; have hA8 := hF.heap hA7 (fun h => h); have hS8 := hS7.fr hF (fun _ _ h => h); have hM8 := hM7.fr hF; clear hF hT7 hA7 hS7 hM7)
    | (refine load30m rfl (.tmp 11) rfl w4.heap.size rfl n0 (.slice f1 f2 f3) (.slice f4 f5 f6) 30 hC8 hn.2.1.root ?_)
    | (go_at_call 5; have hgg := hC8; clear hgg; refine (enc_ok _ n0 _ _ hn.2.1 hn.2.2 hG8.1 hG8.2.1 hG8.2.2).mono ?_; rintro e w9 ⟨zo, zn, zc, rfl, hZ, -, hF⟩; clear hC8 hG8; have hT9 := hT8.trans hF; have hA9 := hF.heap hA8 (fun h => h); have hS9 := hS8.fr hF (fun _ _ h => h); have hM9 := hM8.fr hF; clear hF hT8 hA8 hS8 hM8; rw [hn.1] at hZ; have hcz := conv9 hZ; have hcb := conv9 hS9))
  all_goals go_returns
  all_goals exact ⟨rfl, hT9⟩
end Go.Proofs

/-! Gff -/
namespace Go.Proofs
open Go.RowKit Go.Wires
set_option maxHeartbeats 8000000
set_option maxRecDepth 100000
theorem wires_ff (w : World) (m : Msgx) (ao bo o3 : Option Addr) (cap cp2 c3 : Nat) (Lb : List UInt8) (hw : m.wf) (hok : m.ok = false) (hm0 : msgOf Lb = none) (hE : Row w (.slice ao m.entries.length cap) m.entries.length (entCells m.entries))
    (hN : Row w (.slice bo m.res.names.length cp2) m.res.names.length (strs m.res.names)) (hbN : ∀ b, (Value.slice bo m.res.names.length cp2).ownBlock = some b → b < w.heap.size)
    (hS : Sl w (.slice o3 Lb.length c3) Lb) (hbb : ∀ b, (Value.slice o3 Lb.length c3).ownBlock = some b → b < w.heap.size) (hlen0 : Lb.length ≤ 200000) :
    Calls Tryz.prog 3 #[.agg (m.cells (.slice ao m.entries.length cap) (.slice bo m.res.names.length cp2)).toArray, .slice o3 Lb.length c3] w fun e w' => e = .returned (.bool true) ∧ Fr none' w w' := by
  have hlen : Lb.length ≤ 70368744177000 := by omega
  have hlm := hw.len
  skip
  have hF0 : Fr none' w (w.alloc (.cells (m.cells (.slice ao m.entries.length cap) (.slice bo m.res.names.length cp2)).toArray 30)) := Fr.alloc _ _ _
  have hT0 := hF0
  have hA0 := heap_alloc_new w (.cells (m.cells (.slice ao m.entries.length cap) (.slice bo m.res.names.length cp2)).toArray 30)
  have hS0 := hS.fr hF0 (fun _ _ h => h)
  have hM0 : MsgAt (w.alloc (.cells (m.cells (.slice ao m.entries.length cap) (.slice bo m.res.names.length cp2)).toArray 30)) m ao m.entries.length cap bo m.res.names.length cp2 := ⟨hE.fr hF0 (fun _ _ _ h => h), hN.fr hF0 (fun _ _ _ h => h), fun b hb => Nat.lt_of_lt_of_le (hbN b hb) hF0.size⟩
  clear hF0 hE hN hS hbN
  go_enter Tryz.func3, Tryz.ntmps3
  go_wp2_with (first
    | (go_at_call 4; refine (awake_x _).mono ?_; rintro e w1 ⟨rfl, hF⟩; have hT1 := hT0.trans hF; have hA1 := hF.heap hA0 (fun h => h); have hS1 := hS0.fr hF (fun _ _ h => h); have hM1 := hM0.fr hF; clear hF hT0 hA0 hS0 hM0; have c40 := msg_c40 hA1 hw.root)
    | (have hgg := hA1; clear hgg; refine load30m rfl (.tmp 2) rfl w.heap.size rfl m (.slice ao m.entries.length cap) (.slice bo m.res.names.length cp2) 30 hA1 hw.root ?_)
    | (go_at_call 5; have hgg := hM1; clear hgg; refine (enc_bad _ m _ _ hw hok hM1.1 hM1.2.1 hM1.2.2).mono ?_; rintro e w2 ⟨rfl, hF⟩; have hT2 := hT1.trans hF; have hA2 := hF.heap hA1 (fun h => h); have hS2 := hS1.fr hF (fun _ _ h => h); have hM2 := hM1.fr hF; clear hF hT1 hA1 hS1 hM1; clear c40)
    | (have hgg := hA2; clear hgg; refine load30m rfl (.tmp 2) rfl w.heap.size rfl m (.slice ao m.entries.length cap) (.slice bo m.res.names.length cp2) 30 hA2 hw.root ?_)
    | (go_at_call 6; refine (rfEnc_bad _ m _ _ hw hok hM2.1 hM2.2.1).mono ?_; rintro e w3 ⟨rfl, hF⟩; have hT3 := hT2.trans hF; have hA3 := hF.heap hA2 (fun h => h); have hS3 := hS2.fr hF (fun _ _ h => h); have hM3 := hM2.fr hF; clear hF hT2 hA2 hS2 hM2; have hcx := conv9 (sl_nil w3))
    | (go_at_call 7; refine (decode_bad hm0 _ _ hS3 hlen).mono ?_; rintro e w4 ⟨f1, f2, f3, f4, f5, f6, rfl, hG4, hF⟩; have hT4 := hT3.trans hF; have hA4 := hF.heap hA3 (fun h => h); have hS4 := hS3.fr hF (fun _ _ h => h); have hM4 := hM3.fr hF; clear hF hT3 hA3 hS3 hM3)
    | (refine store30m rfl (.tmp 11) (.tmp 74) rfl w4.heap.size rfl zeroMsg f1 f2 f3 f4 f5 f6 rfl zeroMsg_wf.root _ 30 (heap_alloc_new w4 _) rfl ?_; intro w5 hC5 hF5; have hF : Fr none' w4 w5 := (Fr.alloc none' w4 _).trans' hF5 (fun k hk e => by omega); have hG5 := hG4.fr hF; clear hG4 hF5; have hT5 := hT4.trans hF; have hA5 := hF.heap hA4 (fun h => h); have hS5 := hS4.fr hF (fun _ _ h => h); have hM5 := hM4.fr hF; clear hF hT4 hA4 hS4 hM4)
    | (go_at_call 9; refine (rfDec_bad hm0 _ _ hS5 (fun k hk => Nat.lt_of_lt_of_le (hbb k hk) hT5.size) hlen).mono ?_; rintro e w6 ⟨g1, g2, g3, g4, g5, g6, rfl, hH6, hF⟩; have hG6 := hG5.fr hF; have hC6 := hF.heap hC5 (fun h => h); have hlC := lt_of_heap hC5; clear hG5 hC5; have hT6 := hT5.trans hF; have hA6 := hF.heap hA5 (fun h => h); have hS6 := hS5.fr hF (fun _ _ h => h); have hM6 := hM5.fr hF; clear hF hT5 hA5 hS5 hM5)
    | (refine store30m rfl (.tmp 13) (.tmp 79) rfl w6.heap.size rfl zeroMsg g1 g2 g3 g4 g5 g6 rfl zeroMsg_wf.root _ 30 (heap_alloc_new w6 _) rfl ?_; intro w7 hE7 hF5; have hF : Fr none' w6 w7 := (Fr.alloc none' w6 _).trans' hF5 (fun k hk e => by omega); have hG7 := hG6.fr hF; have hH7 := hH6.fr hF; have hC7 := hF.heap hC6 (fun h => h); clear hG6 hH6 hC6 hF5; have hT7 := hT6.trans hF; have hA7 := hF.heap hA6 (fun h => h); have hS7 := hS6.fr hF (fun _ _ h => h); have hM7 := hM6.fr hF; clear hF hT6 hA6 hS6 hM6)
    | (refine load30g (.tmp 11) rfl (by rfl) w4.heap.size rfl zeroMsg (.slice f1 f2 f3) (.slice f4 f5 f6) 30 hC7 zeroMsg_wf.root ?_)
    | (refine load30g (.tmp 13) rfl (by rfl) w6.heap.size rfl zeroMsg (.slice g1 g2 g3) (.slice g4 g5 g6) 30 hE7 zeroMsg_wf.root ?_)
    | (go_at_call 8; have hgg := hE7; clear hgg; refine (sameMsg_spec _ zeroMsg _ _ _ _ zeroMsg_wf hG7.1 hH7.1 hG7.2.1 hH7.2.1).mono ?_; rintro e w8 ⟨rfl, hF⟩; have hG8 := hG7.fr hF; have hC8 := hF.heap hC7 (fun h => h); clear hG7 hC7 hE7 hH7; have hT8 := hT7.trans hF; have hA8 := hF.heap hA7 (fun h => h); have hS8 := hS7.fr hF (fun _ _ h => h); have hM8 := hM7.fr hF; clear hF hT7 hA7 hS7 hM7))
  all_goals go_returns
  all_goals exact ⟨rfl, hT8⟩
end Go.Proofs
