/-
  The codec: messages out of bytes, as the reference reads them. Conditions: the bounds that each contract states.
-/
import Derived.Test.YtkngpdmnpgoomaaGreatDoorCodG
import Derived.Test.YtkngpdmnpgoomaaGreatDoorCodF
import Derived.Test.YtkngpdmnpgoomaaGreatDoorCodD
/-! F3a -/
namespace Go.Proofs
open Go.RowKit Go.Wires
set_option maxHeartbeats 8000000
set_option maxRecDepth 100000
section
variable {w : World} {ops : Array Oper} {rest : List Oper} {o : Oper} {a : Act} {Q : Exit → Act → World → Prop}
theorem msg_set0 {m : Msgx} {ev nv : Value} {x : Int} {B : Nat} {T : TypeId} (h : w.heap[B]? = some (.cells (m.cells ev nv).toArray T (0, 0))) (hr : m.root.length = 32) : (w.setCell ⟨B, 0, none⟩ (.int .i64 x)).heap[B]? = some (.cells (({ m with kind := x } : Msgx).cells ev nv).toArray T (0, 0)) := by
  obtain ⟨x0, x1, x2, x3, x4, x5, x6, x7, x8, x9, x10, x11, x12, x13, x14, x15, x16, x17, x18, x19, x20, x21, x22, x23, x24, x25, x26, x27, x28, x29, x30, x31, hx⟩ := bvs32 hr
  obtain ⟨k, a1, a2, a3, a4, a5, a6, a7, R, es, dt, r⟩ := m
  rw [cells_app hx] at h ⊢
  exact heap_setCell_same w B 0 _ T _ h
theorem msg_g0 {m : Msgx} {ev nv : Value} {B : Nat} {T : TypeId} (h : w.heap[B]? = some (.cells (m.cells ev nv).toArray T (0, 0))) : w.cell? ⟨B, 0, none⟩ = some (.int .i64 m.kind) := by rw [cell_obj h 0]; rfl
theorem msg_set1 {m : Msgx} {ev nv : Value} {x : Int} {B : Nat} {T : TypeId} (h : w.heap[B]? = some (.cells (m.cells ev nv).toArray T (0, 0))) (hr : m.root.length = 32) : (w.setCell ⟨B, 1, none⟩ (.int .i64 x)).heap[B]? = some (.cells (({ m with src := x } : Msgx).cells ev nv).toArray T (0, 0)) := by
  obtain ⟨x0, x1, x2, x3, x4, x5, x6, x7, x8, x9, x10, x11, x12, x13, x14, x15, x16, x17, x18, x19, x20, x21, x22, x23, x24, x25, x26, x27, x28, x29, x30, x31, hx⟩ := bvs32 hr
  obtain ⟨k, a1, a2, a3, a4, a5, a6, a7, R, es, dt, r⟩ := m
  rw [cells_app hx] at h ⊢
  exact heap_setCell_same w B 1 _ T _ h
theorem msg_g1 {m : Msgx} {ev nv : Value} {B : Nat} {T : TypeId} (h : w.heap[B]? = some (.cells (m.cells ev nv).toArray T (0, 0))) : w.cell? ⟨B, 1, none⟩ = some (.int .i64 m.src) := by rw [cell_obj h 1]; rfl
theorem msg_set2 {m : Msgx} {ev nv : Value} {x : Int} {B : Nat} {T : TypeId} (h : w.heap[B]? = some (.cells (m.cells ev nv).toArray T (0, 0))) (hr : m.root.length = 32) : (w.setCell ⟨B, 2, none⟩ (.int .i64 x)).heap[B]? = some (.cells (({ m with dst := x } : Msgx).cells ev nv).toArray T (0, 0)) := by
  obtain ⟨x0, x1, x2, x3, x4, x5, x6, x7, x8, x9, x10, x11, x12, x13, x14, x15, x16, x17, x18, x19, x20, x21, x22, x23, x24, x25, x26, x27, x28, x29, x30, x31, hx⟩ := bvs32 hr
  obtain ⟨k, a1, a2, a3, a4, a5, a6, a7, R, es, dt, r⟩ := m
  rw [cells_app hx] at h ⊢
  exact heap_setCell_same w B 2 _ T _ h
theorem msg_g2 {m : Msgx} {ev nv : Value} {B : Nat} {T : TypeId} (h : w.heap[B]? = some (.cells (m.cells ev nv).toArray T (0, 0))) : w.cell? ⟨B, 2, none⟩ = some (.int .i64 m.dst) := by rw [cell_obj h 2]; rfl
theorem msg_set3 {m : Msgx} {ev nv : Value} {x : Int} {B : Nat} {T : TypeId} (h : w.heap[B]? = some (.cells (m.cells ev nv).toArray T (0, 0))) (hr : m.root.length = 32) : (w.setCell ⟨B, 3, none⟩ (.int .i64 x)).heap[B]? = some (.cells (({ m with view := x } : Msgx).cells ev nv).toArray T (0, 0)) := by
  obtain ⟨x0, x1, x2, x3, x4, x5, x6, x7, x8, x9, x10, x11, x12, x13, x14, x15, x16, x17, x18, x19, x20, x21, x22, x23, x24, x25, x26, x27, x28, x29, x30, x31, hx⟩ := bvs32 hr
  obtain ⟨k, a1, a2, a3, a4, a5, a6, a7, R, es, dt, r⟩ := m
  rw [cells_app hx] at h ⊢
  exact heap_setCell_same w B 3 _ T _ h
theorem msg_g3 {m : Msgx} {ev nv : Value} {B : Nat} {T : TypeId} (h : w.heap[B]? = some (.cells (m.cells ev nv).toArray T (0, 0))) : w.cell? ⟨B, 3, none⟩ = some (.int .i64 m.view) := by rw [cell_obj h 3]; rfl
theorem msg_set4 {m : Msgx} {ev nv : Value} {x : Int} {B : Nat} {T : TypeId} (h : w.heap[B]? = some (.cells (m.cells ev nv).toArray T (0, 0))) (hr : m.root.length = 32) : (w.setCell ⟨B, 4, none⟩ (.int .i64 x)).heap[B]? = some (.cells (({ m with normal := x } : Msgx).cells ev nv).toArray T (0, 0)) := by
  obtain ⟨x0, x1, x2, x3, x4, x5, x6, x7, x8, x9, x10, x11, x12, x13, x14, x15, x16, x17, x18, x19, x20, x21, x22, x23, x24, x25, x26, x27, x28, x29, x30, x31, hx⟩ := bvs32 hr
  obtain ⟨k, a1, a2, a3, a4, a5, a6, a7, R, es, dt, r⟩ := m
  rw [cells_app hx] at h ⊢
  exact heap_setCell_same w B 4 _ T _ h
theorem msg_g4 {m : Msgx} {ev nv : Value} {B : Nat} {T : TypeId} (h : w.heap[B]? = some (.cells (m.cells ev nv).toArray T (0, 0))) : w.cell? ⟨B, 4, none⟩ = some (.int .i64 m.normal) := by rw [cell_obj h 4]; rfl
theorem msg_set5 {m : Msgx} {ev nv : Value} {x : Int} {B : Nat} {T : TypeId} (h : w.heap[B]? = some (.cells (m.cells ev nv).toArray T (0, 0))) (hr : m.root.length = 32) : (w.setCell ⟨B, 5, none⟩ (.int .i64 x)).heap[B]? = some (.cells (({ m with last := x } : Msgx).cells ev nv).toArray T (0, 0)) := by
  obtain ⟨x0, x1, x2, x3, x4, x5, x6, x7, x8, x9, x10, x11, x12, x13, x14, x15, x16, x17, x18, x19, x20, x21, x22, x23, x24, x25, x26, x27, x28, x29, x30, x31, hx⟩ := bvs32 hr
  obtain ⟨k, a1, a2, a3, a4, a5, a6, a7, R, es, dt, r⟩ := m
  rw [cells_app hx] at h ⊢
  exact heap_setCell_same w B 5 _ T _ h
theorem msg_g5 {m : Msgx} {ev nv : Value} {B : Nat} {T : TypeId} (h : w.heap[B]? = some (.cells (m.cells ev nv).toArray T (0, 0))) : w.cell? ⟨B, 5, none⟩ = some (.int .i64 m.last) := by rw [cell_obj h 5]; rfl
theorem msg_set6 {m : Msgx} {ev nv : Value} {x : Int} {B : Nat} {T : TypeId} (h : w.heap[B]? = some (.cells (m.cells ev nv).toArray T (0, 0))) (hr : m.root.length = 32) : (w.setCell ⟨B, 6, none⟩ (.int .i64 x)).heap[B]? = some (.cells (({ m with commit := x } : Msgx).cells ev nv).toArray T (0, 0)) := by
  obtain ⟨x0, x1, x2, x3, x4, x5, x6, x7, x8, x9, x10, x11, x12, x13, x14, x15, x16, x17, x18, x19, x20, x21, x22, x23, x24, x25, x26, x27, x28, x29, x30, x31, hx⟩ := bvs32 hr
  obtain ⟨k, a1, a2, a3, a4, a5, a6, a7, R, es, dt, r⟩ := m
  rw [cells_app hx] at h ⊢
  exact heap_setCell_same w B 6 _ T _ h
theorem msg_g6 {m : Msgx} {ev nv : Value} {B : Nat} {T : TypeId} (h : w.heap[B]? = some (.cells (m.cells ev nv).toArray T (0, 0))) : w.cell? ⟨B, 6, none⟩ = some (.int .i64 m.commit) := by rw [cell_obj h 6]; rfl
theorem msg_set7 {m : Msgx} {ev nv : Value} {x : Int} {B : Nat} {T : TypeId} (h : w.heap[B]? = some (.cells (m.cells ev nv).toArray T (0, 0))) (hr : m.root.length = 32) : (w.setCell ⟨B, 7, none⟩ (.int .i64 x)).heap[B]? = some (.cells (({ m with behind := x } : Msgx).cells ev nv).toArray T (0, 0)) := by
  obtain ⟨x0, x1, x2, x3, x4, x5, x6, x7, x8, x9, x10, x11, x12, x13, x14, x15, x16, x17, x18, x19, x20, x21, x22, x23, x24, x25, x26, x27, x28, x29, x30, x31, hx⟩ := bvs32 hr
  obtain ⟨k, a1, a2, a3, a4, a5, a6, a7, R, es, dt, r⟩ := m
  rw [cells_app hx] at h ⊢
  exact heap_setCell_same w B 7 _ T _ h
theorem msg_g7 {m : Msgx} {ev nv : Value} {B : Nat} {T : TypeId} (h : w.heap[B]? = some (.cells (m.cells ev nv).toArray T (0, 0))) : w.cell? ⟨B, 7, none⟩ = some (.int .i64 m.behind) := by rw [cell_obj h 7]; rfl
theorem store23_8 (hgd : o.guard = none) (x y : Operand) (ho : o.op = .store 23 x y) (b : Nat) (hx : a.eval x = .pointer (some ⟨b, 8, none⟩)) (D : List UInt8) (hD : D.length = 32) (hy : a.eval y = .agg (bvs D).toArray)
    (m : Msgx) (ev nv : Value) (T : TypeId) (hb : w.heap[b]? = some (.cells (m.cells ev nv).toArray T (0, 0))) (hr : m.root.length = 32)
    (h : ∀ w', w'.heap[b]? = some (.cells (({ m with root := D } : Msgx).cells ev nv).toArray T (0, 0)) → Fr (· = b) w w' → wpList Tryz.prog ops Q rest (a.put o.dst undef) w') : wpList Tryz.prog ops Q (o :: rest) a w := by
  obtain ⟨x0, x1, x2, x3, x4, x5, x6, x7, x8, x9, x10, x11, x12, x13, x14, x15, x16, x17, x18, x19, x20, x21, x22, x23, x24, x25, x26, x27, x28, x29, x30, x31, hxx⟩ := bvs32 hr
  obtain ⟨y0, y1, y2, y3, y4, y5, y6, y7, y8, y9, y10, y11, y12, y13, y14, y15, y16, y17, y18, y19, y20, y21, y22, y23, y24, y25, y26, y27, y28, y29, y30, y31, hyy⟩ := bvs32 hD
  obtain ⟨k, a1, a2, a3, a4, a5, a6, a7, R, es, dt, r0⟩ := m
  rw [cells_app hxx] at hb
  rw [hyy] at hy
  refine wpList_plain hgd fun K hK => ?_
  have hst := run_storeCells_at Tryz.prog b 8 T [y0, y1, y2, y3, y4, y5, y6, y7, y8, y9, y10, y11, y12, y13, y14, y15, y16, y17, y18, y19, y20, y21, y22, y23, y24, y25, y26, y27, y28, y29, y30, y31] 0 _ w hb (by simp) (by have := bvs_oneCell D; have e : bvs D = [y0, y1, y2, y3, y4, y5, y6, y7, y8, y9, y10, y11, y12, y13, y14, y15, y16, y17, y18, y19, y20, y21, y22, y23, y24, y25, y26, y27, y28, y29, y30, y31] := (by simpa using congrArg Array.toList hyy); rwa [e] at this)
  unfold Oper.wp execOp
  simp only [ho, hx, hy, Instr.storeAt, Instr.sureAddr, storeVar, Value.cells, Sem.run_bind, Sem.run_pure, Result.andThen_ok, size23]
  rw [if_neg (by simp)]
  simp only [hst]
  refine hK _ _ (h _ ?_ ⟨rfl, rfl, by simp, fun k _ hk => setRow_other w b k _ hk⟩)
  rw [cells_app hyy]
  exact setRow_heap w b _ _ T _ hb
end
theorem fin_some2 {w0 w w1 : World} {N12 : Nat} {L dg d tx : List UInt8} {k n : Nat} {a1 a2 a3 a4 a5 a6 a7 : Int} {s10 s11 s12 s13 : St} {v nv c : Value} {N : Nat} (HX : Hid (hdOf L = ⟨k, a1, a2, a3, a4, a5, a6, a7, dg, n, s10⟩)) (HY : Hid (rdS (rText 4096) [] s11 = (d, s12) ∧ rdS (rText 1048576) [] s12 = (tx, s13)))
    (HO : Hid (∀ l, n ≤ 32 → (rdE n s10).1 = some l → Oe N12 w v l ∧ s11 = (rdE n s10).2)) {m0 : Msgx} {kk : Int} (HM : Hid (m0 = ⟨kk, a1, a2, a3, a4, a5, a6, a7, dg, [], [], zeroRes⟩)) (hkk : kk = k) (h1 : 1 ≤ k) (h2 : k ≤ 13)
    (hok : entOk n s10 = true) (hrs : (resOf tx).isSome = true) (hs : s13 = some []) (hN : On N w nv ((resOf tx).getD zeroRes).names) (hN0 : w0.heap.size ≤ N) (h12 : w0.heap.size < N12) (hT : Fr none' w0 w) (hF : Fr (· = w0.heap.size) w w1)
    (hl : w0.heap.size < N)
    (e : Ending) (he : e = .returned (.tuple #[.agg (({ m0 with data := d, res := (resOf tx).getD zeroRes } : Msgx).cells v nv).toArray, c])) :
    (msgOf L).isSome = true ∧ DecPost w0 L c e w1 := by
  obtain ⟨M, hM, hc, ho, hnn⟩ := dec_some HX HY HO HM hkk h1 h2 hok hrs hs
  refine ⟨by rw [hM]; rfl, v, nv, ?_, ?_, ?_, Fr.step hT hF (Nat.le_refl _)⟩
  · rw [he, hc, hM]; rfl
  · rw [hM]
    exact oe_base (oe_fr ho hF (fun k hk e => by have := (World.ownsRow.lt ho k hk).1; omega)) (by omega)
  · rw [hM]
    show On w0.heap.size w1 nv M.res.names
    rw [hnn]
    exact on_base (on_fr hN hF (fun k hk e => by have := (World.ownsRow.lt hN k hk).1; omega)) hN0
end Go.Proofs

/-! F3 -/
namespace Go.Proofs
open Go.RowKit Go.Wires
set_option maxHeartbeats 8000000
set_option maxRecDepth 100000
theorem z32q : zeroMsg.root.length = 32 := rfl
theorem cells8 {w : World} {B : Nat} {T : TypeId} {a b c d e f g h : Value} (hB : w.heap[B]? = some (.cells #[a, b, c, d, e, f, g, h] T (0, 0))) : w.cell? ⟨B, 0, none⟩ = some a ∧ w.cell? ⟨B, 1, none⟩ = some b := by
  refine ⟨?_, ?_⟩ <;> (rw [cell_obj hB]; rfl)
theorem set8_0 {w : World} {B : Nat} {T : TypeId} {a b c d e f g h v : Value} (hB : w.heap[B]? = some (.cells #[a, b, c, d, e, f, g, h] T (0, 0))) : (w.setCell ⟨B, 0, none⟩ v).heap[B]? = some (.cells #[v, b, c, d, e, f, g, h] T (0, 0)) := by
  simpa using heap_setCell_same w B 0 _ T v hB
theorem set8_1 {w : World} {B : Nat} {T : TypeId} {a b c d e f g h v : Value} (hB : w.heap[B]? = some (.cells #[a, b, c, d, e, f, g, h] T (0, 0))) : (w.setCell ⟨B, 1, none⟩ v).heap[B]? = some (.cells #[a, v, c, d, e, f, g, h] T (0, 0)) := by
  simpa using heap_setCell_same w B 1 _ T v hB
theorem zmsg_lit : (#[.int .i64 0, .int .i64 0, .int .i64 0, .int .i64 0, .int .i64 0, .int .i64 0, .int .i64 0, .int .i64 0, .int .u8 0, .int .u8 0, .int .u8 0, .int .u8 0, .int .u8 0, .int .u8 0, .int .u8 0, .int .u8 0, .int .u8 0, .int .u8 0, .int .u8 0, .int .u8 0, .int .u8 0, .int .u8 0, .int .u8 0, .int .u8 0, .int .u8 0, .int .u8 0, .int .u8 0, .int .u8 0, .int .u8 0, .int .u8 0, .int .u8 0, .int .u8 0, .int .u8 0, .int .u8 0, .int .u8 0, .int .u8 0, .int .u8 0, .int .u8 0, .int .u8 0, .int .u8 0, .slice none 0 0, .string ⟨⟨[]⟩⟩, .int .i64 0, .bool false, .int .i64 0, .string ⟨⟨[]⟩⟩, .slice none 0 0] : Array Value) = (zeroMsg.cells (.slice none 0 0) (.slice none 0 0)).toArray := rfl
theorem rf22Decode_spec (w : World) (v : Value) (L : List UInt8) (hv : Sl w v L) (hb : ∀ k, v.ownBlock = some k → k < w.heap.size) (hlen : L.length ≤ 70368744177000) : Calls Tryz.prog 9 #[v] w fun e w' =>
    DecPost w L (.bool (msgOf L).isSome) e w' := by
  obtain ⟨ao, cap, rfl⟩ := Sl.shape hv
  have hR0 : (((w.alloc (.cells #[.int .i64 0, .int .i64 0, .int .i64 0, .int .i64 0, .int .i64 0, .int .i64 0, .int .i64 0, .int .i64 0, .int .u8 0, .int .u8 0, .int .u8 0, .int .u8 0, .int .u8 0, .int .u8 0, .int .u8 0, .int .u8 0, .int .u8 0, .int .u8 0, .int .u8 0, .int .u8 0, .int .u8 0, .int .u8 0, .int .u8 0, .int .u8 0, .int .u8 0, .int .u8 0, .int .u8 0, .int .u8 0, .int .u8 0, .int .u8 0, .int .u8 0, .int .u8 0, .int .u8 0, .int .u8 0, .int .u8 0, .int .u8 0, .int .u8 0, .int .u8 0, .int .u8 0, .int .u8 0, .slice none 0 0, .string ⟨⟨[]⟩⟩, .int .i64 0, .bool false, .int .i64 0, .string ⟨⟨[]⟩⟩, .slice none 0 0] 30)).alloc (.cells #[.slice ao L.length cap, .int .i64 0, .int .i64 0] 100)).alloc (.cells #[.int .i64 0, .int .i64 0, .int .i64 0, .int .i64 0, .int .i64 0, .int .i64 0, .int .i64 0, .int .i64 0, .int .u8 0, .int .u8 0, .int .u8 0, .int .u8 0, .int .u8 0, .int .u8 0, .int .u8 0, .int .u8 0, .int .u8 0, .int .u8 0, .int .u8 0, .int .u8 0, .int .u8 0, .int .u8 0, .int .u8 0, .int .u8 0, .int .u8 0, .int .u8 0, .int .u8 0, .int .u8 0, .int .u8 0, .int .u8 0, .int .u8 0, .int .u8 0, .int .u8 0, .int .u8 0, .int .u8 0, .int .u8 0, .int .u8 0, .int .u8 0, .int .u8 0, .int .u8 0, .slice none 0 0, .string ⟨⟨[]⟩⟩, .int .i64 0, .bool false, .int .i64 0, .string ⟨⟨[]⟩⟩, .slice none 0 0] 30)).heap[w.heap.size]? = some (.cells #[.int .i64 0, .int .i64 0, .int .i64 0, .int .i64 0, .int .i64 0, .int .i64 0, .int .i64 0, .int .i64 0, .int .u8 0, .int .u8 0, .int .u8 0, .int .u8 0, .int .u8 0, .int .u8 0, .int .u8 0, .int .u8 0, .int .u8 0, .int .u8 0, .int .u8 0, .int .u8 0, .int .u8 0, .int .u8 0, .int .u8 0, .int .u8 0, .int .u8 0, .int .u8 0, .int .u8 0, .int .u8 0, .int .u8 0, .int .u8 0, .int .u8 0, .int .u8 0, .int .u8 0, .int .u8 0, .int .u8 0, .int .u8 0, .int .u8 0, .int .u8 0, .int .u8 0, .int .u8 0, .slice none 0 0, .string ⟨⟨[]⟩⟩, .int .i64 0, .bool false, .int .i64 0, .string ⟨⟨[]⟩⟩, .slice none 0 0] 30 (0, 0)) := new_other (two_old w _ _)
  have hP0 : (((w.alloc (.cells #[.int .i64 0, .int .i64 0, .int .i64 0, .int .i64 0, .int .i64 0, .int .i64 0, .int .i64 0, .int .i64 0, .int .u8 0, .int .u8 0, .int .u8 0, .int .u8 0, .int .u8 0, .int .u8 0, .int .u8 0, .int .u8 0, .int .u8 0, .int .u8 0, .int .u8 0, .int .u8 0, .int .u8 0, .int .u8 0, .int .u8 0, .int .u8 0, .int .u8 0, .int .u8 0, .int .u8 0, .int .u8 0, .int .u8 0, .int .u8 0, .int .u8 0, .int .u8 0, .int .u8 0, .int .u8 0, .int .u8 0, .int .u8 0, .int .u8 0, .int .u8 0, .int .u8 0, .int .u8 0, .slice none 0 0, .string ⟨⟨[]⟩⟩, .int .i64 0, .bool false, .int .i64 0, .string ⟨⟨[]⟩⟩, .slice none 0 0] 30)).alloc (.cells #[.slice ao L.length cap, .int .i64 0, .int .i64 0] 100)).alloc (.cells #[.int .i64 0, .int .i64 0, .int .i64 0, .int .i64 0, .int .i64 0, .int .i64 0, .int .i64 0, .int .i64 0, .int .u8 0, .int .u8 0, .int .u8 0, .int .u8 0, .int .u8 0, .int .u8 0, .int .u8 0, .int .u8 0, .int .u8 0, .int .u8 0, .int .u8 0, .int .u8 0, .int .u8 0, .int .u8 0, .int .u8 0, .int .u8 0, .int .u8 0, .int .u8 0, .int .u8 0, .int .u8 0, .int .u8 0, .int .u8 0, .int .u8 0, .int .u8 0, .int .u8 0, .int .u8 0, .int .u8 0, .int .u8 0, .int .u8 0, .int .u8 0, .int .u8 0, .int .u8 0, .slice none 0 0, .string ⟨⟨[]⟩⟩, .int .i64 0, .bool false, .int .i64 0, .string ⟨⟨[]⟩⟩, .slice none 0 0] 30)).heap[w.heap.size + 1]? = some (.cells #[.slice ao L.length cap, .int .i64 0, .int .i64 0] 100 (0, 0)) := new_other (two_new w _ _)
  have hB00 : (((w.alloc (.cells #[.int .i64 0, .int .i64 0, .int .i64 0, .int .i64 0, .int .i64 0, .int .i64 0, .int .i64 0, .int .i64 0, .int .u8 0, .int .u8 0, .int .u8 0, .int .u8 0, .int .u8 0, .int .u8 0, .int .u8 0, .int .u8 0, .int .u8 0, .int .u8 0, .int .u8 0, .int .u8 0, .int .u8 0, .int .u8 0, .int .u8 0, .int .u8 0, .int .u8 0, .int .u8 0, .int .u8 0, .int .u8 0, .int .u8 0, .int .u8 0, .int .u8 0, .int .u8 0, .int .u8 0, .int .u8 0, .int .u8 0, .int .u8 0, .int .u8 0, .int .u8 0, .int .u8 0, .int .u8 0, .slice none 0 0, .string ⟨⟨[]⟩⟩, .int .i64 0, .bool false, .int .i64 0, .string ⟨⟨[]⟩⟩, .slice none 0 0] 30)).alloc (.cells #[.slice ao L.length cap, .int .i64 0, .int .i64 0] 100)).alloc (.cells #[.int .i64 0, .int .i64 0, .int .i64 0, .int .i64 0, .int .i64 0, .int .i64 0, .int .i64 0, .int .i64 0, .int .u8 0, .int .u8 0, .int .u8 0, .int .u8 0, .int .u8 0, .int .u8 0, .int .u8 0, .int .u8 0, .int .u8 0, .int .u8 0, .int .u8 0, .int .u8 0, .int .u8 0, .int .u8 0, .int .u8 0, .int .u8 0, .int .u8 0, .int .u8 0, .int .u8 0, .int .u8 0, .int .u8 0, .int .u8 0, .int .u8 0, .int .u8 0, .int .u8 0, .int .u8 0, .int .u8 0, .int .u8 0, .int .u8 0, .int .u8 0, .int .u8 0, .int .u8 0, .slice none 0 0, .string ⟨⟨[]⟩⟩, .int .i64 0, .bool false, .int .i64 0, .string ⟨⟨[]⟩⟩, .slice none 0 0] 30)).heap[w.heap.size + 2]? = some (.cells #[.int .i64 0, .int .i64 0, .int .i64 0, .int .i64 0, .int .i64 0, .int .i64 0, .int .i64 0, .int .i64 0, .int .u8 0, .int .u8 0, .int .u8 0, .int .u8 0, .int .u8 0, .int .u8 0, .int .u8 0, .int .u8 0, .int .u8 0, .int .u8 0, .int .u8 0, .int .u8 0, .int .u8 0, .int .u8 0, .int .u8 0, .int .u8 0, .int .u8 0, .int .u8 0, .int .u8 0, .int .u8 0, .int .u8 0, .int .u8 0, .int .u8 0, .int .u8 0, .int .u8 0, .int .u8 0, .int .u8 0, .int .u8 0, .int .u8 0, .int .u8 0, .int .u8 0, .int .u8 0, .slice none 0 0, .string ⟨⟨[]⟩⟩, .int .i64 0, .bool false, .int .i64 0, .string ⟨⟨[]⟩⟩, .slice none 0 0] 30 (0, 0)) := by
    have := heap_alloc_new ((w.alloc (.cells #[.int .i64 0, .int .i64 0, .int .i64 0, .int .i64 0, .int .i64 0, .int .i64 0, .int .i64 0, .int .i64 0, .int .u8 0, .int .u8 0, .int .u8 0, .int .u8 0, .int .u8 0, .int .u8 0, .int .u8 0, .int .u8 0, .int .u8 0, .int .u8 0, .int .u8 0, .int .u8 0, .int .u8 0, .int .u8 0, .int .u8 0, .int .u8 0, .int .u8 0, .int .u8 0, .int .u8 0, .int .u8 0, .int .u8 0, .int .u8 0, .int .u8 0, .int .u8 0, .int .u8 0, .int .u8 0, .int .u8 0, .int .u8 0, .int .u8 0, .int .u8 0, .int .u8 0, .int .u8 0, .slice none 0 0, .string ⟨⟨[]⟩⟩, .int .i64 0, .bool false, .int .i64 0, .string ⟨⟨[]⟩⟩, .slice none 0 0] 30)).alloc (.cells #[.slice ao L.length cap, .int .i64 0, .int .i64 0] 100)) (.cells #[.int .i64 0, .int .i64 0, .int .i64 0, .int .i64 0, .int .i64 0, .int .i64 0, .int .i64 0, .int .i64 0, .int .u8 0, .int .u8 0, .int .u8 0, .int .u8 0, .int .u8 0, .int .u8 0, .int .u8 0, .int .u8 0, .int .u8 0, .int .u8 0, .int .u8 0, .int .u8 0, .int .u8 0, .int .u8 0, .int .u8 0, .int .u8 0, .int .u8 0, .int .u8 0, .int .u8 0, .int .u8 0, .int .u8 0, .int .u8 0, .int .u8 0, .int .u8 0, .int .u8 0, .int .u8 0, .int .u8 0, .int .u8 0, .int .u8 0, .int .u8 0, .int .u8 0, .int .u8 0, .slice none 0 0, .string ⟨⟨[]⟩⟩, .int .i64 0, .bool false, .int .i64 0, .string ⟨⟨[]⟩⟩, .slice none 0 0] 30)
    rwa [World.size_alloc, World.size_alloc] at this
  obtain ⟨m0, HM, hd0, hB0⟩ : ∃ m0 : Msgx, Hid (m0 = zeroMsg) ∧ m0.root.length = 32 ∧ (((w.alloc (.cells #[.int .i64 0, .int .i64 0, .int .i64 0, .int .i64 0, .int .i64 0, .int .i64 0, .int .i64 0, .int .i64 0, .int .u8 0, .int .u8 0, .int .u8 0, .int .u8 0, .int .u8 0, .int .u8 0, .int .u8 0, .int .u8 0, .int .u8 0, .int .u8 0, .int .u8 0, .int .u8 0, .int .u8 0, .int .u8 0, .int .u8 0, .int .u8 0, .int .u8 0, .int .u8 0, .int .u8 0, .int .u8 0, .int .u8 0, .int .u8 0, .int .u8 0, .int .u8 0, .int .u8 0, .int .u8 0, .int .u8 0, .int .u8 0, .int .u8 0, .int .u8 0, .int .u8 0, .int .u8 0, .slice none 0 0, .string ⟨⟨[]⟩⟩, .int .i64 0, .bool false, .int .i64 0, .string ⟨⟨[]⟩⟩, .slice none 0 0] 30)).alloc (.cells #[.slice ao L.length cap, .int .i64 0, .int .i64 0] 100)).alloc (.cells #[.int .i64 0, .int .i64 0, .int .i64 0, .int .i64 0, .int .i64 0, .int .i64 0, .int .i64 0, .int .i64 0, .int .u8 0, .int .u8 0, .int .u8 0, .int .u8 0, .int .u8 0, .int .u8 0, .int .u8 0, .int .u8 0, .int .u8 0, .int .u8 0, .int .u8 0, .int .u8 0, .int .u8 0, .int .u8 0, .int .u8 0, .int .u8 0, .int .u8 0, .int .u8 0, .int .u8 0, .int .u8 0, .int .u8 0, .int .u8 0, .int .u8 0, .int .u8 0, .int .u8 0, .int .u8 0, .int .u8 0, .int .u8 0, .int .u8 0, .int .u8 0, .int .u8 0, .int .u8 0, .slice none 0 0, .string ⟨⟨[]⟩⟩, .int .i64 0, .bool false, .int .i64 0, .string ⟨⟨[]⟩⟩, .slice none 0 0] 30)).heap[w.heap.size + 2]? = some (.cells (m0.cells (.slice none 0 0) (.slice none 0 0)).toArray 30 (0, 0)) := ⟨zeroMsg, by exact rfl, rfl, by rw [hB00, zmsg_lit]⟩
  have hT0 : Fr none' w (((w.alloc (.cells #[.int .i64 0, .int .i64 0, .int .i64 0, .int .i64 0, .int .i64 0, .int .i64 0, .int .i64 0, .int .i64 0, .int .u8 0, .int .u8 0, .int .u8 0, .int .u8 0, .int .u8 0, .int .u8 0, .int .u8 0, .int .u8 0, .int .u8 0, .int .u8 0, .int .u8 0, .int .u8 0, .int .u8 0, .int .u8 0, .int .u8 0, .int .u8 0, .int .u8 0, .int .u8 0, .int .u8 0, .int .u8 0, .int .u8 0, .int .u8 0, .int .u8 0, .int .u8 0, .int .u8 0, .int .u8 0, .int .u8 0, .int .u8 0, .int .u8 0, .int .u8 0, .int .u8 0, .int .u8 0, .slice none 0 0, .string ⟨⟨[]⟩⟩, .int .i64 0, .bool false, .int .i64 0, .string ⟨⟨[]⟩⟩, .slice none 0 0] 30)).alloc (.cells #[.slice ao L.length cap, .int .i64 0, .int .i64 0] 100)).alloc (.cells #[.int .i64 0, .int .i64 0, .int .i64 0, .int .i64 0, .int .i64 0, .int .i64 0, .int .i64 0, .int .i64 0, .int .u8 0, .int .u8 0, .int .u8 0, .int .u8 0, .int .u8 0, .int .u8 0, .int .u8 0, .int .u8 0, .int .u8 0, .int .u8 0, .int .u8 0, .int .u8 0, .int .u8 0, .int .u8 0, .int .u8 0, .int .u8 0, .int .u8 0, .int .u8 0, .int .u8 0, .int .u8 0, .int .u8 0, .int .u8 0, .int .u8 0, .int .u8 0, .int .u8 0, .int .u8 0, .int .u8 0, .int .u8 0, .int .u8 0, .int .u8 0, .int .u8 0, .int .u8 0, .slice none 0 0, .string ⟨⟨[]⟩⟩, .int .i64 0, .bool false, .int .i64 0, .string ⟨⟨[]⟩⟩, .slice none 0 0] 30)) := ((Fr.alloc none' _ _).trans (Fr.alloc none' _ _)).trans (Fr.alloc none' _ _)
  have hI0 := rin_new hP0 hv hT0 (fun k hk => by have := hb k hk; omega) hlen
  clear hB00 hP0 hv hb
  go_enter Tryz.func9, Tryz.ntmps9
  go_wp2_with (first
    | (go_at_call 37; refine (rnum_x _ (w.heap.size + 1) _ hI0).mono ?_; rintro e w1 ⟨k, s1, hx1, hk1, rfl, hI1, hF⟩
       obtain ⟨cur, hcur, hR1⟩ : ∃ cur : Array Value, Hid (cur.size = 47) ∧ w1.heap[w.heap.size]? = some (.cells cur 30 (0, 0)) := ⟨_, by exact rfl, hF.heap hR0 (by omega)⟩
       have hT1 := Fr.step hT0 hF (by omega); have hB1 := hF.heap hB0 (by omega); have c1 := msg_g1 hB1; have hfz1 := frozen_obj hB1; clear hI0 hR0 hB0 hT0 hF)
    | (go_at_call 38; have hgg := hI1; clear hgg; refine (rint_x _ (w.heap.size + 1) _ hI1).mono ?_; rintro e w2 ⟨a1, s2, hx2, hk2, rfl, hI2, hF⟩; have hT2 := Fr.step hT1 hF (by omega); have hR2 := hF.heap hR1 (by omega); have hB2 := hF.heap hB1 (by omega); clear hI1 hT1 hR1 hB1 hF c1 hfz1 hk2; have c2 := msg_g1 hB2; have hfz2 := frozen_obj hB2)
    | (go_at_call 38; have hgg := hI2; clear hgg; refine (rint_x _ (w.heap.size + 1) _ (hI2.set (by omega))).mono ?_; rintro e w3 ⟨a2, s3, hx3, hk3, rfl, hI3, hF⟩; have hT3 := Fr.step (Fr.set hT2 (by omega)) hF (by omega); have hR3 := hF.heap (set_other hR2 (by omega)) (by omega); have hB3 := hF.heap (msg_set1 (x := a1) hB2 hd0) (by omega); clear hI2 hT2 hR2 hB2 hF c2 hfz2 hk3; have c3 := msg_g2 hB3; have hfz3 := frozen_obj hB3)
    | (go_at_call 38; have hgg := hI3; clear hgg; refine (rint_x _ (w.heap.size + 1) _ (hI3.set (by omega))).mono ?_; rintro e w4 ⟨a3, s4, hx4, hk4, rfl, hI4, hF⟩; have hT4 := Fr.step (Fr.set hT3 (by omega)) hF (by omega); have hR4 := hF.heap (set_other hR3 (by omega)) (by omega); have hB4 := hF.heap (msg_set2 (x := a2) hB3 hd0) (by omega); clear hI3 hT3 hR3 hB3 hF c3 hfz3 hk4; have c4 := msg_g3 hB4; have hfz4 := frozen_obj hB4)
    | (go_at_call 38; have hgg := hI4; clear hgg; refine (rint_x _ (w.heap.size + 1) _ (hI4.set (by omega))).mono ?_; rintro e w5 ⟨a4, s5, hx5, hk5, rfl, hI5, hF⟩; have hT5 := Fr.step (Fr.set hT4 (by omega)) hF (by omega); have hR5 := hF.heap (set_other hR4 (by omega)) (by omega); have hB5 := hF.heap (msg_set3 (x := a3) hB4 hd0) (by omega); clear hI4 hT4 hR4 hB4 hF c4 hfz4 hk5; have c5 := msg_g4 hB5; have hfz5 := frozen_obj hB5)
    | (go_at_call 38; have hgg := hI5; clear hgg; refine (rint_x _ (w.heap.size + 1) _ (hI5.set (by omega))).mono ?_; rintro e w6 ⟨a5, s6, hx6, hk6, rfl, hI6, hF⟩; have hT6 := Fr.step (Fr.set hT5 (by omega)) hF (by omega); have hR6 := hF.heap (set_other hR5 (by omega)) (by omega); have hB6 := hF.heap (msg_set4 (x := a4) hB5 hd0) (by omega); clear hI5 hT5 hR5 hB5 hF c5 hfz5 hk6; have c6 := msg_g5 hB6; have hfz6 := frozen_obj hB6)
    | (go_at_call 38; have hgg := hI6; clear hgg; refine (rint_x _ (w.heap.size + 1) _ (hI6.set (by omega))).mono ?_; rintro e w7 ⟨a6, s7, hx7, hk7, rfl, hI7, hF⟩; have hT7 := Fr.step (Fr.set hT6 (by omega)) hF (by omega); have hR7 := hF.heap (set_other hR6 (by omega)) (by omega); have hB7 := hF.heap (msg_set5 (x := a5) hB6 hd0) (by omega); clear hI6 hT6 hR6 hB6 hF c6 hfz6 hk7; have c7 := msg_g6 hB7; have hfz7 := frozen_obj hB7)
    | (go_at_call 38; have hgg := hI7; clear hgg; refine (rint_x _ (w.heap.size + 1) _ (hI7.set (by omega))).mono ?_; rintro e w8 ⟨a7, s8, hx8, hk8, rfl, hI8, hF⟩; have hT8 := Fr.step (Fr.set hT7 (by omega)) hF (by omega); have hR8 := hF.heap (set_other hR7 (by omega)) (by omega); have hB8 := hF.heap (msg_set6 (x := a6) hB7 hd0) (by omega); clear hI7 hT7 hR7 hB7 hF c7 hfz7 hk8; have c8 := msg_g7 hB8; have hfz8 := frozen_obj hB8)
    | (go_at_call 39; refine (rdigest_x _ (w.heap.size + 1) _ (hI8.set (by omega))).mono ?_; rintro e w9 ⟨dg, s9, hx9, hd, rfl, hI9, hF⟩; have hT9 := Fr.step (Fr.set hT8 (by omega)) hF (by omega); have hR9 := hF.heap (set_other hR8 (by omega)) (by omega); have hB9 := hF.heap (msg_set7 (x := a7) hB8 hd0) (by omega); clear hI8 hT8 hR8 hB8 hF c8 hfz8)
    | (refine store23_8 rfl (.tmp 42) (.tmp 41) rfl (w.heap.size + 2) rfl dg hd rfl _ _ _ 30 hB9 hd0 ?_; intro w10 hB10 hF10; have hI10 := hI9.keep hF10 (fun k _ e => by omega); have hT10 := Fr.step hT9 hF10 (by omega); have hR10 := hF10.heap hR9 (by omega); clear hI9 hT9 hR9 hB9 hF10)
    | (go_at_call 37; have hgg := hI10; clear hgg; refine (rnum_x _ (w.heap.size + 1) _ hI10).mono ?_; rintro e w11 ⟨n, s10, hx10, hk10, rfl, hI11, hF⟩; have hT11 := Fr.step hT10 hF (by omega); have hR11 := hF.heap hR10 (by omega); have hB11 := hF.heap hB10 (by omega); clear hI10 hT10 hR10 hB10 hF
       have HX : Hid (hdOf L = ⟨k, a1, a2, a3, a4, a5, a6, a7, dg, n, s10⟩) := hdOf_eq hx1 hx2 hx3 hx4 hx5 hx6 hx7 hx8 hx9 hx10
       obtain ⟨m1, HM1, hd1, hBm⟩ : ∃ m1 : Msgx, Hid (m1 = ⟨m0.kind, a1, a2, a3, a4, a5, a6, a7, dg, m0.entries, m0.data, m0.res⟩) ∧ m1.root.length = 32 ∧ w11.heap[(w.heap.size + 2)]? = some (.cells (m1.cells (.slice none 0 0) (.slice none 0 0)).toArray 30 (0, 0)) := ⟨_, by exact rfl, hd, hB11⟩
       clear hx1 hx2 hx3 hx4 hx5 hx6 hx7 hx8 hx9 hx10 hB11; have c0 := msg_g0 hBm; have hfzm := frozen_obj hBm)
    | (refine build30z rfl rfl ?_)
    | (refine store30m rfl (.tmp 2) (.tmp 55) rfl w.heap.size rfl zeroMsg none 0 0 none 0 0 rfl z32q cur 30 hR11 hcur.out ?_; intro w21 h21z hF21)
    | (have hgg := h21z; clear hgg; refine bodyPost_ret (res_cell_msg rfl w.heap.size rfl zeroMsg _ _ z32q 30 h21z) rfl ?_
       have hn := msgOf_none HX.out (by intro l d' t1 t' t2 r h1 h2 h3; exfalso; simp only at h1 h2 h3; omega)
       show DecPost _ _ _ _ _
       unfold DecPost
       rw [hn]
       exact ⟨_, _, rfl, World.ownsRow_nil _ _ _ _, World.ownsRow_nil _ _ _ _, Fr.step hT11 hF21 (Nat.le_refl _)⟩))
  have hk13 : 1 ≤ k ∧ k ≤ 13 ∧ n ≤ 32 := by omega
  obtain ⟨m2, HM2, hd2, hC0⟩ : ∃ m2 : Msgx, Hid (m2 = { m1 with kind := (k : Int) }) ∧ m2.root.length = 32 ∧ (w11.setCell ⟨w.heap.size + 2, 0, none⟩ (.int .i64 (k : Int))).heap[w.heap.size + 2]? = some (.cells (m2.cells (.slice none 0 0) (.slice none 0 0)).toArray 30 (0, 0)) := ⟨{ m1 with kind := (k : Int) }, by exact rfl, hd1, msg_set0 hBm hd1⟩
  have hI12 := hI11.set (B := w.heap.size + 2) (o := 0) (v := .int .i64 (k : Int)) (by omega)
  have hR12 := set_other (b := w.heap.size + 2) (i := 0) (v := .int .i64 (k : Int)) hR11 (by omega)
  have hT12 := Fr.set (B := w.heap.size + 2) (o := 0) (v := .int .i64 (k : Int)) hT11 (by omega)
  clear hI11 hR11 hT11 hBm c0 hfzm
  go_loopw [8] (fun u8 w4 => ∃ (i : Nat) (l : List Entx) (s1 : St) (ao : Option Addr) (nn cp : Nat), i ≤ n ∧ u8 = .int .i64 (i : Nat) ∧ w4.heap[w.heap.size + 2]? = some (.cells (m2.cells (.slice ao nn cp) (.slice none 0 0)).toArray 30 (0, 0)) ∧ Oe (w.heap.size + 3) w4 (.slice ao nn cp) l ∧ l.length = i ∧
    RinAt w4 (w.heap.size + 1) s1 ∧ rdE n s10 = ((rdE (n - i) s1).1.map (fun r => l ++ r), (rdE (n - i) s1).2) ∧ w4.heap[w.heap.size]? = some (.cells cur 30 (0, 0)) ∧ Fr none' w w4) (fun i _ => n - (intOf i).toNat)
  case atStart => exact ⟨0, [], s10, none, 0, 0, by omega, rfl, hC0, World.ownsRow_nil _ _ _ _, rfl, hI12, by simp, hR12, hT12⟩
  case round =>
    clear hC0 hI12 hR12 hT12
    obtain ⟨i, l, s1, ao, nn, cp, hi, rfl, hC, ho, hli, hI, hrd, hRr, hTr⟩ := hrel
    have HRD : Hid (rdE n s10 = ((rdE (n - i) s1).1.map (fun r => l ++ r), (rdE (n - i) s1).2)) := hrd
    have HLI : Hid (l.length = i) := hli
    clear hrd hli
    have hbk : ∀ k, (Value.slice ao nn cp).ownBlock = some k → w.heap.size + 3 ≤ k := fun k hk => (World.ownsRow.lt ho k hk).1
    have hbk2 : ∀ k, (Value.slice ao nn cp).ownBlock = some k → k < wr.heap.size := fun k hk => (World.ownsRow.lt ho k hk).2
    have hltr := lt_of_heap hC
    by_cases hin : i < n
    · go_wp2_with (first
        | (go_at_call 38; have hgg := hI2; clear hgg; refine (rint_x _ (w.heap.size + 1) _ (hI2.set (by omega))).mono ?_; rintro e w3 ⟨nb, s3, hx3, hk3, rfl, hI3, hF3⟩; have hX3 := hF3.heap (set8_0 hX2) (by omega); have hC3 := hF3.heap (set_other hC2 (by omega)) (by omega); have hR3 := hF3.heap (set_other hR2 (by omega)) (by omega); have hT3 := Fr.step (Fr.set hT2 (by omega)) hF3 (by omega); have ho3 := oe_fr (oe_fr ho2 (Fr.setAt _ wr.heap.size 0 (.int .i64 cl)) (fun k hk e => by have := hbk2 k hk; omega)) hF3 (fun k hk e => by have := hbk k hk; omega); clear hI2 hF3 hX2 hC2 hR2 hT2 ho2 e0 hfz2; have e1 := (cells8 hX3).2; have hfz3 := frozen_obj hX3)
        | (go_at_call 38; refine (rint_x _ (w.heap.size + 1) _ (hI.fr (Fr.alloc none' _ _))).mono ?_; rintro e w2 ⟨cl, s2, hx2, hk2, rfl, hI2, hF2⟩; have hX2 := hF2.heap (heap_alloc_new wr _) (by omega); have hC2 := hF2.heap (new_other hC) (by omega); have hR2 := hF2.heap (new_other hRr) (by omega); have hT2 := Fr.step (Fr.new hTr) hF2 (by omega); have ho2 := oe_fr (oe_fr ho (Fr.alloc none' _ _) (fun _ _ h => h)) hF2 (fun k hk e => by have := hbk k hk; omega); clear hF2; have e0 := (cells8 hX2).1; have hfz2 := frozen_obj hX2)
        | (go_at_call 41; refine (rtext_x _ (w.heap.size + 1) _ (hI3.set (by omega)) 262144 (by omega)).mono ?_; rintro e w4 ⟨tx, s4, hx4, hk4, rfl, hI4, hF4⟩; have hX4 := hF4.heap (set8_1 hX3) (by omega); have hC4 := hF4.heap (set_other hC3 (by omega)) (by omega); have hR4 := hF4.heap (set_other hR3 (by omega)) (by omega); have hT4 := Fr.step (Fr.set hT3 (by omega)) hF4 (by omega); have ho4 := oe_fr (oe_fr ho3 (Fr.setAt _ wr.heap.size 1 (.int .i64 nb)) (fun k hk e => by have := hbk2 k hk; omega)) hF4 (fun k hk e => by have := hbk k hk; omega); clear hI3 hF4 hX3 hC3 hR3 hT3 ho3 e1 hfz3)
        | (refine conv31 rfl (.tmp 73) rfl tx rfl ?_; intro bvv w5 hsl5 hF5 hb5; have hX5 := hF5.heap hX4 (fun h => h); have hC5 := hF5.heap hC4 (fun h => h); have hR5 := hF5.heap hR4 (fun h => h); have hT5 := hT4.trans hF5; have ho5 := oe_fr ho4 hF5 (fun _ _ h => h); have hI5 := hI4.fr hF5; clear hF5 hX4 hC4 hR4 hT4 ho4 hI4)
        | (go_at_call 40; refine (rfDecode_spec _ _ tx hsl5 (fun k hk => (hb5 k hk).2) (by omega)).mono ?_; rintro e w6 ⟨rfl, hF6⟩; have hX6 := hF6.heap hX5 (fun h => h); have hC6 := hF6.heap hC5 (fun h => h); have hR6 := hF6.heap hR5 (fun h => h); have hT6 := hT5.trans hF6; have ho6 := oe_fr ho5 hF6 (fun _ _ h => h); have hI6 := hI5.fr hF6; have hlX6 := lt_of_heap hX6; clear hF6 hX5 hC5 hR5 hT5 ho5 hI5)
        | (refine store49 rfl (.tmp 10) (.tmp 76) rfl w6.heap.size rfl ((opOf tx).getD zeroOp).cells rfl rfl (by simp [Opx.cells, Value.oneCell']) _ 49 (heap_alloc_new w6 _) rfl ?_; intro w7 h7 hF7; have hX7 := hF7.heap (new_other hX6) (by omega); have hC7 := hF7.heap (new_other hC6) (by omega); have hR7 := hF7.heap (new_other hR6) (by omega); have hT7 := Fr.step (Fr.new hT6) hF7 (by omega); have ho7 := oe_fr (oe_fr ho6 (Fr.alloc none' _ _) (fun _ _ h => h)) hF7 (fun k hk e => by have := (World.ownsRow.lt ho6 k hk).2; omega); have hI7 := (hI6.fr (Fr.alloc none' _ _)).keep hF7 (fun k _ e => by omega); clear hF7 hX6 hC6 hR6 hT6 ho6 hI6)
        | (refine load49 rfl (.tmp 10) rfl w6.heap.size 0 rfl _ rfl (cells_of h7) ?_)
        | (refine store49_2 rfl (.tmp 82) (.tmp 81) rfl wr.heap.size rfl ((opOf tx).getD zeroOp).cells rfl rfl (by simp [Opx.cells, Value.oneCell']) _ _ _ _ _ _ _ _ 51 hX7 ?_; intro w8 h8 hF8
           have h8' : w8.heap[wr.heap.size]? = some (.cells (Entx.cells ⟨cl, nb, (opOf tx).getD zeroOp⟩).toArray 51 (0, 0)) := h8
           have hC8 := hF8.heap hC7 (by omega); have hR8 := hF8.heap hR7 (by omega); have hT8 := Fr.step hT7 hF8 (by omega); have ho8 := oe_fr ho7 hF8 (fun k hk e => by have := hbk2 k hk; omega); have hI8 := hI7.keep hF8 (fun k _ e => by omega); clear hF8 hX7 hC7 hR7 hT7 ho7 hI7 h8; have c40 := msg_c40 hC8 hd2)
        | (refine load51 rfl (.tmp 9) rfl wr.heap.size 0 rfl [.int .i64 cl, .int .i64 nb, .int .i64 ((opOf tx).getD zeroOp).kind, .string ⟨⟨((opOf tx).getD zeroOp).path⟩⟩, .string ⟨⟨((opOf tx).getD zeroOp).to⟩⟩, .string ⟨⟨((opOf tx).getD zeroOp).data⟩⟩, .int .i64 ((opOf tx).getD zeroOp).at_, .int .i64 ((opOf tx).getD zeroOp).size] rfl (cells_of h8') ?_)
        | (at_builtin; refine app24 rfl (.tmp 84) (.tmp 86) rfl (w.heap.size + 3) (.slice ao nn cp) l ⟨cl, nb, (opOf tx).getD zeroOp⟩ rfl (oe_fr ho8 (Fr.alloc none' _ _) (fun _ _ h => h)) w8.heap.size rfl 51 (heap_alloc_new w8 _) (by have := HLI.out; omega) (by have := lt_of_heap h8'; simp; omega) ?_; intro v9 w9 ho9 hg9
           obtain ⟨ao9, n9, cp9, -, rfl⟩ := oe_shape ho9; have hlt8 := lt_of_heap h8'; have hC9 := grown_heap hg9 (new_other hC8) (fun k hk => by have := hbk k hk; omega); have hR9 := grown_heap hg9 (new_other hR8) (fun k hk => by have := hbk k hk; omega); have hI9 := (hI8.fr (Fr.alloc none' _ _)).keep (Fr.of_grown hg9) (fun k hk e => by have := hbk k e.symm; omega); have hT9 := Fr.trans' (Fr.new hT8) (Fr.of_grown hg9) (fun y hy e => by have := hbk y e.symm; omega); clear hg9 hC8 hR8 hI8 hT8 ho8 h8' c40; have c40 := msg_c40 hC9 hd2; have hfz9 := frozen_obj hC9)
        | (refine build30z rfl rfl ?_)
        | (refine store30m rfl (.tmp 2) (.tmp 80) rfl w.heap.size rfl zeroMsg none 0 0 none 0 0 rfl z32q cur 30 hR7 hcur.out ?_; intro w21 h21z hF21)
        | (have hgg := h21z; clear hgg; refine bodyPost_ret (res_cell_msg rfl w.heap.size rfl zeroMsg _ _ z32q 30 h21z) rfl ?_
           have hno : opOf tx = none := by cases ho : opOf tx with | none => rfl | some o => (exfalso; simp_all; done)
           have hi1 : n - i = (n - (i + 1)) + 1 := by omega
           have hrn : (rdE n s10).1 = none := by rw [HRD.out, hi1, rdE_none hx2 hx3 hx4 hno]; rfl
           have hn := msgOf_none HX.out (by intro l d' t1 t' t2 r h1 h2 h3 h4; exfalso; simp only [hrn] at h4; cases h4)
           show DecPost _ _ _ _ _
           unfold DecPost
           rw [hn]
           exact ⟨_, _, rfl, World.ownsRow_nil _ _ _ _, World.ownsRow_nil _ _ _ _, Fr.step hT7 hF21 (Nat.le_refl _)⟩))
      case roundEnd =>
        have hso : opOf tx = some ((opOf tx).getD zeroOp) := by cases ho : opOf tx with | none => (exfalso; simp_all; done) | some o => rfl
        have hi1 : n - i = (n - (i + 1)) + 1 := by omega
        refine ⟨⟨i + 1, l ++ [⟨cl, nb, (opOf tx).getD zeroOp⟩], s4, ao9, n9, cp9, by omega, by simp, msg_set40 (v := .slice ao9 n9 cp9) hC9 hd2, oe_fr ho9 (Fr.setAt _ _ _ _) (fun k hk e => by have := (World.ownsRow.lt ho9 k hk).1; omega), by rw [List.length_append, HLI.out]; rfl, hI9.set (by omega), ?_, set_other hR9 (by omega), Fr.set hT9 (by omega)⟩, ?_⟩
        · rw [HRD.out, hi1, rdE_some hx2 hx3 hx4 hso]
          simp [Option.map_map, Function.comp_def]
        · simp [intOf]; omega
    · have hni : n = i := by omega
      have hrn : rdE n s10 = (some l, s1) := by rw [HRD.out, hni]; simp [rdE]
      have HRN : Hid (rdE n s10 = (some l, s1)) := hrn
      have HOK : Hid (entOk n s10 = true) := (by simp [entOk, hrn, hk13.2.2] : entOk n s10 = true)
      have HMM : Hid (m2 = ⟨(k : Int), a1, a2, a3, a4, a5, a6, a7, dg, [], [], zeroRes⟩) := (by rw [HM2.out, HM1.out, HM.out]; rfl : m2 = ⟨(k : Int), a1, a2, a3, a4, a5, a6, a7, dg, [], [], zeroRes⟩)
      clear hrn hbk2
      go_wp2_with (first
      | (go_at_call 41; have hgg := hI3; clear hgg; refine (rtext_x _ (w.heap.size + 1) _ (hI3.set (by omega)) 1048576 (by omega)).mono ?_; rintro e w4 ⟨tx, s4, hx4, hk4, rfl, hI4, hF4⟩; have hC4 := hF4.heap (msg_set41 (D := d) hC3 hd2) (by omega); have hR4 := hF4.heap (set_other hR3 (by omega)) (by omega); have hT4 := Fr.step (Fr.set hT3 (by omega)) hF4 (by omega); have ho4 := oe_fr (oe_fr ho3 (Fr.setAt _ (w.heap.size + 2) 41 (.string ⟨⟨d⟩⟩)) (fun k hk e => by have := hbk k hk; omega)) hF4 (fun k hk e => by have := hbk k hk; omega); clear hI3 hF4 hC3 hR3 hT3 ho3 c41 hfz3)
      | (go_at_call 41; refine (rtext_x _ (w.heap.size + 1) _ hI 4096 (by omega)).mono ?_; rintro e w3 ⟨d, s3, hx3, hk3, rfl, hI3, hF3⟩; have hC3 := hF3.heap hC (by omega); have hR3 := hF3.heap hRr (by omega); have hT3 := Fr.step hTr hF3 (by omega); have ho3 := oe_fr ho hF3 (fun k hk e => by have := hbk k hk; omega); clear hF3; have c41 := msg_d hC3 hd2; have hfz3 := frozen_obj hC3)
      | (refine conv31 rfl (.tmp 94) rfl tx rfl ?_; intro bvv w5 hsl5 hF5 hb5; have hC5 := hF5.heap hC4 (fun h => h); have hR5 := hF5.heap hR4 (fun h => h); have hT5 := hT4.trans hF5; have ho5 := oe_fr ho4 hF5 (fun _ _ h => h); have hI5 := hI4.fr hF5; have hlC5 := lt_of_heap hC5; clear hF5 hC4 hR4 hT4 ho4 hI4)
      | (go_at_call 42; refine (rfUnpack_spec _ _ tx hsl5 (fun k hk => (hb5 k hk).2) (by omega)).mono ?_; rintro e w6 ⟨nv, rfl, hN6, hF6⟩; obtain ⟨no, nn2, nc, -, rfl⟩ := on_shape hN6; have hC6 := hF6.heap hC5 (fun h => h); have hR6 := hF6.heap hR5 (fun h => h); have hT6 := hT5.trans hF6; have ho6 := oe_fr ho5 hF6 (fun _ _ h => h); have hI6 := hI5.fr hF6; have hlC6 := lt_of_heap hC6; clear hF6 hC5 hR5 hT5 ho5 hI5)
      | (refine store28 rfl (.tmp 12) (.tmp 97) rfl w6.heap.size rfl [.int .i64 ((resOf tx).getD zeroRes).code, .bool ((resOf tx).getD zeroRes).dir, .int .i64 ((resOf tx).getD zeroRes).size, .string ⟨⟨((resOf tx).getD zeroRes).data⟩⟩, .slice no nn2 nc] rfl rfl (by simp [Value.oneCell']) _ 28 (heap_alloc_new w6 _) rfl ?_; intro w7 h7 hF7; have hC7 := hF7.heap (new_other hC6) (by omega); have hR7 := hF7.heap (new_other hR6) (by omega); have hT7 := Fr.step (Fr.new hT6) hF7 (by omega); have ho7 := oe_fr (oe_fr ho6 (Fr.alloc none' _ _) (fun _ _ h => h)) hF7 (fun k hk e => by have := (World.ownsRow.lt ho6 k hk).2; omega); have hN7 := on_fr (on_fr hN6 (Fr.alloc none' _ _) (fun _ _ h => h)) hF7 (fun k hk e => by have := (World.ownsRow.lt hN6 k hk).2; omega); have hI7 := (hI6.fr (Fr.alloc none' _ _)).keep hF7 (fun k _ e => by omega); clear hF7 hC6 hR6 hT6 ho6 hI6 hN6
         have HY : Hid (rdS (rText 4096) [] s1 = (d, s3) ∧ rdS (rText 1048576) [] s3 = (tx, s4)) := ⟨hx3, hx4⟩
         have HN : Hid (On w5.heap.size w7 (.slice no nn2 nc) ((resOf tx).getD zeroRes).names) := hN7
         have HO : Hid (∀ l', n ≤ 32 → (rdE n s10).1 = some l' → Oe (w.heap.size + 3) w7 (.slice ao nn cp) l' ∧ s1 = (rdE n s10).2) := fun l' _ h => by rw [HRN.out] at h ⊢; obtain rfl : l = l' := Option.some.inj h; exact ⟨ho7, rfl⟩
         have HQ : Hid (w.heap.size + 2 < w5.heap.size) := (by omega : w.heap.size + 2 < w5.heap.size)
         obtain ⟨ec, hec, heq⟩ := hI7.err
         clear hx3 hx4 ho7 hN7 hk3 hk4 hb5 hsl5 hlC5
         have hcases : (s4 = none ∧ ec ≠ 0) ∨ (s4 = some [] ∧ ec = 0) ∨ (∃ c9 r9, s4 = some (c9 :: r9) ∧ ec = 0) := by
           cases s4 with
           | none => exact .inl ⟨rfl, by simpa using heq⟩
           | some l =>
             cases l with
             | nil => exact .inr (.inl ⟨rfl, heq.2 rfl⟩)
             | cons c r => exact .inr (.inr ⟨c, r, rfl, heq.2 rfl⟩)
         clear heq
         have hr2 : (resOf tx).isSome = false ∨ (resOf tx).isSome = true := by cases (resOf tx).isSome <;> simp
         rcases hcases with ⟨rfl, hne⟩ | ⟨rfl, rfl⟩ | ⟨c9, r9, rfl, rfl⟩ <;> rcases hr2 with hrs | hrs <;> have HRS : Hid (_) := hrs <;> rw [hrs] <;> clear hrs)
      | (go_at_call 43; refine (left_spec _ (w.heap.size + 1) _ hI7).mono ?_; rintro e w8 ⟨rfl, rfl⟩)
      | (refine build30z rfl rfl ?_)
      | (refine store30m rfl (.tmp 2) (.tmp 113) rfl w.heap.size rfl zeroMsg none 0 0 none 0 0 rfl z32q cur 30 (by first | exact hR7 | exact drew_heap hR7) hcur.out ?_; intro w21 h21z hF21)
      | (refine load28 rfl (.tmp 12) rfl w6.heap.size 0 rfl _ rfl (cells_of (drew_heap h7)) ?_)
      | (refine store28_42 rfl (.tmp 115) (.tmp 114) rfl (w.heap.size + 2) rfl ((resOf tx).getD zeroRes) _ ⟨_, _, _, rfl⟩ rfl _ _ _ 30 (drew_heap hC7) hd2 ?_; intro w9 hC9 hF9)
      | (refine load30m rfl (.tmp 5) rfl (w.heap.size + 2) rfl ({ m2 with data := d, res := ((resOf tx).getD zeroRes) } : Msgx) (.slice ao nn cp) (.slice no nn2 nc) 30 hC9 hd2 ?_)
      | (refine store30m rfl (.tmp 2) (.tmp 116) rfl w.heap.size rfl ({ m2 with data := d, res := ((resOf tx).getD zeroRes) } : Msgx) ao nn cp no nn2 nc rfl hd2 cur 30 (hF9.heap (drew_heap hR7) (by omega)) hcur.out ?_; intro w21 h21m hF21)
      | (have hgg := h21z; clear hgg; refine bodyPost_ret (res_cell_msg rfl w.heap.size rfl zeroMsg _ _ z32q 30 h21z) rfl ?_
         have hn := dec_none HX HY HO (by first | exact .inr (.inl HRS.out) | exact .inr (.inr (.inl (by simp))))
         show DecPost _ _ _ _ _
         unfold DecPost
         rw [hn]
         exact ⟨_, _, rfl, World.ownsRow_nil _ _ _ _, World.ownsRow_nil _ _ _ _, by first | exact Fr.step hT7 hF21 (Nat.le_refl _) | exact Fr.step (hT7.trans (Fr.drew _ _)) hF21 (Nat.le_refl _)⟩)
      | (have hgg := h21m; clear hgg; refine bodyPost_ret (res_cell_msg rfl w.heap.size rfl ({ m2 with data := d, res := ((resOf tx).getD zeroRes) } : Msgx) _ _ hd2 30 h21m) rfl ?_
         have hfin := fin_some2 (c := .bool true) HX HY (HOe_fr HO ((Fr.drew (· = w.heap.size + 2) _).trans hF9) (fun k hk hk' => by omega)) HMM rfl hk13.1 hk13.2.1 HOK.out HRS.out rfl (on_fr HN.out ((Fr.drew (· = w.heap.size + 2) _).trans hF9) (fun k hk e => by have := (World.ownsRow.lt HN.out k hk).1; have := HQ.out; omega)) (by have := HQ.out; omega) (by omega) (Fr.step (hT7.trans (Fr.drew _ _)) hF9 (by omega)) hF21 (by have := HQ.out; omega) _ rfl
         rw [hfin.1]
         exact hfin.2))

end Go.Proofs
