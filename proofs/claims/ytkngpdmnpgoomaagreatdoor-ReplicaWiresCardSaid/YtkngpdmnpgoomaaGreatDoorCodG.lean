/-
  The codec: messages out of bytes, as the program reads them. Conditions: the bounds that each contract states.
-/
import Derived.Test.YtkngpdmnpgoomaaGreatDoorCodF
import Derived.Test.YtkngpdmnpgoomaaGreatDoorCodD
/-! F1 -/
namespace Go.Proofs
open Go.RowKit Go.Wires
set_option maxHeartbeats 8000000
set_option maxRecDepth 100000
def zeroMsg : Msgx := ⟨0, 0, 0, 0, 0, 0, 0, 0, Z32, [], [], zeroRes⟩
/-- A message's first fields. -/
structure Hd where
  kind : Nat
  src : Int
  dst : Int
  view : Int
  normal : Int
  last : Int
  commit : Int
  behind : Int
  root : List UInt8
  n : Nat
  s : St
def hdOf (L : List UInt8) : Hd :=
  let k := rdS rNum 0 (some L)
  let a := rdS rInt 0 k.2
  let b := rdS rInt 0 a.2
  let c := rdS rInt 0 b.2
  let d := rdS rInt 0 c.2
  let e := rdS rInt 0 d.2
  let f := rdS rInt 0 e.2
  let g := rdS rInt 0 f.2
  let r := rdS (rTake 32) Z32 g.2
  let n := rdS rNum 0 r.2
  ⟨k.1, a.1, b.1, c.1, d.1, e.1, f.1, g.1, r.1, n.1, n.2⟩
/-- The message that bytes mean. -/
def msgOf (L : List UInt8) : Option Msgx :=
  let h := hdOf L
  let es := rdE h.n h.s
  let d := rdS (rText 4096) [] es.2
  let t := rdS (rText 1048576) [] d.2
  if 1 ≤ h.kind ∧ h.kind ≤ 13 ∧ h.n ≤ 32 then
    es.1.bind fun l => (resOf t.1).bind fun r => if t.2 = some [] then some ⟨h.kind, h.src, h.dst, h.view, h.normal, h.last, h.commit, h.behind, h.root, l, d.1, r⟩ else none
  else none
theorem hdOf_eq {L dg : List UInt8} {k n : Nat} {a b c d e f g : Int} {s1 s2 s3 s4 s5 s6 s7 s8 s9 s10 : St} (h1 : rdS rNum 0 (some L) = (k, s1)) (h2 : rdS rInt 0 s1 = (a, s2)) (h3 : rdS rInt 0 s2 = (b, s3)) (h4 : rdS rInt 0 s3 = (c, s4))
    (h5 : rdS rInt 0 s4 = (d, s5)) (h6 : rdS rInt 0 s5 = (e, s6)) (h7 : rdS rInt 0 s6 = (f, s7)) (h8 : rdS rInt 0 s7 = (g, s8)) (h9 : rdS (rTake 32) Z32 s8 = (dg, s9)) (h10 : rdS rNum 0 s9 = (n, s10)) :
    hdOf L = ⟨k, a, b, c, d, e, f, g, dg, n, s10⟩ := by
  simp only [hdOf, h1, h2, h3, h4, h5, h6, h7, h8, h9, h10]
theorem msgOf_none {L : List UInt8} {H : Hd} (hH : hdOf L = H) (h : ∀ l d s1 t s2 r, 1 ≤ H.kind → H.kind ≤ 13 → H.n ≤ 32 → (rdE H.n H.s).1 = some l → rdS (rText 4096) [] (rdE H.n H.s).2 = (d, s1) → rdS (rText 1048576) [] s1 = (t, s2) → resOf t = some r → s2 ≠ some []) : msgOf L = none := by
  subst hH
  simp only [msgOf]
  split
  · rename_i hc
    cases he : (rdE (hdOf L).n (hdOf L).s).1 with
    | none => rfl
    | some l =>
      simp only [Option.bind_some]
      cases hr : resOf (rdS (rText 1048576) [] (rdS (rText 4096) [] (rdE (hdOf L).n (hdOf L).s).2).2).1 with
      | none => rfl
      | some r =>
        simp only [Option.bind_some]
        rw [if_neg]
        exact h l _ _ _ _ r hc.1 hc.2.1 hc.2.2 he rfl rfl hr
  · rfl
theorem msgOf_some {L : List UInt8} {H : Hd} (hH : hdOf L = H) {l : List Entx} {d t : List UInt8} {s1 : St} {r : Resx} (h1 : 1 ≤ H.kind) (h2 : H.kind ≤ 13) (h3 : H.n ≤ 32) (he : (rdE H.n H.s).1 = some l)
    (hd : rdS (rText 4096) [] (rdE H.n H.s).2 = (d, s1)) (ht : rdS (rText 1048576) [] s1 = (t, some [])) (hr : resOf t = some r) :
    msgOf L = some ⟨H.kind, H.src, H.dst, H.view, H.normal, H.last, H.commit, H.behind, H.root, l, d, r⟩ := by
  subst hH
  simp only [msgOf, hd, ht, he, hr, h1, h2, h3, and_self, if_true, Option.bind_some]
theorem bvs32 {X : List UInt8} (h : X.length = 32) : ∃ x0 x1 x2 x3 x4 x5 x6 x7 x8 x9 x10 x11 x12 x13 x14 x15 x16 x17 x18 x19 x20 x21 x22 x23 x24 x25 x26 x27 x28 x29 x30 x31, (bvs X).toArray = #[x0, x1, x2, x3, x4, x5, x6, x7, x8, x9, x10, x11, x12, x13, x14, x15, x16, x17, x18, x19, x20, x21, x22, x23, x24, x25, x26, x27, x28, x29, x30, x31] := by
  match X, h with
  | [x0, x1, x2, x3, x4, x5, x6, x7, x8, x9, x10, x11, x12, x13, x14, x15, x16, x17, x18, x19, x20, x21, x22, x23, x24, x25, x26, x27, x28, x29, x30, x31], _ => exact ⟨bv x0, bv x1, bv x2, bv x3, bv x4, bv x5, bv x6, bv x7, bv x8, bv x9, bv x10, bv x11, bv x12, bv x13, bv x14, bv x15, bv x16, bv x17, bv x18, bv x19, bv x20, bv x21, bv x22, bv x23, bv x24, bv x25, bv x26, bv x27, bv x28, bv x29, bv x30, bv x31, rfl⟩
theorem Tryz.built30 (k a b c d e f g : Int) (x0 x1 x2 x3 x4 x5 x6 x7 x8 x9 x10 x11 x12 x13 x14 x15 x16 x17 x18 x19 x20 x21 x22 x23 x24 x25 x26 x27 x28 x29 x30 x31 : Value) : Tryz.prog.built 30 [(0, .int .i64 k), (1, .int .i64 a), (2, .int .i64 b), (3, .int .i64 c), (4, .int .i64 d), (5, .int .i64 e), (6, .int .i64 f), (7, .int .i64 g), (8, .agg #[x0, x1, x2, x3, x4, x5, x6, x7, x8, x9, x10, x11, x12, x13, x14, x15, x16, x17, x18, x19, x20, x21, x22, x23, x24, x25, x26, x27, x28, x29, x30, x31])] =
    some #[.int .i64 k, .int .i64 a, .int .i64 b, .int .i64 c, .int .i64 d, .int .i64 e, .int .i64 f, .int .i64 g, x0, x1, x2, x3, x4, x5, x6, x7, x8, x9, x10, x11, x12, x13, x14, x15, x16, x17, x18, x19, x20, x21, x22, x23, x24, x25, x26, x27, x28, x29, x30, x31, .slice none 0 0, .string ⟨⟨[]⟩⟩, .int .i64 0, .bool false, .int .i64 0, .string ⟨⟨[]⟩⟩, .slice none 0 0] := by kernel_rfl
section
variable {w : World} {ops : Array Oper} {rest : List Oper} {o : Oper} {a : Act} {Q : Exit → Act → World → Prop}
theorem cells_app {k a1 a2 a3 a4 a5 a6 a7 : Int} {R : List UInt8} {x0 x1 x2 x3 x4 x5 x6 x7 x8 x9 x10 x11 x12 x13 x14 x15 x16 x17 x18 x19 x20 x21 x22 x23 x24 x25 x26 x27 x28 x29 x30 x31 : Value} (hx : (bvs R).toArray = #[x0, x1, x2, x3, x4, x5, x6, x7, x8, x9, x10, x11, x12, x13, x14, x15, x16, x17, x18, x19, x20, x21, x22, x23, x24, x25, x26, x27, x28, x29, x30, x31]) (ev nv : Value) (es : List Entx) (dt : List UInt8) (r : Resx) :
    (Msgx.cells ⟨k, a1, a2, a3, a4, a5, a6, a7, R, es, dt, r⟩ ev nv).toArray = #[.int .i64 k, .int .i64 a1, .int .i64 a2, .int .i64 a3, .int .i64 a4, .int .i64 a5, .int .i64 a6, .int .i64 a7, x0, x1, x2, x3, x4, x5, x6, x7, x8, x9, x10, x11, x12, x13, x14, x15, x16, x17, x18, x19, x20, x21, x22, x23, x24, x25, x26, x27, x28, x29, x30, x31, ev, .string ⟨⟨dt⟩⟩, .int .i64 r.code, .bool r.dir, .int .i64 r.size, .string ⟨⟨r.data⟩⟩, nv] := by
  have : bvs R = [x0, x1, x2, x3, x4, x5, x6, x7, x8, x9, x10, x11, x12, x13, x14, x15, x16, x17, x18, x19, x20, x21, x22, x23, x24, x25, x26, x27, x28, x29, x30, x31] := by have := congrArg Array.toList hx; simpa using this
  simp only [Msgx.cells, this, List.cons_append, List.nil_append]
theorem build30 (hgd : o.guard = none) (p0 p1 p2 p3 p4 p5 p6 p7 p8 : Operand) (ho : o.op = .build 30 #[(0, p0), (1, p1), (2, p2), (3, p3), (4, p4), (5, p5), (6, p6), (7, p7), (8, p8)]) (k a1 a2 a3 a4 a5 a6 a7 : Int) (R : List UInt8)
    (h0 : a.eval p0 = .int .i64 k) (h1 : a.eval p1 = .int .i64 a1) (h2 : a.eval p2 = .int .i64 a2) (h3 : a.eval p3 = .int .i64 a3) (h4 : a.eval p4 = .int .i64 a4) (h5 : a.eval p5 = .int .i64 a5) (h6 : a.eval p6 = .int .i64 a6) (h7 : a.eval p7 = .int .i64 a7)
    (h8 : a.eval p8 = .agg (bvs R).toArray) (hR : R.length = 32)
    (h : wpList Tryz.prog ops Q rest (a.put o.dst (.agg (Msgx.cells ⟨k, a1, a2, a3, a4, a5, a6, a7, R, [], [], zeroRes⟩ (.slice none 0 0) (.slice none 0 0)).toArray)) w) : wpList Tryz.prog ops Q (o :: rest) a w := by
  obtain ⟨x0, x1, x2, x3, x4, x5, x6, x7, x8, x9, x10, x11, x12, x13, x14, x15, x16, x17, x18, x19, x20, x21, x22, x23, x24, x25, x26, x27, x28, x29, x30, x31, hx⟩ := bvs32 hR
  have hb := Tryz.built30 k a1 a2 a3 a4 a5 a6 a7 x0 x1 x2 x3 x4 x5 x6 x7 x8 x9 x10 x11 x12 x13 x14 x15 x16 x17 x18 x19 x20 x21 x22 x23 x24 x25 x26 x27 x28 x29 x30 x31
  have e : (#[(0, p0), (1, p1), (2, p2), (3, p3), (4, p4), (5, p5), (6, p6), (7, p7), (8, p8)].map fun (i, x) => (i, a.eval x)).toList = [(0, .int .i64 k), (1, .int .i64 a1), (2, .int .i64 a2), (3, .int .i64 a3), (4, .int .i64 a4), (5, .int .i64 a5), (6, .int .i64 a6), (7, .int .i64 a7), (8, .agg #[x0, x1, x2, x3, x4, x5, x6, x7, x8, x9, x10, x11, x12, x13, x14, x15, x16, x17, x18, x19, x20, x21, x22, x23, x24, x25, x26, x27, x28, x29, x30, x31])] := by
    simp [h0, h1, h2, h3, h4, h5, h6, h7, h8, hx]
  refine wpList_build hgd 30 _ ho (by rw [e, hb]; rfl) ?_
  rw [e, hb]
  rw [cells_app hx] at h
  exact h
theorem msg_set40 {m : Msgx} {ev nv v : Value} {B : Nat} {T : TypeId} (h : w.heap[B]? = some (.cells (m.cells ev nv).toArray T (0, 0))) (hr : m.root.length = 32) : (w.setCell ⟨B, 40, none⟩ v).heap[B]? = some (.cells (m.cells v nv).toArray T (0, 0)) := by
  obtain ⟨x0, x1, x2, x3, x4, x5, x6, x7, x8, x9, x10, x11, x12, x13, x14, x15, x16, x17, x18, x19, x20, x21, x22, x23, x24, x25, x26, x27, x28, x29, x30, x31, hx⟩ := bvs32 hr
  obtain ⟨k, a1, a2, a3, a4, a5, a6, a7, R, es, dt, r⟩ := m
  rw [cells_app hx] at h ⊢
  exact heap_setCell_same w B 40 _ T v h
theorem msg_set41 {m : Msgx} {ev nv : Value} {D : List UInt8} {B : Nat} {T : TypeId} (h : w.heap[B]? = some (.cells (m.cells ev nv).toArray T (0, 0))) (hr : m.root.length = 32) : (w.setCell ⟨B, 41, none⟩ (.string ⟨⟨D⟩⟩)).heap[B]? = some (.cells (({ m with data := D } : Msgx).cells ev nv).toArray T (0, 0)) := by
  obtain ⟨x0, x1, x2, x3, x4, x5, x6, x7, x8, x9, x10, x11, x12, x13, x14, x15, x16, x17, x18, x19, x20, x21, x22, x23, x24, x25, x26, x27, x28, x29, x30, x31, hx⟩ := bvs32 hr
  obtain ⟨k, a1, a2, a3, a4, a5, a6, a7, R, es, dt, r⟩ := m
  rw [cells_app hx] at h ⊢
  exact heap_setCell_same w B 41 _ T _ h
theorem msg_ents (m : Msgx) (ev nv : Value) (es : List Entx) : m.cells ev nv = ({ m with entries := es } : Msgx).cells ev nv := rfl
theorem store28_42 (hgd : o.guard = none) (x y : Operand) (ho : o.op = .store 28 x y) (b : Nat) (hx : a.eval x = .pointer (some ⟨b, 42, none⟩)) (r : Resx) (rv : Value) (hrv : ∃ ao n c, rv = .slice ao n c) (hy : a.eval y = r.val rv)
    (m : Msgx) (ev nv : Value) (T : TypeId) (hb : w.heap[b]? = some (.cells (m.cells ev nv).toArray T (0, 0))) (hr : m.root.length = 32)
    (h : ∀ w', w'.heap[b]? = some (.cells (({ m with res := r } : Msgx).cells ev rv).toArray T (0, 0)) → Fr (· = b) w w' → wpList Tryz.prog ops Q rest (a.put o.dst undef) w') : wpList Tryz.prog ops Q (o :: rest) a w := by
  obtain ⟨x0, x1, x2, x3, x4, x5, x6, x7, x8, x9, x10, x11, x12, x13, x14, x15, x16, x17, x18, x19, x20, x21, x22, x23, x24, x25, x26, x27, x28, x29, x30, x31, hxx⟩ := bvs32 hr
  obtain ⟨k, a1, a2, a3, a4, a5, a6, a7, R, es, dt, r0⟩ := m
  obtain ⟨ao, n, c, rfl⟩ := hrv
  rw [cells_app hxx] at hb
  refine wpList_plain hgd fun K hK => ?_
  have hst := run_storeCells_at Tryz.prog b 42 T [.int .i64 r.code, .bool r.dir, .int .i64 r.size, .string ⟨⟨r.data⟩⟩, .slice ao n c] 0 _ w hb (by simp) (by simp [Value.oneCell'])
  unfold Oper.wp execOp
  simp only [ho, hx, hy, Resx.val, Instr.storeAt, Instr.sureAddr, storeVar, Value.cells, Sem.run_bind, Sem.run_pure, Result.andThen_ok, size28]
  rw [if_neg (by simp)]
  simp only [hst]
  refine hK _ _ (h _ ?_ ⟨rfl, rfl, by simp, fun k _ hk => setRow_other w b k _ hk⟩)
  rw [cells_app hxx]
  exact setRow_heap w b _ _ T _ hb
theorem Tryz.built30z : Tryz.prog.built 30 [] = some (zeroMsg.cells (.slice none 0 0) (.slice none 0 0)).toArray := by kernel_rfl
theorem build30z (hgd : o.guard = none) (ho : o.op = .build 30 #[])
    (h : wpList Tryz.prog ops Q rest (a.put o.dst (.agg (zeroMsg.cells (.slice none 0 0) (.slice none 0 0)).toArray)) w) : wpList Tryz.prog ops Q (o :: rest) a w := by
  have hb := Tryz.built30z
  have e : ((#[] : Array (Nat × Operand)).map fun (i, x) => (i, a.eval x)).toList = [] := by simp
  refine wpList_build hgd 30 _ ho (by rw [e, hb]; rfl) ?_
  rw [e, hb]
  exact h
theorem msg_len {m : Msgx} {ev nv : Value} (h : m.root.length = 32) : (m.cells ev nv).length = 47 := (msg_get m ev nv h).1
theorem msg_one {m : Msgx} {ev nv : Value} (he : ev.oneCell' = true) (hn : nv.oneCell' = true) : ∀ u ∈ m.cells ev nv, u.oneCell' = true := by
  intro u hu
  simp only [Msgx.cells, List.mem_append, List.mem_cons, List.not_mem_nil, or_false] at hu
  rcases hu with h | h | h
  · rcases h with rfl | rfl | rfl | rfl | rfl | rfl | rfl | rfl <;> rfl
  · exact bvs_oneCell _ u h
  · rcases h with rfl | rfl | rfl | rfl | rfl | rfl | rfl <;> first | rfl | assumption
theorem msg_c0 {k a1 a2 a3 a4 a5 a6 a7 : Int} {R dt : List UInt8} {es : List Entx} {r : Resx} {ev nv : Value} {B : Nat} {T : TypeId} (hB : w.heap[B]? = some (.cells (Msgx.cells ⟨k, a1, a2, a3, a4, a5, a6, a7, R, es, dt, r⟩ ev nv).toArray T (0, 0))) :
    w.cell? ⟨B, 0, none⟩ = some (.int .i64 k) := by rw [cell_obj hB 0]; rfl
theorem msg_k {m : Msgx} {ev nv : Value} {B : Nat} {T : TypeId} (hB : w.heap[B]? = some (.cells (m.cells ev nv).toArray T (0, 0))) : w.cell? ⟨B, 0, none⟩ = some (.int .i64 m.kind) := by rw [cell_obj hB 0]; rfl
theorem msg_d {m : Msgx} {ev nv : Value} {B : Nat} {T : TypeId} (hB : w.heap[B]? = some (.cells (m.cells ev nv).toArray T (0, 0))) (hr : m.root.length = 32) : w.cell? ⟨B, 41, none⟩ = some (.string ⟨⟨m.data⟩⟩) := by
  rw [cell_obj hB 41]; simpa using (msg_get m ev nv hr).2.2 1 (by omega)
theorem msg_abs {k a1 a2 a3 a4 a5 a6 a7 : Int} {R : List UInt8} {B : Nat} {T : TypeId} (hB : w.heap[B]? = some (.cells (Msgx.cells ⟨k, a1, a2, a3, a4, a5, a6, a7, R, [], [], zeroRes⟩ (.slice none 0 0) (.slice none 0 0)).toArray T (0, 0))) (hr : R.length = 32) :
    ∃ m0 : Msgx, Hid (m0 = ⟨k, a1, a2, a3, a4, a5, a6, a7, R, [], [], zeroRes⟩) ∧ m0.root.length = 32 ∧ w.heap[B]? = some (.cells (m0.cells (.slice none 0 0) (.slice none 0 0)).toArray T (0, 0)) :=
  ⟨_, (rfl : _ = _), hr, hB⟩
theorem msg_c40 {m : Msgx} {ev nv : Value} {B : Nat} {T : TypeId} (hB : w.heap[B]? = some (.cells (m.cells ev nv).toArray T (0, 0))) (hr : m.root.length = 32) : w.cell? ⟨B, 40, none⟩ = some ev := by
  rw [cell_obj hB 40]; simpa using (msg_get m ev nv hr).2.2 0 (by omega)
theorem msg_c41 {k a1 a2 a3 a4 a5 a6 a7 : Int} {R dt : List UInt8} {es : List Entx} {r : Resx} {ev nv : Value} {B : Nat} {T : TypeId} (hB : w.heap[B]? = some (.cells (Msgx.cells ⟨k, a1, a2, a3, a4, a5, a6, a7, R, es, dt, r⟩ ev nv).toArray T (0, 0)))
    (hr : R.length = 32) : w.cell? ⟨B, 41, none⟩ = some (.string ⟨⟨dt⟩⟩) := by
  rw [cell_obj hB 41]; simpa using (msg_get ⟨k, a1, a2, a3, a4, a5, a6, a7, R, es, dt, r⟩ ev nv hr).2.2 1 (by omega)
end
theorem entries_x (w : World) (P : Nat) (s : St) (n : Nat) (hn : n < 18446744073709551616) (h : InAt w P s) : Calls Tryz.prog 31 #[.pointer (some ⟨P, 0, none⟩), .int .u64 (n : Nat)] w fun e w' =>
    ∃ ao nn cp s' b, e = .returned (.tuple #[.slice ao nn cp, .bool b]) ∧ Hid (b = entOk n s) ∧ InAt w' P s' ∧ Fr (· = P) w w' ∧ Hid (∀ l, n ≤ 32 → (rdE n s).1 = some l → Oe w.heap.size w' (.slice ao nn cp) l ∧ s' = (rdE n s).2) := by
  refine (entries_spec w P s n hn h).mono ?_
  rintro e w' ⟨ev, s', rfl, hI, hF, h1, h2⟩
  have hsh : ∃ ao nn cp, ev = .slice ao nn cp := by
    cases hb : entOk n s with
    | false => exact ⟨none, 0, 0, h1 hb⟩
    | true =>
      simp only [entOk, Bool.and_eq_true, decide_eq_true_eq] at hb
      obtain ⟨l, hl⟩ := Option.isSome_iff_exists.1 hb.2
      obtain ⟨ao, nn, cp, -, e⟩ := oe_shape (h2 l hb.1 hl).1
      exact ⟨ao, nn, cp, e⟩
  obtain ⟨ao, nn, cp, rfl⟩ := hsh
  exact ⟨ao, nn, cp, s', _, rfl, (rfl : entOk n s = entOk n s), hI, hF, h2⟩
theorem HOe_fr {S : Nat → Prop} {N n : Nat} {s s' : St} {w w' : World} {v : Value} (h : Hid (∀ l, n ≤ 32 → (rdE n s).1 = some l → Oe N w v l ∧ s' = (rdE n s).2)) (hf : Fr S w w') (hn : ∀ k, N ≤ k → k < w.heap.size → ¬ S k) :
    Hid (∀ l, n ≤ 32 → (rdE n s).1 = some l → Oe N w' v l ∧ s' = (rdE n s).2) :=
  fun l h1 h2 => ⟨oe_fr (h.out l h1 h2).1 hf (fun k hk => hn k (World.ownsRow.lt (h.out l h1 h2).1 k hk).1 (World.ownsRow.lt (h.out l h1 h2).1 k hk).2), (h.out l h1 h2).2⟩
theorem oe_base {N N' : Nat} {w : World} {v : Value} {l : List Entx} (h : Oe N w v l) (hb : N' ≤ N) : Oe N' w v l := by
  refine ⟨h.1, ?_⟩
  rcases h.2 with hz | ⟨g, cap, cur, e, hbb, rest⟩
  · exact .inl hz
  · exact .inr ⟨g, cap, cur, e, Nat.le_trans hb hbb, rest⟩
theorem on_base {N N' : Nat} {w : World} {v : Value} {l : List (List UInt8)} (h : On N w v l) (hb : N' ≤ N) : On N' w v l := by
  refine ⟨h.1, ?_⟩
  rcases h.2 with hz | ⟨g, cap, cur, e, hbb, rest⟩
  · exact .inl hz
  · exact .inr ⟨g, cap, cur, e, Nat.le_trans hb hbb, rest⟩
section
variable {w : World} {ops : Array Oper} {rest : List Oper} {o : Oper} {a : Act} {Q : Exit → Act → World → Prop}
theorem store30m (hgd : o.guard = none) (x y : Operand) (ho : o.op = .store 30 x y) (b : Nat) (hx : a.eval x = .pointer (some ⟨b, 0, none⟩)) (m : Msgx) (ao : Option Addr) (n c : Nat) (ao' : Option Addr) (n' c' : Nat)
    (hy : a.eval y = .agg (m.cells (.slice ao n c) (.slice ao' n' c')).toArray) (hr : m.root.length = 32) (cur : Array Value) (T : TypeId) (hb : w.heap[b]? = some (.cells cur T (0, 0))) (hcur : cur.size = 47)
    (h : ∀ w', w'.heap[b]? = some (.cells (m.cells (.slice ao n c) (.slice ao' n' c')).toArray T (0, 0)) → Fr (· = b) w w' → wpList Tryz.prog ops Q rest (a.put o.dst undef) w') : wpList Tryz.prog ops Q (o :: rest) a w :=
  store30 hgd x y ho b hx _ hy (msg_len hr) (msg_one rfl rfl) cur T hb hcur h
theorem load30m (hgd : o.guard = none) (x : Operand) (ho : o.op = .load 30 x) (b : Nat) (hx : a.eval x = .pointer (some ⟨b, 0, none⟩)) (m : Msgx) (ev nv : Value) (T : TypeId)
    (hb : w.heap[b]? = some (.cells (m.cells ev nv).toArray T (0, 0))) (hr : m.root.length = 32) (h : wpList Tryz.prog ops Q rest (a.put o.dst (.agg (m.cells ev nv).toArray)) w) : wpList Tryz.prog ops Q (o :: rest) a w :=
  load30 hgd x ho b 0 hx _ (msg_len hr) (cells_of hb) h
theorem res_cell_msg {fn : Func} {c u : Tmp} {tmps : Array Value} (h : fn.results = #[.cell c 30, .tmp u]) (b : Nat) (hx : tmps.getD c undef = .pointer (some ⟨b, 0, none⟩)) (m : Msgx) (ev nv : Value) (hr : m.root.length = 32) (T : TypeId) (hb : w.heap[b]? = some (.cells (m.cells ev nv).toArray T (0, 0))) :
    (results fn tmps).run Tryz.prog w = .ok (.tuple #[.agg (m.cells ev nv).toArray, tmps.getD u undef]) w := res_cell_tmp h (agg30 _) (size30 _) b hx _ (msg_len hr) T hb
end
theorem dec_none {L dg d tx : List UInt8} {k n : Nat} {a1 a2 a3 a4 a5 a6 a7 : Int} {s10 s11 s12 s13 : St} {N : Nat} {w : World} {v : Value} (HX : Hid (hdOf L = ⟨k, a1, a2, a3, a4, a5, a6, a7, dg, n, s10⟩)) (HY : Hid (rdS (rText 4096) [] s11 = (d, s12) ∧ rdS (rText 1048576) [] s12 = (tx, s13)))
    (HO : Hid (∀ l, n ≤ 32 → (rdE n s10).1 = some l → Oe N w v l ∧ s11 = (rdE n s10).2)) (hbad : entOk n s10 = false ∨ (resOf tx).isSome = false ∨ s13 ≠ some [] ∨ ¬ (1 ≤ k ∧ k ≤ 13)) : msgOf L = none := by
  refine msgOf_none HX.out ?_
  intro l d' t1 t' t2 r h1 h2 h3 hl hdd htt hr hs
  simp only at h1 h2 h3 hl hdd
  have he := (HO.out l h3 hl).2
  have hy := HY.out
  rw [← he, hy.1] at hdd
  cases hdd
  rw [hy.2] at htt
  cases htt
  rcases hbad with h | h | h | h
  · simp [entOk, h3, hl] at h
  · rw [hr] at h; cases h
  · exact h hs
  · exact h ⟨h1, h2⟩
theorem dec_some {L dg d tx : List UInt8} {k n : Nat} {a1 a2 a3 a4 a5 a6 a7 : Int} {s10 s11 s12 s13 : St} {N : Nat} {w : World} {v : Value} (HX : Hid (hdOf L = ⟨k, a1, a2, a3, a4, a5, a6, a7, dg, n, s10⟩)) (HY : Hid (rdS (rText 4096) [] s11 = (d, s12) ∧ rdS (rText 1048576) [] s12 = (tx, s13)))
    (HO : Hid (∀ l, n ≤ 32 → (rdE n s10).1 = some l → Oe N w v l ∧ s11 = (rdE n s10).2)) {m0 : Msgx} {kk : Int} (HM : Hid (m0 = ⟨kk, a1, a2, a3, a4, a5, a6, a7, dg, [], [], zeroRes⟩)) (hkk : kk = k) (h1 : 1 ≤ k) (h2 : k ≤ 13)
    (hok : entOk n s10 = true) (hrs : (resOf tx).isSome = true) (hs : s13 = some []) :
    ∃ M : Msgx, msgOf L = some M ∧ (∀ ev nv, ({ m0 with data := d, res := (resOf tx).getD zeroRes } : Msgx).cells ev nv = M.cells ev nv) ∧ Oe N w v M.entries ∧ M.res.names = ((resOf tx).getD zeroRes).names := by
  simp only [entOk, Bool.and_eq_true, decide_eq_true_eq] at hok
  obtain ⟨h3, hl⟩ := hok
  obtain ⟨l, hl⟩ := Option.isSome_iff_exists.1 hl
  obtain ⟨r, hr⟩ := Option.isSome_iff_exists.1 hrs
  obtain ⟨ho, he⟩ := HO.out l h3 hl
  have hy := HY.out
  subst hs
  rw [he] at hy
  have hm := HM.out
  subst hm hkk
  refine ⟨_, msgOf_some HX.out h1 h2 h3 hl hy.1 hy.2 hr, fun ev nv => ?_, ho, by rw [hr]; rfl⟩
  rw [hr]; rfl
/-- What a reader of messages answers. -/
def DecPost (w0 : World) (L : List UInt8) (c : Value) (e : Ending) (w' : World) : Prop :=
  ∃ ev nv, e = .returned (.tuple #[.agg (((msgOf L).getD zeroMsg).cells ev nv).toArray, c]) ∧ Oe w0.heap.size w' ev ((msgOf L).getD zeroMsg).entries ∧ On w0.heap.size w' nv ((msgOf L).getD zeroMsg).res.names ∧ Fr none' w0 w'
theorem fin_some {w0 w w1 w12 : World} {L dg d tx : List UInt8} {k n : Nat} {a1 a2 a3 a4 a5 a6 a7 : Int} {s10 s11 s12 s13 : St} {v nv c : Value} {N : Nat} (HX : Hid (hdOf L = ⟨k, a1, a2, a3, a4, a5, a6, a7, dg, n, s10⟩)) (HY : Hid (rdS (rText 4096) [] s11 = (d, s12) ∧ rdS (rText 1048576) [] s12 = (tx, s13)))
    (HO : Hid (∀ l, n ≤ 32 → (rdE n s10).1 = some l → Oe w12.heap.size w v l ∧ s11 = (rdE n s10).2)) {m0 : Msgx} {kk : Int} (HM : Hid (m0 = ⟨kk, a1, a2, a3, a4, a5, a6, a7, dg, [], [], zeroRes⟩)) (hkk : kk = k) (h1 : 1 ≤ k) (h2 : k ≤ 13)
    (hok : entOk n s10 = true) (hrs : (resOf tx).isSome = true) (hs : s13 = some []) (hN : On N w nv ((resOf tx).getD zeroRes).names) (hN0 : w0.heap.size ≤ N) (h12 : w0.heap.size < w12.heap.size) (hT : Fr none' w0 w) (hF : Fr (· = w0.heap.size) w w1)
    (hl : w0.heap.size < N)
    (e : Ending) (he : e = .returned (.tuple #[.agg (({ m0 with data := d, res := (resOf tx).getD zeroRes } : Msgx).cells v nv).toArray, c])) :
    (msgOf L).isSome = true ∧ DecPost w0 L c e w1 := by
  obtain ⟨M, hM, hc, ho, hnn⟩ := dec_some HX HY HO HM hkk h1 h2 hok hrs hs
  refine ⟨by rw [hM]; rfl, v, nv, ?_, ?_, ?_, Fr.step hT hF (Nat.le_refl _)⟩
  · rw [he, hc, hM]; rfl
  · rw [hM]
    exact oe_base (oe_fr ho hF (fun k hk e => by have := (World.ownsRow.lt ho k hk).1; omega)) (by omega)
  · rw [hM]
    show On w0.heap.size w1 nv M.res.names
    rw [hnn]
    exact on_base (on_fr hN hF (fun k hk e => by have := (World.ownsRow.lt hN k hk).1; omega)) hN0
theorem kind_some {m0 : Msgx} {k : Nat} {a1 a2 a3 a4 a5 a6 a7 : Int} {dg : List UInt8} (HM : Hid (m0 = ⟨if 99 < (k : Int) then 99 else (k : Int), a1, a2, a3, a4, a5, a6, a7, dg, [], [], zeroRes⟩)) (h : 1 ≤ m0.kind ∧ m0.kind ≤ 13) :
    (if 99 < (k : Int) then (99 : Int) else (k : Int)) = k ∧ 1 ≤ k ∧ k ≤ 13 := by
  have hk := congrArg Msgx.kind HM.out
  simp only [] at hk
  rw [← hk]
  split at hk <;> omega
theorem kind_none {m0 : Msgx} {k : Nat} {a1 a2 a3 a4 a5 a6 a7 : Int} {dg : List UInt8} (HM : Hid (m0 = ⟨if 99 < (k : Int) then 99 else (k : Int), a1, a2, a3, a4, a5, a6, a7, dg, [], [], zeroRes⟩)) (h : ¬ (1 ≤ m0.kind ∧ m0.kind ≤ 13)) : ¬ (1 ≤ k ∧ k ≤ 13) := by
  have hk := congrArg Msgx.kind HM.out
  simp only [] at hk
  split at hk <;> omega
end Go.Proofs

/-! F2 -/
namespace Go.Proofs
open Go.RowKit Go.Wires
set_option maxHeartbeats 8000000
set_option maxRecDepth 100000
theorem z32' : zeroMsg.root.length = 32 := rfl
theorem decode_spec (w : World) (v : Value) (L : List UInt8) (hv : Sl w v L) (hlen : L.length ≤ 70368744177000) : Calls Tryz.prog 7 #[v] w fun e w' =>
    DecPost w L (.int .i64 (codeIf (msgOf L).isSome 21)) e w' := by
  have hz : Fr none' w (w.alloc (.cells #[.int .i64 0, .int .i64 0, .int .i64 0, .int .i64 0, .int .i64 0, .int .i64 0, .int .i64 0, .int .i64 0, .int .u8 0, .int .u8 0, .int .u8 0, .int .u8 0, .int .u8 0, .int .u8 0, .int .u8 0, .int .u8 0, .int .u8 0, .int .u8 0, .int .u8 0, .int .u8 0, .int .u8 0, .int .u8 0, .int .u8 0, .int .u8 0, .int .u8 0, .int .u8 0, .int .u8 0, .int .u8 0, .int .u8 0, .int .u8 0, .int .u8 0, .int .u8 0, .int .u8 0, .int .u8 0, .int .u8 0, .int .u8 0, .int .u8 0, .int .u8 0, .int .u8 0, .int .u8 0, .slice none 0 0, .string ⟨⟨[]⟩⟩, .int .i64 0, .bool false, .int .i64 0, .string ⟨⟨[]⟩⟩, .slice none 0 0] 30)) := Fr.alloc _ _ _
  have hv0 := hv.fr hz (fun _ _ h => h)
  have hR0 := heap_alloc_new w (.cells #[.int .i64 0, .int .i64 0, .int .i64 0, .int .i64 0, .int .i64 0, .int .i64 0, .int .i64 0, .int .i64 0, .int .u8 0, .int .u8 0, .int .u8 0, .int .u8 0, .int .u8 0, .int .u8 0, .int .u8 0, .int .u8 0, .int .u8 0, .int .u8 0, .int .u8 0, .int .u8 0, .int .u8 0, .int .u8 0, .int .u8 0, .int .u8 0, .int .u8 0, .int .u8 0, .int .u8 0, .int .u8 0, .int .u8 0, .int .u8 0, .int .u8 0, .int .u8 0, .int .u8 0, .int .u8 0, .int .u8 0, .int .u8 0, .int .u8 0, .int .u8 0, .int .u8 0, .int .u8 0, .slice none 0 0, .string ⟨⟨[]⟩⟩, .int .i64 0, .bool false, .int .i64 0, .string ⟨⟨[]⟩⟩, .slice none 0 0] 30)
  have hsz : (w.alloc (.cells #[.int .i64 0, .int .i64 0, .int .i64 0, .int .i64 0, .int .i64 0, .int .i64 0, .int .i64 0, .int .i64 0, .int .u8 0, .int .u8 0, .int .u8 0, .int .u8 0, .int .u8 0, .int .u8 0, .int .u8 0, .int .u8 0, .int .u8 0, .int .u8 0, .int .u8 0, .int .u8 0, .int .u8 0, .int .u8 0, .int .u8 0, .int .u8 0, .int .u8 0, .int .u8 0, .int .u8 0, .int .u8 0, .int .u8 0, .int .u8 0, .int .u8 0, .int .u8 0, .int .u8 0, .int .u8 0, .int .u8 0, .int .u8 0, .int .u8 0, .int .u8 0, .int .u8 0, .int .u8 0, .slice none 0 0, .string ⟨⟨[]⟩⟩, .int .i64 0, .bool false, .int .i64 0, .string ⟨⟨[]⟩⟩, .slice none 0 0] 30)).heap.size = w.heap.size + 1 := by simp
  go_enter Tryz.func7, Tryz.ntmps7
  go_wp2_with (first
    | (go_at_call 27; refine (read_spec _ _ _ hv0 hlen).mono ?_; rintro e w1 ⟨P, rfl, hP1, hI1, hF1⟩; rw [hsz] at hP1; have hR1 := hF1.heap hR0 (fun h => h); have hT1 := hz.trans hF1; obtain ⟨cur, hcur, hRm⟩ : ∃ cur : Array Value, Hid (cur.size = 47) ∧ w1.heap[w.heap.size]? = some (.cells cur 30 (0, 0)) := ⟨_, by exact rfl, hR1⟩; clear hR0 hz hv0 hsz hv hR1 hF1; have hR1 := hRm; clear hRm)
    | (go_at_call 28; refine (num_x _ P _ hI1).mono ?_; rintro e w2 ⟨k, s1, hx1, hk1, rfl, hI2, hF⟩; have hT2 := Fr.step hT1 hF (by omega); have hR2 := hF.heap hR1 (by omega); clear hI1 hT1 hR1 hF)
    | (go_at_call 29; refine (int_x _ P _ hI2).mono ?_; rintro e w3 ⟨a1, s2, hx2, hk2, rfl, hI3, hF⟩; have hT3 := Fr.step hT2 hF (by omega); have hR3 := hF.heap hR2 (by omega); clear hI2 hT2 hR2 hF)
    | (go_at_call 29; refine (int_x _ P _ hI3).mono ?_; rintro e w4 ⟨a2, s3, hx3, hk3, rfl, hI4, hF⟩; have hT4 := Fr.step hT3 hF (by omega); have hR4 := hF.heap hR3 (by omega); clear hI3 hT3 hR3 hF)
    | (go_at_call 29; refine (int_x _ P _ hI4).mono ?_; rintro e w5 ⟨a3, s4, hx4, hk4, rfl, hI5, hF⟩; have hT5 := Fr.step hT4 hF (by omega); have hR5 := hF.heap hR4 (by omega); clear hI4 hT4 hR4 hF)
    | (go_at_call 29; refine (int_x _ P _ hI5).mono ?_; rintro e w6 ⟨a4, s5, hx5, hk5, rfl, hI6, hF⟩; have hT6 := Fr.step hT5 hF (by omega); have hR6 := hF.heap hR5 (by omega); clear hI5 hT5 hR5 hF)
    | (go_at_call 29; refine (int_x _ P _ hI6).mono ?_; rintro e w7 ⟨a5, s6, hx6, hk6, rfl, hI7, hF⟩; have hT7 := Fr.step hT6 hF (by omega); have hR7 := hF.heap hR6 (by omega); clear hI6 hT6 hR6 hF)
    | (go_at_call 29; refine (int_x _ P _ hI7).mono ?_; rintro e w8 ⟨a6, s7, hx7, hk7, rfl, hI8, hF⟩; have hT8 := Fr.step hT7 hF (by omega); have hR8 := hF.heap hR7 (by omega); clear hI7 hT7 hR7 hF)
    | (go_at_call 29; refine (int_x _ P _ hI8).mono ?_; rintro e w9 ⟨a7, s8, hx8, hk8, rfl, hI9, hF⟩; have hT9 := Fr.step hT8 hF (by omega); have hR9 := hF.heap hR8 (by omega); clear hI8 hT8 hR8 hF)
    | (go_at_call 30; refine (digest_x _ P _ hI9).mono ?_; rintro e w10 ⟨dg, s9, hx9, hd, rfl, hI10, hF⟩; have hT10 := Fr.step hT9 hF (by omega); have hR10 := hF.heap hR9 (by omega); clear hI9 hT9 hR9 hF; have hPl := hI10.lt)
    | (refine build30 rfl (.tmp 15) (.tmp 17) (.tmp 19) (.tmp 21) (.tmp 23) (.tmp 25) (.tmp 27) (.tmp 29) (.tmp 31) rfl _ a1 a2 a3 a4 a5 a6 a7 dg rfl rfl rfl rfl rfl rfl rfl rfl rfl hd ?_)
    | (refine store30 rfl (.tmp 5) (.tmp 32) rfl w10.heap.size rfl _ rfl (msg_len hd) (msg_one rfl rfl) _ 30 (heap_alloc_new w10 _) rfl ?_; intro w11 hB11 hF11; obtain ⟨m0, HM, hd0, hBm⟩ := msg_abs hB11 hd; clear hB11; have hB11 := hBm; clear hBm
       have hI11 := (hI10.fr (Fr.alloc none' _ _)).keep hF11 (fun k _ e => by omega); have hT11 := Fr.step (Fr.new hT10) hF11 (by omega); have hR11 := hF11.heap (new_other hR10) (by omega); clear hI10 hT10 hR10 hF11)
    | (go_at_call 28; refine (num_x _ P _ hI11).mono ?_; rintro e w12 ⟨n, s10, hx10, hk10, rfl, hI12, hF⟩; have hT12 := Fr.step hT11 hF (by omega); have hR12 := hF.heap hR11 (by omega); have hB12 := hF.heap hB11 (by omega); clear hI11 hT11 hR11 hB11 hF)
    | (go_at_call 31; refine (entries_x _ P _ n hk10 hI12).mono ?_; rintro e w13 ⟨ao, nn, cp, s11, b, rfl, rfl, hI13, hF, HO13⟩; have hN12 := hT12.size; have hlt12 := lt_of_heap hB12; have hT13 := Fr.step hT12 hF (by omega); have hR13 := hF.heap hR12 (by omega); have hB13 := hF.heap hB12 (by omega); clear hI12 hT12 hR12 hB12 hF; have c40 := msg_c40 hB13 hd0; have hfz13 := frozen_obj hB13)
    | (go_at_call 32; refine (text_x _ P _ (hI13.set hPl) 4096 (by omega)).mono ?_; rintro e w14 ⟨d, s12, hx12, hk12, rfl, hI14, hF⟩; have hT14 := Fr.step (Fr.set hT13 (by omega)) hF (by omega); have hR14 := hF.heap (set_other hR13 (by omega)) (by omega); have hB14 := hF.heap (msg_set40 (v := .slice ao nn cp) hB13 hd0) (by omega); have HO14 := HOe_fr (HOe_fr HO13 (Fr.setAt _ w10.heap.size 40 (.slice ao nn cp)) (fun k hk hk' => by omega)) hF (fun k hk hk' => by omega); clear hI13 hT13 hR13 hB13 hF HO13 c40 hfz13; have c41 := msg_d hB14 hd0; have hfz14 := frozen_obj hB14)
    | (go_at_call 32; refine (text_x _ P _ (hI14.set hPl) 1048576 (by omega)).mono ?_; rintro e w15 ⟨tx, s13, hx13, hk13, rfl, hI15, hF⟩; have hT15 := Fr.step (Fr.set hT14 (by omega)) hF (by omega); have hR15 := hF.heap (set_other hR14 (by omega)) (by omega); have hB15 := hF.heap (msg_set41 (D := d) hB14 hd0) (by omega); have HO15 := HOe_fr (HOe_fr HO14 (Fr.setAt _ w10.heap.size 41 (.string ⟨⟨d⟩⟩)) (fun k hk hk' => by omega)) hF (fun k hk hk' => by omega); clear hI14 hT14 hR14 hB14 hF HO14 c41 hfz14)
    | (refine conv31 rfl (.tmp 47) rfl tx rfl ?_; intro bvv w16 hsl16 hF16 hb16; have hT16 := hT15.trans hF16; have hR16 := hF16.heap hR15 (fun h => h); have hB16 := hF16.heap hB15 (fun h => h); have HO16 := HOe_fr HO15 hF16 (fun _ _ _ h => h); have hI16 := hI15.fr hF16; clear hI15 hT15 hR15 hB15 hF16 HO15)
    | (go_at_call 33; refine (unpack_spec _ _ tx hsl16 (by omega)).mono ?_; rintro e w17 ⟨nv, rfl, hN17, hF17⟩; obtain ⟨no, nn2, nc, -, rfl⟩ := on_shape hN17; have hT17 := hT16.trans hF17; have hR17 := hF17.heap hR16 (fun h => h); have hB17 := hF17.heap hB16 (fun h => h); have HO17 := HOe_fr HO16 hF17 (fun _ _ _ h => h); have hI17 := hI16.fr hF17; have hs16 := hT16.size; have hlt16 := lt_of_heap hB16; have hs17 := hF17.size; clear hI16 hT16 hR16 hB16 hF17 HO16)
    | (refine store28 rfl (.tmp 8) (.tmp 50) rfl w17.heap.size rfl [.int .i64 ((resOf tx).getD zeroRes).code, .bool ((resOf tx).getD zeroRes).dir, .int .i64 ((resOf tx).getD zeroRes).size, .string ⟨⟨((resOf tx).getD zeroRes).data⟩⟩, .slice no nn2 nc] rfl rfl (by simp [Value.oneCell']) _ 28 (heap_alloc_new w17 _) rfl ?_; intro w18 h18 hF18; have hlt17 := lt_of_heap hB17; have hIl17 := hI17.lt; have hT18 := Fr.step (Fr.new hT17) hF18 (by omega); have hR18 := hF18.heap (new_other hR17) (by have := lt_of_heap hR17; omega); have hB18 := hF18.heap (new_other hB17) (by omega); have HO18 := HOe_fr HO17 ((Fr.alloc (fun k => k = w17.heap.size) w17 (.cells #[.int .i64 0, .bool false, .int .i64 0, .string ⟨⟨[]⟩⟩, .slice none 0 0] 28)).trans hF18) (fun k hk hk' => by omega); have hI18 := (hI17.fr (Fr.alloc none' _ _)).keep hF18 (fun k _ e => by omega); have hN18 := on_fr (on_fr hN17 (Fr.alloc none' w17 _) (fun _ _ h => h)) hF18 (fun k hk e => by have := (World.ownsRow.lt hN17 k hk).2; omega); clear hI17 hT17 hR17 hB17 HO17 hN17)
    | (refine load28 rfl (.tmp 8) rfl w17.heap.size 0 rfl _ rfl (cells_of h18) ?_)
    | (refine store28_42 rfl (.tmp 53) (.tmp 52) rfl w10.heap.size rfl ((resOf tx).getD zeroRes) _ ⟨_, _, _, rfl⟩ rfl _ _ _ 30 hB18 hd0 ?_; intro w19 hB19 hF19; have hT19 := Fr.step hT18 hF19 (by omega); have hR19 := hF19.heap hR18 (by omega); have HO19 := HOe_fr HO18 hF19 (fun k hk hk' => by omega); have hI19 := hI18.keep hF19 (fun k _ e => by omega); have hN19 := on_fr hN18 hF19 (fun k hk e => by have := (World.ownsRow.lt hN18 k hk).1; omega); clear hI18 hT18 hR18 hB18 HO18 hN18; have c0 : w19.cell? ⟨w10.heap.size, 0, none⟩ = some (.int .i64 m0.kind) := by { have h00 := msg_k hB19; exact h00 }; have HX : Hid (hdOf L = ⟨k, a1, a2, a3, a4, a5, a6, a7, dg, n, s10⟩) := hdOf_eq hx1 hx2 hx3 hx4 hx5 hx6 hx7 hx8 hx9 hx10; have HY : Hid (rdS (rText 4096) [] s11 = (d, s12) ∧ rdS (rText 1048576) [] s12 = (tx, s13)) := ⟨hx12, hx13⟩; clear hx1 hx2 hx3 hx4 hx5 hx6 hx7 hx8 hx9 hx10 hx12 hx13
       have HB : Hid (_) := hB19; have HT : Hid (_) := hT19; have HR : Hid (_) := hR19; have HN : Hid (_) := hN19; have HQ : Hid (w.heap.size < w12.heap.size ∧ w.heap.size < w16.heap.size ∧ dg.length = 32 ∧ m0.root.length = 32) := ⟨by omega, by omega, hd, hd0⟩; clear hB19 hT19 hR19 hN19 h18 hF18 hF19 hlt17 hIl17 hs16 hs17 hlt16 hb16 hsl16 hk13 hk12 hN12 hlt12 hk10 hd0 hd hPl hk1 hk2 hk3 hk4 hk5 hk6 hk7 hk8 hP1
       cases hok : entOk n s10 <;> cases hrs : (resOf tx).isSome <;> simp only [codeIf, if_true, Bool.false_eq_true, if_false] <;> have HOK : Hid (_) := hok <;> have HRS : Hid (_) := hrs <;> clear hok hrs)
    | (go_at_call 34; refine (end_spec _ P _ hI19).mono ?_; rintro e w20 ⟨rfl, rfl⟩)
    | (refine build30z rfl rfl ?_)
    | (refine store30m rfl (.tmp 2) (.tmp 75) rfl w.heap.size rfl zeroMsg none 0 0 none 0 0 rfl z32' cur 30 HR.out hcur.out ?_; intro w21 h21z hF21)
    | (refine load30m rfl (.tmp 5) rfl w10.heap.size rfl ({ m0 with data := d, res := ((resOf tx).getD zeroRes) } : Msgx) (.slice ao nn cp) (.slice no nn2 nc) 30 HB.out HQ.out.2.2.2 ?_)
    | (refine store30m rfl (.tmp 2) (.tmp 76) rfl w.heap.size rfl ({ m0 with data := d, res := ((resOf tx).getD zeroRes) } : Msgx) ao nn cp no nn2 nc rfl HQ.out.2.2.2 cur 30 HR.out hcur.out ?_; intro w21 h21m hF21)
    | (have hgg := h21z; clear hgg; refine bodyPost_ret (res_cell_msg rfl w.heap.size rfl zeroMsg _ _ z32' 30 h21z) rfl ?_
       have hn := dec_none HX HY HO19 (by
         first
         | exact .inl HOK.out
         | exact .inr (.inl HRS.out)
         | exact .inr (.inr (.inl (by assumption)))
         | exact .inr (.inr (.inl (by simpa using ‹(!decide (s13 = some [])) = true›)))
         | exact .inr (.inr (.inr (kind_none HM (by omega)))))
       show DecPost _ _ _ _ _
       unfold DecPost
       rw [hn]
       exact ⟨_, _, rfl, World.ownsRow_nil _ _ _ _, World.ownsRow_nil _ _ _ _, Fr.step HT.out hF21 (Nat.le_refl _)⟩)
    | (have hgg := h21m; clear hgg; refine bodyPost_ret (res_cell_msg rfl w.heap.size rfl ({ m0 with data := d, res := ((resOf tx).getD zeroRes) } : Msgx) _ _ HQ.out.2.2.2 30 h21m) rfl ?_
       have hks := kind_some HM (by omega)
       have hfin := fin_some (c := .int .i64 0) HX HY HO19 HM hks.1 hks.2.1 hks.2.2 HOK.out HRS.out (by assumption) HN.out (Nat.le_of_lt HQ.out.2.1) HQ.out.1 HT.out hF21 HQ.out.2.1 _ rfl
       rw [hfin.1]
       exact hfin.2))
end Go.Proofs
