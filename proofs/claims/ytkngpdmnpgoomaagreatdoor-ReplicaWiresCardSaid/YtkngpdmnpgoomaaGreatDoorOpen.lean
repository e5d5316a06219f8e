/-
  ReplicaWires answers true for every input that can be read as data. Condition: the two arguments read as data.
-/
import Derived.Test.YtkngpdmnpgoomaaGreatDoorWalk
import Derived.ProofKit
import Derived.LaidMore
import Derived.OpenShut
import Derived.Deep.Slices
/-! R1 -/
namespace Go.Proofs
open Go.RowKit Go.Wires Go.WideShapes Go.ChangeShapes
set_option maxHeartbeats 4000000
set_option maxRecDepth 10000
theorem c51 : Tryz.prog.cellsOf 51 = 8 := by kernel_rfl
theorem c49 : Tryz.prog.cellsOf 49 = 6 := by kernel_rfl
theorem c30 : Tryz.prog.cellsOf 30 = 47 := by kernel_rfl
theorem c28 : Tryz.prog.cellsOf 28 = 5 := by kernel_rfl
theorem c23 : Tryz.prog.cellsOf 23 = 32 := by kernel_rfl
theorem c24 : Tryz.prog.cellsOf 24 = 1 := by kernel_rfl
theorem c26 : Tryz.prog.cellsOf 26 = 1 := by kernel_rfl
theorem c25 : Tryz.prog.cellsOf 25 = 1 := by kernel_rfl
theorem c2 : Tryz.prog.cellsOf 2 = 1 := by kernel_rfl
theorem c3 : Tryz.prog.cellsOf 3 = 1 := by kernel_rfl
theorem c4 : Tryz.prog.cellsOf 4 = 1 := by kernel_rfl
theorem c5 : Tryz.prog.cellsOf 5 = 1 := by kernel_rfl
theorem c9 : Tryz.prog.cellsOf 9 = 1 := by kernel_rfl
section
variable {H : Type} {enc : TypeId × Value → H} {W : World} {base : Nat} {spare : Nat → Bool} {held : Bool} {n : Nat} {cs : List Value} {x : DataW H × List MemPlace}
theorem wf64 {z : Int} (h : (Lit.int .i64 z).wf = true) : I64 z := by
  simp only [Lit.wf, Bool.and_eq_true, decide_eq_true_eq] at h
  exact ⟨by simpa [IntKind.min, IntKind.bits, IntKind.signed] using h.1, by simpa [IntKind.max, IntKind.bits, IntKind.signed] using h.2⟩
theorem seg (cs : List Value) (a k : Nat) : cs.drop a = (cs.drop a).take k ++ cs.drop (a + k) := by rw [← List.drop_drop, List.take_append_drop]
theorem str_eta (s : ByteArray) : s = ⟨⟨s.data.toList⟩⟩ := by cases s with | mk d => cases d; rfl
/-- A field's own reading. -/
theorem field_of {xs : List (DataW H × List MemPlace)} {fs : Array Field} (hlen : xs.length = fs.size)
    (h : ∀ (i : Nat) (f : Field), fs[i]? = some f → DataW.trod enc Tryz.prog W base spare held n f.type ((cs.drop f.offset).take (Tryz.prog.cellsOf f.type)) = xs[i]?) (i : Nat) (t o c : Nat) (hf : (fs[i]?).map (fun f => (f.type, f.offset)) = some (t, o)) (hc : Tryz.prog.cellsOf t = c) :
    ∃ y, DataW.trod enc Tryz.prog W base spare held n t ((cs.drop o).take c) = some y := by
  obtain ⟨f, hf1, e⟩ := Option.map_eq_some_iff.1 hf
  cases e
  have hi : i < fs.size := (Array.getElem?_eq_some_iff.1 hf1).1
  exact ⟨xs[i]'(by omega), by rw [← hc, h i f hf1, List.getElem?_eq_getElem (by omega)]⟩
theorem open_op (h : DataW.trod enc Tryz.prog W base spare held n 49 cs = some x) : ∃ o : Opx, cs = o.cells ∧ o.wf := by
  obtain ⟨xs, m, -, -, hlen, hxs, hf⟩ := DataW.trod_struct Tryz.underlying49 h
  rw [c49] at hlen
  obtain ⟨y0, h0⟩ := field_of hxs hf 0 3 0 _ rfl c3
  obtain ⟨y1, h1⟩ := field_of hxs hf 1 9 1 _ rfl c9
  obtain ⟨y2, h2⟩ := field_of hxs hf 2 9 2 _ rfl c9
  obtain ⟨y3, h3⟩ := field_of hxs hf 3 9 3 _ rfl c9
  obtain ⟨y4, h4⟩ := field_of hxs hf 4 3 4 _ rfl c3
  obtain ⟨y5, h5⟩ := field_of hxs hf 5 3 5 _ rfl c3
  clear hf
  obtain ⟨z0, e0, -, w0⟩ := DataW.trod_int Tryz.underlying3 h0
  obtain ⟨z1, e1, -, w1⟩ := DataW.trod_string Tryz.underlying9 h1
  obtain ⟨z2, e2, -, w2⟩ := DataW.trod_string Tryz.underlying9 h2
  obtain ⟨z3, e3, -, w3⟩ := DataW.trod_string Tryz.underlying9 h3
  obtain ⟨z4, e4, -, w4⟩ := DataW.trod_int Tryz.underlying3 h4
  obtain ⟨z5, e5, -, w5⟩ := DataW.trod_int Tryz.underlying3 h5
  refine ⟨⟨z0, z1.data.toList, z2.data.toList, z3.data.toList, z4, z5⟩, ?_, ⟨wf64 w0, wf64 w4, wf64 w5, by have : z1.data.toList.length = z1.size := rfl; simp only [this, maxLen] at *; omega, by have : z2.data.toList.length = z2.size := rfl; simp only [this, maxLen] at *; omega, by have : z3.data.toList.length = z3.size := rfl; simp only [this, maxLen] at *; omega⟩⟩
  have hd : cs.drop 6 = [] := List.drop_eq_nil_of_le (by omega)
  have e : cs = cs.drop 0 := rfl
  rw [e, seg cs 0 1, seg cs 1 1, seg cs 2 1, seg cs 3 1, seg cs 4 1, seg cs 5 1, hd, e0, e1, e2, e3, e4, e5]
  simp only [Opx.cells, ← str_eta]
  rfl
theorem open_ent (h : DataW.trod enc Tryz.prog W base spare held n 51 cs = some x) : ∃ e : Entx, cs = e.cells ∧ e.wf := by
  obtain ⟨xs, m, -, -, hlen, hxs, hf⟩ := DataW.trod_struct Tryz.underlying51 h
  rw [c51] at hlen
  obtain ⟨y0, h0⟩ := field_of hxs hf 0 3 0 _ rfl c3
  obtain ⟨y1, h1⟩ := field_of hxs hf 1 2 1 _ rfl c2
  obtain ⟨y2, h2⟩ := field_of hxs hf 2 49 2 _ rfl c49
  clear hf
  obtain ⟨z0, e0, -, w0⟩ := DataW.trod_int Tryz.underlying3 h0
  obtain ⟨z1, e1, -, w1⟩ := DataW.trod_int Tryz.underlying2 h1
  obtain ⟨o, e2, w2⟩ := open_op h2
  refine ⟨⟨z0, z1, o⟩, ?_, ⟨wf64 w0, wf64 w1, w2⟩⟩
  have hd : cs.drop 8 = [] := List.drop_eq_nil_of_le (by omega)
  have e : cs = cs.drop 0 := rfl
  rw [e, seg cs 0 1, seg cs 1 1, seg cs 2 6, hd, e0, e1, e2]
  simp only [Entx.cells, List.append_nil]
  rfl
/-- Where a slice that is read lies: its address bears no spot, its block is there. -/
def Lies (W : World) : Value → Prop
  | .slice (some a) _ _ => a.spot = none ∧ a.block < W.heap.size
  | _ => True
theorem lies_of {e : TypeId} {t : TypeId} {v : Value} {b0 : Nat} (ht : Tryz.prog.underlying t = some (.slice e)) (h : Cell.okWide Tryz.prog W .any b0 t v) : Lies W v := by
  simp only [Cell.okWide, ht, Cell.ok] at h
  cases v with
  | slice ao len cap =>
    cases ao with
    | none => trivial
    | some a =>
      obtain ⟨-, -, -, h2, row, cells, h3, -⟩ := h
      refine ⟨h2, ?_⟩
      unfold World.shape? at h3
      cases hh : W.heap[a.block]? with
      | none => simp [hh] at h3
      | some o => exact (Array.getElem?_eq_some_iff.1 hh).1
  | _ => trivial
theorem open_names {v : Value} (h : DataW.trod enc Tryz.prog W base spare held n 26 [v] = some x) (hl : Lies W v) :
    ∃ (l : List (List UInt8)) (ao : Option Addr) (cap : Nat), v = .slice ao l.length cap ∧ Row W v l.length (strs l) ∧ l.length ≤ 9223372036854775807 ∧ ∀ b, v.ownBlock = some b → b < W.heap.size := by
  rcases Go.Deep.open_slice1 Tryz.underlying26 c9 h with ⟨e, -⟩ | ⟨a, len, cap, m, k, V, D, Pl, e, hb, hlc, hmx, hm, -, hV⟩
  · cases e
    exact ⟨[], none, 0, rfl, .inl ⟨rfl, rfl⟩, by simp, fun b hb => by cases hb⟩
  · cases e
    obtain ⟨h1, h2⟩ := hl
    have hle : len ≤ m := by rw [hm]; split <;> omega
    have hstr : ∀ i, i < len → ∃ s : ByteArray, V i = .string s := fun i hi => by
      obtain ⟨s, e, -, -⟩ := DataW.trod_string Tryz.underlying9 (hV i (by omega)).2
      exact ⟨s, by simpa using e⟩
    obtain ⟨b, off, sp⟩ := a
    simp only at h1 h2
    subst h1
    let byt : Value → List UInt8 := fun v => match v with | .string s => s.data.toList | _ => []
    refine ⟨(List.range len).map fun i => byt (V i), some ⟨b, off, none⟩, cap, by simp, ?_, by simp [maxLen] at hmx ⊢; omega, fun k hk => by cases hk; exact h2⟩
    refine .inr ⟨b, off, cap, by simp, by simpa using hlc, fun j u hu => ?_⟩
    have hj : j < len := by have := (List.getElem?_eq_some_iff.1 hu).1; simpa [strs] using this
    have hc := (hV j (by omega)).1
    rw [Addr.add_lit] at hc
    rw [hc]
    obtain ⟨s, es⟩ := hstr j hj
    simp [strs, hj, byt, es] at hu
    rw [es, ← hu, ← str_eta]
theorem open_res (h : DataW.trod enc Tryz.prog W base spare held n 28 cs = some x) (hl : ∀ v, cs[4]? = some v → Lies W v) :
    ∃ (r : Resx) (ao : Option Addr) (cap : Nat), cs = [.int .i64 r.code, .bool r.dir, .int .i64 r.size, .string ⟨⟨r.data⟩⟩, .slice ao r.names.length cap] ∧ r.wf ∧ Row W (.slice ao r.names.length cap) r.names.length (strs r.names) ∧
      ∀ b, (Value.slice ao r.names.length cap).ownBlock = some b → b < W.heap.size := by
  obtain ⟨xs, m, -, -, hlen, hxs, hf⟩ := DataW.trod_struct Tryz.underlying28 h
  rw [c28] at hlen
  obtain ⟨y0, h0⟩ := field_of hxs hf 0 25 0 _ rfl c25
  obtain ⟨y1, h1⟩ := field_of hxs hf 1 4 1 _ rfl c4
  obtain ⟨y2, h2⟩ := field_of hxs hf 2 3 2 _ rfl c3
  obtain ⟨y3, h3⟩ := field_of hxs hf 3 9 3 _ rfl c9
  obtain ⟨y4, h4⟩ := field_of hxs hf 4 26 4 _ rfl c26
  clear hf
  obtain ⟨z0, e0, -, w0⟩ := DataW.trod_int Tryz.underlying25 h0
  obtain ⟨z1, e1, -⟩ := DataW.trod_bool Tryz.underlying4 h1
  obtain ⟨z2, e2, -, w2⟩ := DataW.trod_int Tryz.underlying3 h2
  obtain ⟨z3, e3, -, w3⟩ := DataW.trod_string Tryz.underlying9 h3
  obtain ⟨v4, e4⟩ : ∃ v, (cs.drop 4).take 1 = [v] := by
    match hq : (cs.drop 4).take 1, (show ((cs.drop 4).take 1).length = 1 by simp; omega) with
    | [v], _ => exact ⟨v, rfl⟩
  rw [e4] at h4
  have hv4 : cs[4]? = some v4 := by
    have : ((cs.drop 4).take 1)[0]? = some v4 := by rw [e4]; rfl
    simpa using this
  obtain ⟨l, ao, cap, ev, hrow, hll, hlb⟩ := open_names h4 (hl v4 hv4)
  subst ev
  refine ⟨⟨z0, z1, z2, z3.data.toList, l⟩, ao, cap, ?_, ⟨wf64 w0, wf64 w2, hll⟩, hrow, hlb⟩
  have hd : cs.drop 5 = [] := List.drop_eq_nil_of_le (by omega)
  have e : cs = cs.drop 0 := rfl
  rw [e, seg cs 0 1, seg cs 1 1, seg cs 2 1, seg cs 3 1, seg cs 4 1, hd, e0, e1, e2, e3, e4]
  simp only [← str_eta]
  rfl
theorem open_entries {v : Value} (h : DataW.trod enc Tryz.prog W base spare held n 24 [v] = some x) (hl : Lies W v) :
    ∃ (l : List Entx) (ao : Option Addr) (cap : Nat), v = .slice ao l.length cap ∧ Row W v l.length (entCells l) ∧ (∀ e ∈ l, e.wf) ∧ l.length ≤ 9223372036854775807 := by
  rcases Go.Deep.open_slice Tryz.underlying24 h with ⟨e, -⟩ | ⟨a, len, cap, m, k, D, Pl, e, hb, hlc, hmx, hm, -, hV⟩
  · cases e
    exact ⟨[], none, 0, rfl, .inl ⟨rfl, rfl⟩, by simp, by simp⟩
  · cases e
    obtain ⟨h1, h2⟩ := hl
    obtain ⟨b, off, sp⟩ := a
    simp only at h1 h2
    subst h1
    have hle : len ≤ m := by rw [hm]; split <;> omega
    rw [c51] at hV
    have hex : ∀ i, ∃ e : Entx, i < len → (W.cells? base (Addr.add ⟨b, off, none⟩ (i * 8)) 8 = some e.cells ∧ e.wf) := fun i => by
      by_cases hi : i < len
      · obtain ⟨cs', q1, q2⟩ := hV i (by omega)
        obtain ⟨e, rfl, q3⟩ := open_ent q2
        exact ⟨e, fun _ => ⟨q1, q3⟩⟩
      · exact ⟨⟨0, 0, zeroOp⟩, fun h => absurd h hi⟩
    obtain ⟨F, hF⟩ := Classical.axiomOfChoice hex
    refine ⟨(List.range len).map F, some ⟨b, off, none⟩, cap, by simp, ?_, ?_, by simp [maxLen] at hmx ⊢; omega⟩
    · refine .inr ⟨b, off, cap, by simp, by simpa using hlc, fun j u hu => ?_⟩
      have hj : j < 8 * len := by
        have := (List.getElem?_eq_some_iff.1 hu).1
        have hlen : ∀ l : List Entx, (entCells l).length = 8 * l.length := by
          intro l
          induction l with
          | nil => rfl
          | cons e l ih => simp only [entCells, List.flatMap_cons, List.length_append, List.length_cons] at ih ⊢; rw [ih]; simp [Entx.cells, Opx.cells]; omega
        rw [hlen] at this
        simpa using this
      have hq : j / 8 < len := by omega
      obtain ⟨g1, g2⟩ := hF (j / 8) hq
      have hg := entCells_get ((List.range len).map F) (j / 8) (by simpa using hq) (j % 8) (by omega)
      rw [show 8 * (j / 8) + j % 8 = j by omega, hu] at hg
      simp only [List.getElem_map, List.getElem_range] at hg
      obtain ⟨_, _, hc⟩ := World.cells?_some g1
      have h3 := (hc (j % 8) (by omega)).trans hg.symm
      rw [Addr.add_lit, Addr.add_lit] at h3
      rw [show off + j = off + j / 8 * 8 + j % 8 by omega]
      exact h3
    · intro e he
      obtain ⟨i, hi, rfl⟩ := List.mem_map.1 he
      exact (hF i (by simpa using hi)).2
theorem bytes_of_cells : ∀ (seg : List Value), (∀ v ∈ seg, ∃ z : Int, v = .int .u8 z ∧ (Lit.int .u8 z).wf = true) → ∃ L : List UInt8, seg = bvs L
  | [], _ => ⟨[], rfl⟩
  | v :: seg, h => by
    obtain ⟨z, rfl, hz⟩ := h v (by simp)
    obtain ⟨L, rfl⟩ := bytes_of_cells seg (fun u hu => h u (by simp [hu]))
    simp only [Lit.wf, Bool.and_eq_true, IntKind.min, IntKind.max, IntKind.bits, IntKind.signed] at hz
    obtain ⟨h1, h2⟩ := hz
    have h1' : 0 ≤ z := by simpa using h1
    have h2' : z ≤ 255 := by simpa using h2
    refine ⟨UInt8.ofNat z.toNat :: L, ?_⟩
    have e : (UInt8.ofNat z.toNat).toNat = z.toNat := toNat_ofNat (by omega)
    simp only [bvs, List.map_cons, bv, e]
    rw [show ((z.toNat : Nat) : Int) = z by omega]
theorem open_digest (h : DataW.trod enc Tryz.prog W base spare held n 23 cs = some x) : ∃ L : List UInt8, cs = bvs L ∧ L.length = 32 := by
  obtain ⟨xs, m, -, -, hlen, hxs, hf⟩ := DataW.trod_array Tryz.underlying23 h
  rw [c23] at hlen
  have hb : ∀ v ∈ cs, ∃ z : Int, v = .int .u8 z ∧ (Lit.int .u8 z).wf = true := by
    intro v hv
    obtain ⟨i, hi, rfl⟩ := List.getElem_of_mem hv
    have h1 := hf i (by omega)
    rw [c5, Nat.mul_one, List.getElem?_eq_getElem (by omega)] at h1
    obtain ⟨z, e, -, hz⟩ := DataW.trod_int Tryz.underlying5 h1
    refine ⟨z, ?_, hz⟩
    have e2 : ((cs.drop i).take 1)[0]? = some (.int .u8 z) := by rw [e]; rfl
    have e3 : cs[i]? = some (.int .u8 z) := by simpa using e2
    rw [List.getElem?_eq_getElem hi] at e3
    exact Option.some.inj e3
  obtain ⟨L, rfl⟩ := bytes_of_cells cs hb
  exact ⟨L, rfl, by rw [← bvs_length]; exact hlen⟩
theorem open_bytes {v : Value} (h : DataW.trod enc Tryz.prog W base spare held n 31 [v] = some x) (hl : Lies W v) :
    ∃ (L : List UInt8) (ao : Option Addr) (cap : Nat), v = .slice ao L.length cap ∧ Sl W v L ∧ L.length ≤ 9223372036854775807 ∧ ∀ b, v.ownBlock = some b → b < W.heap.size := by
  rcases Go.Deep.open_slice1 Tryz.underlying31 c5 h with ⟨e, -⟩ | ⟨a, len, cap, m, k, V, D, Pl, e, hb, hlc, hmx, hm, -, hV⟩
  · cases e
    exact ⟨[], none, 0, rfl, .inl ⟨rfl, rfl⟩, by simp, fun b hb => by cases hb⟩
  · cases e
    obtain ⟨h1, h2⟩ := hl
    obtain ⟨b, off, sp⟩ := a
    simp only at h1 h2
    subst h1
    have hle : len ≤ m := by rw [hm]; split <;> omega
    obtain ⟨L, hL⟩ := bytes_of_cells ((List.range len).map V) (fun v hv => by
      obtain ⟨i, hi, rfl⟩ := List.mem_map.1 hv
      have hi : i < len := by simpa using hi
      obtain ⟨z, e, -, hz⟩ := DataW.trod_int Tryz.underlying5 (hV i (by omega)).2
      exact ⟨z, by simpa using e, hz⟩)
    have hlen : len = L.length := by have := congrArg List.length hL; simpa [bvs_length] using this
    subst hlen
    refine ⟨L, some ⟨b, off, none⟩, cap, rfl, .inr ⟨b, off, cap, rfl, hlc, fun j u hu => ?_⟩, by simp [maxLen] at hmx; omega, fun k hk => by cases hk; exact h2⟩
    have hj : j < L.length := by have := (List.getElem?_eq_some_iff.1 hu).1; simpa [bvs_length] using this
    have hc := (hV j (by omega)).1
    rw [Addr.add_lit] at hc
    rw [hc, ← hL] at *
    simpa [hj] using hu
theorem cell_types : (Tryz.prog.cellTypes Tryz.prog.depth 30).map (fun ts => (ts.length, ts[40]?, ts[46]?)) = some (47, some 24, some 26) := by kernel_rfl
theorem open_msg {b0 : Nat} {v : Value} {d : DataW H} {p : List MemPlace} (hval : Value.okWide Tryz.prog W .any b0 30 v) (h : DataW.Trod enc Tryz.prog W base spare held 30 v d p) :
    ∃ (m : Msgx) (ao bo : Option Addr) (cap cp2 : Nat), v = .agg (m.cells (.slice ao m.entries.length cap) (.slice bo m.res.names.length cp2)).toArray ∧ (m.entries.length ≤ 1000 → m.wf) ∧ m.root.length = 32 ∧ m.entries.length ≤ 9223372036854775807 ∧
      Row W (.slice ao m.entries.length cap) m.entries.length (entCells m.entries) ∧ Row W (.slice bo m.res.names.length cp2) m.res.names.length (strs m.res.names) ∧ ∀ b, (Value.slice bo m.res.names.length cp2).ownBlock = some b → b < W.heap.size := by
  have hval' := hval
  simp only [Value.okWide, Tryz.underlying30] at hval'
  obtain ⟨cs, rfl, hsz, ts, hts, -, hcell⟩ := hval'
  rw [c30] at hsz
  obtain ⟨l1, l2, l3⟩ : ts.length = 47 ∧ ts[40]? = some 24 ∧ ts[46]? = some 26 := by
    have := cell_types
    rw [hts] at this
    simpa using this
  have li : ∀ i t e v, i < 47 → cs[i]? = some v → ts[i]? = some t → Tryz.prog.underlying t = some (.slice e) → Lies W v := by
    intro i t e v hi hv ht hu
    obtain ⟨u, h1, h2⟩ := hcell i v hv
    rw [l1, Nat.mod_eq_of_lt hi, ht] at h1
    cases h1
    exact lies_of hu h2
  obtain ⟨fuel, hf0⟩ := h
  obtain ⟨l⟩ := cs
  have hf0 : DataW.trod enc Tryz.prog W base spare held fuel 30 l = some (d, p) := hf0
  have hl47 : l.length = 47 := hsz
  obtain ⟨xs, m, -, -, hlen, hxs, hf⟩ := DataW.trod_struct Tryz.underlying30 hf0
  obtain ⟨y0, h0⟩ := field_of hxs hf 0 3 0 _ rfl c3
  obtain ⟨y1, h1⟩ := field_of hxs hf 1 3 1 _ rfl c3
  obtain ⟨y2, h2⟩ := field_of hxs hf 2 3 2 _ rfl c3
  obtain ⟨y3, h3⟩ := field_of hxs hf 3 2 3 _ rfl c2
  obtain ⟨y4, h4⟩ := field_of hxs hf 4 2 4 _ rfl c2
  obtain ⟨y5, h5⟩ := field_of hxs hf 5 2 5 _ rfl c2
  obtain ⟨y6, h6⟩ := field_of hxs hf 6 2 6 _ rfl c2
  obtain ⟨y7, h7⟩ := field_of hxs hf 7 2 7 _ rfl c2
  obtain ⟨y8, h8⟩ := field_of hxs hf 8 23 8 _ rfl c23
  obtain ⟨y9, h9⟩ := field_of hxs hf 9 24 40 _ rfl c24
  obtain ⟨y10, h10⟩ := field_of hxs hf 10 9 41 _ rfl c9
  obtain ⟨y11, h11⟩ := field_of hxs hf 11 28 42 _ rfl c28
  clear hf
  obtain ⟨z0, e0, -, w0⟩ := DataW.trod_int Tryz.underlying3 h0
  obtain ⟨z1, e1, -, w1⟩ := DataW.trod_int Tryz.underlying3 h1
  obtain ⟨z2, e2, -, w2⟩ := DataW.trod_int Tryz.underlying3 h2
  obtain ⟨z3, e3, -, w3⟩ := DataW.trod_int Tryz.underlying2 h3
  obtain ⟨z4, e4, -, w4⟩ := DataW.trod_int Tryz.underlying2 h4
  obtain ⟨z5, e5, -, w5⟩ := DataW.trod_int Tryz.underlying2 h5
  obtain ⟨z6, e6, -, w6⟩ := DataW.trod_int Tryz.underlying2 h6
  obtain ⟨z7, e7, -, w7⟩ := DataW.trod_int Tryz.underlying2 h7
  obtain ⟨R, e8, hR⟩ := open_digest h8
  obtain ⟨v9, e9⟩ : ∃ v, (l.drop 40).take 1 = [v] := by
    match hq : (l.drop 40).take 1, (show ((l.drop 40).take 1).length = 1 by simp; omega) with
    | [v], _ => exact ⟨v, rfl⟩
  have hv9 : l[40]? = some v9 := by
    have : ((l.drop 40).take 1)[0]? = some v9 := by rw [e9]; rfl
    simpa using this
  rw [e9] at h9
  obtain ⟨es, ao, cap, q9, r9, wf9, len9⟩ := open_entries h9 (li 40 24 51 v9 (by omega) (by simpa using hv9) l2 Tryz.underlying24)
  subst q9
  obtain ⟨z10, e10, -, w10⟩ := DataW.trod_string Tryz.underlying9 h10
  obtain ⟨r, bo, cp2, e11, w11, r11, b11⟩ := open_res h11 (fun v hv => by
    have hv2 : l[46]? = some v := by
      rw [List.getElem?_take_of_lt (by omega), List.getElem?_drop] at hv
      exact hv
    exact li 46 26 9 v (by omega) (by simpa using hv2) l3 Tryz.underlying26)
  refine ⟨⟨z0, z1, z2, z3, z4, z5, z6, z7, R, es, z10.data.toList, r⟩, ao, bo, cap, cp2, ?_, ?_, hR, len9, r9, r11, b11⟩
  · have hd : l.drop 47 = [] := List.drop_eq_nil_of_le (by omega)
    have e : l = l.drop 0 := rfl
    have key : l = (Msgx.cells ⟨z0, z1, z2, z3, z4, z5, z6, z7, R, es, z10.data.toList, r⟩ (.slice ao es.length cap) (.slice bo r.names.length cp2)) := by
      rw [e, seg l 0 1, seg l 1 1, seg l 2 1, seg l 3 1, seg l 4 1, seg l 5 1, seg l 6 1, seg l 7 1, seg l 8 32, seg l 40 1, seg l 41 1, seg l 42 5, hd, e0, e1, e2, e3, e4, e5, e6, e7, e8, e9, e10, e11]
      simp only [Msgx.cells, ← str_eta, List.append_nil]
      rfl
    rw [← key]
  · intro hle
    refine ⟨wf64 w0, ?_, hR, wf9, hle, ?_, w11⟩
    · intro x hx
      simp only [Msgx.nums, List.mem_cons, List.not_mem_nil, or_false] at hx
      rcases hx with rfl | rfl | rfl | rfl | rfl | rfl | rfl <;> exact wf64 (by assumption)
    · have : z10.data.toList.length = z10.size := rfl
      simp only [this, maxLen] at *
      omega
end
end Go.Proofs

/-! R2a -/
namespace Go.Proofs
open Go.RowKit Go.Wires
set_option maxHeartbeats 8000000
set_option maxRecDepth 100000
theorem wires_big (w : World) (m : Msgx) (ao _bo o3 : Option Addr) (cap _cp2 n c3 : Nat) (nv : Value) (k : Nat) (hr : m.root.length = 32) (hn : n ≤ 9223372036854775807) (hk : k ≤ 9223372036854775807) (hbig : 1000 < n ∨ 200000 < k) :
    Calls Tryz.prog 3 #[.agg (m.cells (.slice ao n cap) nv).toArray, .slice o3 k c3] w fun e w' => e = .returned (.bool true) ∧ Fr none' w w' := by
  have hT0 : Fr none' w (w.alloc (.cells (m.cells (.slice ao n cap) nv).toArray 30)) := Fr.alloc _ _ _
  have hA0 := heap_alloc_new w (.cells (m.cells (.slice ao n cap) nv).toArray 30)
  rcases Nat.lt_or_ge 1000 n with h1 | h1
  · go_enter Tryz.func3, Tryz.ntmps3
    go_wp2_with (first
      | (go_at_call 4; refine (awake_x _).mono ?_; rintro e w1 ⟨rfl, hF⟩; have hT1 := hT0.trans hF; have hA1 := hF.heap hA0 (fun h => h); clear hF hT0 hA0; have c40 := msg_c40 hA1 hr))
    all_goals go_returns
    all_goals exact ⟨rfl, hT1⟩
  · have h2 : 200000 < k := by omega
    go_enter Tryz.func3, Tryz.ntmps3
    go_wp2_with (first
      | (go_at_call 4; refine (awake_x _).mono ?_; rintro e w1 ⟨rfl, hF⟩; have hT1 := hT0.trans hF; have hA1 := hF.heap hA0 (fun h => h); clear hF hT0 hA0; have c40 := msg_c40 hA1 hr))
    all_goals go_returns
    all_goals exact ⟨rfl, hT1⟩
end Go.Proofs

/-! R2b -/
namespace Go.Proofs
open Go.RowKit Go.Wires
set_option maxHeartbeats 8000000
set_option maxRecDepth 100000
theorem wires_all (w : World) (m : Msgx) (ao bo o3 : Option Addr) (cap cp2 c3 : Nat) (Lb : List UInt8) (hw : m.entries.length ≤ 1000 → m.wf) (hr : m.root.length = 32) (hn : m.entries.length ≤ 9223372036854775807) (hE : Row w (.slice ao m.entries.length cap) m.entries.length (entCells m.entries))
    (hN : Row w (.slice bo m.res.names.length cp2) m.res.names.length (strs m.res.names)) (hbN : ∀ b, (Value.slice bo m.res.names.length cp2).ownBlock = some b → b < w.heap.size)
    (hS : Sl w (.slice o3 Lb.length c3) Lb) (hbb : ∀ b, (Value.slice o3 Lb.length c3).ownBlock = some b → b < w.heap.size) (hlen : Lb.length ≤ 9223372036854775807) :
    Calls Tryz.prog 3 #[.agg (m.cells (.slice ao m.entries.length cap) (.slice bo m.res.names.length cp2)).toArray, .slice o3 Lb.length c3] w fun e w' => e = .returned (.bool true) ∧ Fr none' w w' := by
  by_cases h : m.entries.length ≤ 1000 ∧ Lb.length ≤ 200000
  · obtain ⟨h1, h2⟩ := h
    have hwf := hw h1
    cases hok : m.ok with
    | true =>
      cases hm : msgOf Lb with
      | none => exact wires_tf w m ao bo o3 cap cp2 c3 Lb hwf hok hm hE hN hbN hS hbb h2
      | some n0 => exact wires_tt w m ao bo o3 cap cp2 c3 Lb hwf hok hm hE hN hbN hS hbb h2
    | false =>
      cases hm : msgOf Lb with
      | none => exact wires_ff w m ao bo o3 cap cp2 c3 Lb hwf hok hm hE hN hbN hS hbb h2
      | some n0 => exact wires_ft w m ao bo o3 cap cp2 c3 Lb hwf hok hm hE hN hbN hS hbb h2
  · exact wires_big w m ao bo o3 cap cp2 _ c3 _ _ hr hn hlen (by omega)
theorem wires_post {H : Type} {enc : TypeId × Value → H} {W : World} {base : Nat} {v0 v1 : Value} {d0 d1 : DataW H} {p0 p1 : List MemPlace} (hv0 : Value.okWide Tryz.prog W .any base 30 v0) (hv1 : Value.okWide Tryz.prog W .any base 31 v1)
    (h0 : DataW.Trod enc Tryz.prog W 0 (fun _ => true) true 30 v0 d0 p0) (h1 : DataW.Trod enc Tryz.prog W 0 (fun _ => true) true 31 v1 d1 p1) :
    Calls Tryz.prog 3 #[v0, v1] W fun e W' => e = .returned (.bool true) ∧ Fr none' W W' := by
  obtain ⟨m, ao, bo, cap, cp2, rfl, hw, hr, hn, hE, hN, hbN⟩ := open_msg hv0 h0
  clear hv0 h0
  obtain ⟨n, hf⟩ := h1
  have hv1' : Cell.okWide Tryz.prog W .any base 31 v1 := by
    unfold Value.okWide at hv1
    rw [Tryz.underlying31] at hv1
    exact hv1
  have hl := lies_of Tryz.underlying31 hv1'
  obtain ⟨o, l, c, rfl⟩ := Go.WideShapes.okWide_slice Tryz.underlying31 hv1
  clear hv1 hv1'
  have hf' : DataW.trod enc Tryz.prog W 0 (fun _ => true) true n 31 [.slice o l c] = some (d1, p1) := hf
  obtain ⟨L, o3, c3, e, hS, hlen, hb⟩ := open_bytes hf' hl
  clear hf hf' hl
  obtain ⟨rfl, rfl, rfl⟩ : o = o3 ∧ l = L.length ∧ c = c3 := by simpa using e
  exact wires_all W m ao bo o cap cp2 c L hw hr hn hE hN hbN hS hb hlen
end Go.Proofs
