/-
  The codec: what the program writes of operations, results, digests and messages. Conditions: the bounds that each contract states.
-/
import Derived.Test.YtkngpdmnpgoomaaGreatDoorCodA
import Derived.Deep.RegionLaw
import Derived.Deep.QuietTactic
import Derived.BigQuiet
/-! A7 -/
namespace Go.Proofs
open Go.RowKit Go.Wires
set_option maxHeartbeats 2000000
set_option maxRecDepth 100000
/-- From W on the writer at P has come to hold L, of at most K bytes. -/
def Wr (W w : World) (P : Nat) (D0 : Option Nat) (L : List UInt8) (K : Nat) : Prop := OutTo W w P D0 L ∧ L.length ≤ K
abbrev I64 (x : Int) : Prop := -9223372036854775808 ≤ x ∧ x ≤ 9223372036854775807
theorem wInt_le {x : Int} (h : I64 x) : (wInt x).length ≤ 10 := numW_le (zig_lt (by omega) (by omega))
section
variable {W w : World} {P : Nat} {D0 : Option Nat} {L : List UInt8} {K : Nat}
theorem Wr.go {L' : List UInt8} {K' : Nat} {f : FuncId} {args : Array Value} (h : Wr W w P D0 L K) (hc : ∀ D, OutAt w P L D → Calls Tryz.prog f args w fun e w' => e = .returned (.tuple #[]) ∧ OutTo w w' P D L') (hK : L'.length ≤ K') :
    Calls Tryz.prog f args w fun e w' => e = .returned (.tuple #[]) ∧ Wr W w' P D0 L' K' := by
  obtain ⟨⟨D, hA, hF, hD⟩, hl⟩ := h
  refine (hc D hA).mono ?_
  rintro e w' ⟨rfl, hO⟩
  exact ⟨rfl, OutTo.trans hF hD hO, hK⟩
theorem Wr.num (h : Wr W w P D0 L K) (n : Nat) (hn : n < 2 ^ 64) (hK : K ≤ 70368744100000) : Calls Tryz.prog 15 #[.pointer (some ⟨P, 0, none⟩), .int .u64 (n : Nat)] w fun e w' => e = .returned (.tuple #[]) ∧ Wr W w' P D0 (L ++ numW n) (K + 10) := by
  have hl := h.2
  have h10 := numW_le (m := n) (by omega)
  have : (L ++ numW n).length ≤ K + 10 := by rw [List.length_append]; omega
  exact h.go (fun D hA => outNum_spec w P D L n hn hA (by omega)) this
theorem Wr.int (h : Wr W w P D0 L K) (x : Int) (hx : I64 x) (hK : K ≤ 70368744100000) : Calls Tryz.prog 16 #[.pointer (some ⟨P, 0, none⟩), .int .i64 x] w fun e w' => e = .returned (.tuple #[]) ∧ Wr W w' P D0 (L ++ wInt x) (K + 10) := by
  have hl := h.2
  have h10 := wInt_le hx
  exact h.go (fun D hA => outInt_spec w P D L x hx hA (by omega)) (by rw [List.length_append]; omega)
theorem Wr.flag (h : Wr W w P D0 L K) (b : Bool) (hK : K ≤ 70368744100000) : Calls Tryz.prog 64 #[.pointer (some ⟨P, 0, none⟩), .bool b] w fun e w' => e = .returned (.tuple #[]) ∧ Wr W w' P D0 (L ++ wFlag b) (K + 10) := by
  have hl := h.2
  have h10 : (wFlag b).length ≤ 10 := numW_le (by cases b <;> decide)
  exact h.go (fun D hA => outFlag_spec w P D L b hA (by omega)) (by rw [List.length_append]; omega)
theorem Wr.text (h : Wr W w P D0 L K) (S : List UInt8) (J : Nat) (hS : S.length ≤ J) (hK : K + J ≤ 70368744100000) : Calls Tryz.prog 19 #[.pointer (some ⟨P, 0, none⟩), .string ⟨⟨S⟩⟩] w fun e w' => e = .returned (.tuple #[]) ∧ Wr W w' P D0 (L ++ wText S) (K + J + 10) := by
  have hl := h.2
  have h10 := numW_le (m := S.length) (by omega)
  exact h.go (fun D hA => outText_spec w P D L S (by omega) hA (by omega)) (by simp only [wText, List.length_append]; omega)
theorem Wr.start {T : TypeId} (hP : w.heap[P]? = some (.cells #[.slice none 0 0] T (0, 0))) : Wr w w P none [] 0 :=
  ⟨OutTo.refl ⟨_, T, hP, World.ownsRow_nil _ _ _ _, rfl⟩, Nat.le_refl _⟩
theorem Wr.heap {B : Nat} {o : Obj} (h : Wr W w P D0 L K) (hB : W.heap[B]? = some o) (h1 : B ≠ P) (h2 : some B ≠ D0) : w.heap[B]? = some o := by
  obtain ⟨⟨D, hA, hF, hD⟩, hl⟩ := h
  exact hF.heap hB (by rintro (h | h); exact h1 h; exact h2 h)
theorem Wr.bytes (h : Wr W w P D0 L K) (hK : K ≤ 70368744100000) : Calls Tryz.prog 20 #[.pointer (some ⟨P, 0, none⟩)] w fun e w' => ∃ v, e = .returned v ∧ w'.ownsRow w.heap.size 5 1 v L.length (bvs L) ∧ Fr none' w w' := by
  obtain ⟨⟨D, hA, hF, hD⟩, hl⟩ := h
  exact outBytes_spec w P D L hA (by omega)
theorem Wr.mono {K' : Nat} (h : Wr W w P D0 L K) (hk : K ≤ K') : Wr W w P D0 L K' := ⟨h.1, Nat.le_trans h.2 hk⟩
theorem Wr.fr (h : Wr W w P D0 L K) : Fr (OutFr P D0) W w := h.1.choose_spec.2.1
end
structure Opx where
  kind : Int
  path : List UInt8
  to : List UInt8
  data : List UInt8
  at_ : Int
  size : Int
def Opx.val (o : Opx) : Value := .agg #[.int .i64 o.kind, .string ⟨⟨o.path⟩⟩, .string ⟨⟨o.to⟩⟩, .string ⟨⟨o.data⟩⟩, .int .i64 o.at_, .int .i64 o.size]
def Opx.ok (o : Opx) : Bool := decide (o.path.length ≤ 1100 ∧ o.to.length ≤ 1100 ∧ o.data.length ≤ 1100)
def Opx.bytes (o : Opx) : List UInt8 := wInt o.kind ++ wText o.path ++ wText o.to ++ wText o.data ++ wInt o.at_ ++ wInt o.size
structure Opx.wf (o : Opx) : Prop where
  kind : I64 o.kind
  at_ : I64 o.at_
  size : I64 o.size
  path : o.path.length ≤ 9223372036854775807
  to : o.to.length ≤ 9223372036854775807
  data : o.data.length ≤ 9223372036854775807
theorem cells6 {w : World} {B : Nat} {T : TypeId} {a b c d e f : Value} (h : w.heap[B]? = some (.cells #[a, b, c, d, e, f] T (0, 0))) :
    w.cell? ⟨B, 0, none⟩ = some a ∧ w.cell? ⟨B, 1, none⟩ = some b ∧ w.cell? ⟨B, 2, none⟩ = some c ∧ w.cell? ⟨B, 3, none⟩ = some d ∧ w.cell? ⟨B, 4, none⟩ = some e ∧ w.cell? ⟨B, 5, none⟩ = some f := by
  refine ⟨cell_obj h 0, cell_obj h 1, cell_obj h 2, cell_obj h 3, cell_obj h 4, cell_obj h 5⟩
theorem opEncode_spec (w : World) (o : Opx) (hw : o.wf) : Calls Tryz.prog 18 #[o.val] w fun e w' =>
    ∃ v, e = .returned (.tuple #[v, .int .i64 (if o.ok then 0 else 2)]) ∧ w'.ownsRow w.heap.size 5 1 v (if o.ok then o.bytes else []).length (bvs (if o.ok then o.bytes else [])) ∧ Fr none' w w' := by
  obtain ⟨kind, path, to, data, at_, size⟩ := o
  obtain ⟨k1, k2, k3, k4, k5, k6⟩ := hw
  simp only at k1 k2 k3 k4 k5 k6
  simp only [Opx.val]
  by_cases hok : path.length ≤ 1100 ∧ to.length ≤ 1100 ∧ data.length ≤ 1100
  · have hb : Opx.ok ⟨kind, path, to, data, at_, size⟩ = true := by simpa [Opx.ok] using hok
    rw [hb]
    obtain ⟨m1, m2, m3⟩ := hok
    simp only [if_true]
    have hB0 : ((w.alloc (.cells #[.int .i64 kind, .string ⟨⟨path⟩⟩, .string ⟨⟨to⟩⟩, .string ⟨⟨data⟩⟩, .int .i64 at_, .int .i64 size] 49)).alloc (.cells #[.slice none 0 0] 74)).heap[w.heap.size]? = some (.cells #[.int .i64 kind, .string ⟨⟨path⟩⟩, .string ⟨⟨to⟩⟩, .string ⟨⟨data⟩⟩, .int .i64 at_, .int .i64 size] 49 (0, 0)) := by
      rw [heap_alloc_old _ _ (by simp)]; exact heap_alloc_new w _
    have hP0 : ((w.alloc (.cells #[.int .i64 kind, .string ⟨⟨path⟩⟩, .string ⟨⟨to⟩⟩, .string ⟨⟨data⟩⟩, .int .i64 at_, .int .i64 size] 49)).alloc (.cells #[.slice none 0 0] 74)).heap[w.heap.size + 1]? = some (.cells #[.slice none 0 0] 74 (0, 0)) := by
      have := heap_alloc_new (w.alloc (.cells #[.int .i64 kind, .string ⟨⟨path⟩⟩, .string ⟨⟨to⟩⟩, .string ⟨⟨data⟩⟩, .int .i64 at_, .int .i64 size] 49)) (.cells #[.slice none 0 0] 74)
      simpa using this
    have hW := Wr.start hP0
    go_enter Tryz.func18, Tryz.ntmps18
    go_wp2_with (first
      | (go_at_call 16; refine (hW.int _ (by assumption) (by omega)).mono ?_; rintro e w1 ⟨rfl, hW⟩; have hB := hW.heap hB0 (by omega) (by simp); obtain ⟨c0, c1, c2, c3, c4, c5⟩ := cells6 hB)
      | (go_at_call 19; refine (hW.text _ 1100 (by assumption) (by omega)).mono ?_; rintro e w1 ⟨rfl, hW⟩; have hB := hW.heap hB0 (by omega) (by simp); obtain ⟨c0, c1, c2, c3, c4, c5⟩ := cells6 hB)
      | (go_at_call 20; refine (hW.bytes (by omega)).mono ?_; rintro e w2 ⟨v, rfl, hown, hF⟩))
    all_goals go_returns
    all_goals refine ⟨v, rfl, own_base hown (by have := hW.fr.size; simp at this; omega), ?_⟩
    all_goals exact (((Fr.alloc none' _ _).trans (Fr.alloc none' _ _)).trans' hW.fr (fun x hx h => by rcases h with h | h; exact absurd h (by omega); cases h)).trans hF
  · have hb : Opx.ok ⟨kind, path, to, data, at_, size⟩ = false := by simpa [Opx.ok] using hok
    rw [hb]
    go_enter Tryz.func18, Tryz.ntmps18
    go_wp2_with fail
    all_goals go_returns
    all_goals exact ⟨_, rfl, World.ownsRow_nil _ _ _ _, Fr.alloc none' _ _⟩
end Go.Proofs

/-! A8 -/
namespace Go.Proofs
open Go.RowKit Go.Wires
set_option maxHeartbeats 4000000
set_option maxRecDepth 100000
structure Resx where
  code : Int
  dir : Bool
  size : Int
  data : List UInt8
  names : List (List UInt8)
def strs (N : List (List UInt8)) : List Value := N.map fun S => .string ⟨⟨S⟩⟩
def Resx.val (r : Resx) (nv : Value) : Value := .agg #[.int .i64 r.code, .bool r.dir, .int .i64 r.size, .string ⟨⟨r.data⟩⟩, nv]
def Resx.ok (r : Resx) : Bool := decide (r.data.length ≤ 1100 ∧ (∀ S ∈ r.names, S.length ≤ 1100) ∧ r.names.length ≤ 512)
def Resx.bytes (r : Resx) : List UInt8 := wInt r.code ++ wFlag r.dir ++ wInt r.size ++ wText r.data ++ numW r.names.length ++ r.names.flatMap wText
structure Resx.wf (r : Resx) : Prop where
  code : I64 r.code
  size : I64 r.size
  names : r.names.length ≤ 9223372036854775807
theorem cells5 {w : World} {B : Nat} {T : TypeId} {a b c d e : Value} (h : w.heap[B]? = some (.cells #[a, b, c, d, e] T (0, 0))) :
    w.cell? ⟨B, 0, none⟩ = some a ∧ w.cell? ⟨B, 1, none⟩ = some b ∧ w.cell? ⟨B, 2, none⟩ = some c ∧ w.cell? ⟨B, 3, none⟩ = some d ∧ w.cell? ⟨B, 4, none⟩ = some e := by
  refine ⟨cell_obj h 0, cell_obj h 1, cell_obj h 2, cell_obj h 3, cell_obj h 4⟩
theorem pack_spec (w : World) (r : Resx) (nv : Value) (hw : r.wf) (hN : Row w nv r.names.length (strs r.names)) (hb : ∀ b, nv.ownBlock = some b → b < w.heap.size) : Calls Tryz.prog 14 #[r.val nv] w fun e w' =>
    ∃ v c, e = .returned (.tuple #[v, .int .i64 c]) ∧ (c = 0 ↔ r.ok = true) ∧ (r.ok = true → w'.ownsRow w.heap.size 5 1 v r.bytes.length (bvs r.bytes)) ∧ Fr none' w w' := by
  obtain ⟨code, dir, size, data, N⟩ := r
  obtain ⟨k1, k2, k3⟩ := hw
  simp only at k1 k2 k3 hN
  simp only [Resx.val]
  obtain ⟨ao, cap, rfl, hcap⟩ := hN.shape
  go_enter Tryz.func14, Tryz.ntmps14
  go_wp2_with fail
  go_loop [4, 16] (fun u4 u16 => ∃ (i long : Nat), i ≤ N.length ∧ u16 = .int .i64 (i : Nat) ∧ u4 = .int .i64 (long : Nat) ∧ (long ≤ 1100 ↔ data.length ≤ 1100 ∧ ∀ S ∈ N.take i, S.length ≤ 1100)) (fun _ i => N.length - (intOf i).toNat)
  case atStart => exact ⟨0, data.length, by omega, rfl, rfl, by simp⟩
  case round =>
    obtain ⟨i, long, hi, rfl, rfl, hlong⟩ := hrel
    by_cases hiN : i < N.length
    · obtain ⟨b, off, rfl, hcells⟩ := hN.at (by omega)
      have hlt := hb b rfl
      have hcell := hcells i (.string ⟨⟨N[i]⟩⟩) (by simp [strs, hiN])
      have htk : N.take (i + 1) = N.take i ++ [N[i]] := by simp
      have hc2 : (w.alloc (.cells #[.int .i64 code, .bool dir, .int .i64 size, .string ⟨⟨data⟩⟩, .slice (some ⟨b, off, none⟩) N.length cap] 28)).cell? ⟨b, off + i, none⟩ = some (.string ⟨⟨N[i]⟩⟩) := by
        rw [World.cell?_of_block (heap_alloc_old w _ hlt)]; exact hcell
      clear hcells
      go_wp2_with fail
      refine ⟨⟨i + 1, if long < N[i].length then N[i].length else long, by omega, by simp, by split <;> rfl, ?_⟩, ?_⟩
      · rw [htk]
        constructor
        · intro h
          have h1 : long ≤ 1100 := by split at h <;> omega
          refine ⟨(hlong.1 h1).1, fun S hS => ?_⟩
          rcases List.mem_append.1 hS with hS | hS
          · exact (hlong.1 h1).2 S hS
          · simp at hS; subst hS; split at h <;> omega
        · rintro ⟨h1, h2⟩
          have h3 := hlong.2 ⟨h1, fun S hS => h2 S (List.mem_append.2 (.inl hS))⟩
          have h4 := h2 N[i] (List.mem_append.2 (.inr (List.mem_singleton.2 rfl)))
          split <;> omega
      · simp [intOf]; omega
    · obtain rfl : i = N.length := by omega
      rw [List.take_length] at hlong
      have hB0 : ((w.alloc (.cells #[.int .i64 code, .bool dir, .int .i64 size, .string ⟨⟨data⟩⟩, .slice ao N.length cap] 28)).alloc (.cells #[.slice none 0 0] 74)).heap[w.heap.size]? = some (.cells #[.int .i64 code, .bool dir, .int .i64 size, .string ⟨⟨data⟩⟩, .slice ao N.length cap] 28 (0, 0)) := by
        rw [heap_alloc_old _ _ (by simp)]; exact heap_alloc_new w _
      have hP0 : ((w.alloc (.cells #[.int .i64 code, .bool dir, .int .i64 size, .string ⟨⟨data⟩⟩, .slice ao N.length cap] 28)).alloc (.cells #[.slice none 0 0] 74)).heap[w.heap.size + 1]? = some (.cells #[.slice none 0 0] 74 (0, 0)) := by
        have := heap_alloc_new (w.alloc (.cells #[.int .i64 code, .bool dir, .int .i64 size, .string ⟨⟨data⟩⟩, .slice ao N.length cap] 28)) (.cells #[.slice none 0 0] 74)
        simpa using this
      have hW := Wr.start hP0
      go_wp2_with (first
        | (go_at_call 16; refine (hW.int _ (by assumption) (by omega)).mono ?_; rintro e w1 ⟨rfl, hW⟩; have hB := hW.heap hB0 (by omega) (by simp); obtain ⟨c0, c1, c2, c3, c4⟩ := cells5 hB)
        | (go_at_call 64; refine (hW.flag _ (by omega)).mono ?_; rintro e w1 ⟨rfl, hW⟩; have hB := hW.heap hB0 (by omega) (by simp); obtain ⟨c0, c1, c2, c3, c4⟩ := cells5 hB)
        | (go_at_call 15; refine (hW.num _ (by omega) (by omega)).mono ?_; rintro e w1 ⟨rfl, hW⟩; have hB := hW.heap hB0 (by omega) (by simp); obtain ⟨c0, c1, c2, c3, c4⟩ := cells5 hB)
        | (go_at_call 19; refine (hW.text _ 1100 (by omega) (by omega)).mono ?_; rintro e w1 ⟨rfl, hW⟩; have hB := hW.heap hB0 (by omega) (by simp); obtain ⟨c0, c1, c2, c3, c4⟩ := cells5 hB))
      · go_returns
        refine ⟨_, _, rfl, ?_, ?_, Fr.alloc none' _ _⟩
        · simp [Resx.ok]; intro h1 h2; have := hlong.2 ⟨h1, h2⟩; omega
        · simp [Resx.ok]; intro h1 h2; have := hlong.2 ⟨h1, h2⟩; omega
      · go_returns
        refine ⟨_, _, rfl, ?_, ?_, Fr.alloc none' _ _⟩
        · simp [Resx.ok]; omega
        · simp [Resx.ok]; omega
      · have hFW : Fr none' w ((w.alloc (.cells #[.int .i64 code, .bool dir, .int .i64 size, .string ⟨⟨data⟩⟩, .slice ao N.length cap] 28)).alloc (.cells #[.slice none 0 0] 74)) := (Fr.alloc none' _ _).trans (Fr.alloc none' _ _)
        generalize ((w.alloc (.cells #[.int .i64 code, .bool dir, .int .i64 size, .string ⟨⟨data⟩⟩, .slice ao N.length cap] 28)).alloc (.cells #[.slice none 0 0] 74)) = W at hW hB0 hP0 hFW
        have hFrom : ∀ {w1 : World} {L : List UInt8} {K : Nat}, Wr W w1 (w.heap.size + 1) none L K → Fr none' w w1 := fun h => hFW.trans' h.fr (fun x hx h => by rcases h with h | h; exact absurd h (by omega); cases h)
        have hlong' := hlong.1 (by omega)
        go_loopw [53] (fun u53 w1 => ∃ (i : Nat), i ≤ N.length ∧ u53 = .int .i64 (i : Nat) ∧ Wr W w1 (w.heap.size + 1) none (wInt code ++ wFlag dir ++ wInt size ++ wText data ++ numW N.length ++ (N.take i).flatMap wText) (2000 + 1110 * i)) (fun i _ => N.length - (intOf i).toNat)
        case atStart => exact ⟨0, by omega, rfl, by simpa using hW.mono (by omega)⟩
        case round =>
          obtain ⟨i, hi, rfl, hV⟩ := hrel
          by_cases hiN : i < N.length
          · obtain ⟨b, off, rfl, hcells⟩ := ((hN.fr (hFrom hV) (fun _ _ _ h => h)).at (by omega))
            have hcell := hcells i (.string ⟨⟨N[i]⟩⟩) (by simp [strs, hiN])
            have hle := hlong'.2 N[i] (by simp)
            have htk : N.take (i + 1) = N.take i ++ [N[i]] := by simp
            clear hcells
            go_wp2_with (go_at_call 19; refine (hV.text _ 1100 (by assumption) (by omega)).mono ?_; rintro e w1 ⟨rfl, hV⟩)
            refine ⟨⟨i + 1, by omega, by simp, ?_⟩, ?_⟩
            · rw [htk, List.flatMap_append, ← List.append_assoc, List.flatMap_cons, List.flatMap_nil, List.append_nil]; exact hV.mono (K' := 2000 + 1110 * (i + 1)) (by omega)
            · simp [intOf]; omega
          · obtain rfl : i = N.length := by omega
            rw [List.take_length] at hV
            go_wp2_with (go_at_call 20; refine (hV.bytes (by omega)).mono ?_; rintro e w2 ⟨v, rfl, hown, hF⟩)
            go_returns
            refine ⟨_, _, rfl, ?_, fun _ => own_base hown (hFrom hV).size, (hFrom hV).trans hF⟩
            simp [Resx.ok]; exact ⟨hlong'.1, hlong'.2, by omega⟩
end Go.Proofs

/-! A9 -/
namespace Go.Proofs
open Go.RowKit Go.Wires
set_option maxHeartbeats 4000000
set_option maxRecDepth 100000
theorem outDigest_spec (w : World) (P : Nat) (D : Option Nat) (L Dg : List UInt8) (hDg : Dg.length = 32) (h : OutAt w P L D) (hlen : L.length ≤ 70368744177000) :
    Calls Tryz.prog 17 #[.pointer (some ⟨P, 0, none⟩), .agg (bvs Dg).toArray] w fun e w' => e = .returned (.tuple #[]) ∧ OutTo w w' P D (L ++ Dg) := by
  obtain ⟨sv, T, hP, hown, rfl⟩ := h
  have hPlt := lt_of_heap hP
  have hP1 : (w.alloc (.cells (bvs Dg).toArray 23)).drew.heap[P]? = some (.cells #[sv] T (0, 0)) := (Fr.alloc none' w _).heap hP (fun h => h)
  have h0 := cell_obj hP1 0
  have f0 := frozen_obj hP1 0
  simp only [List.getElem?_toArray, List.getElem?_cons_zero] at h0
  have hSl : Sl (w.alloc (.cells (bvs Dg).toArray 23)).drew (.slice (some ⟨w.heap.size, 0, none⟩) 32 32) Dg := by
    refine .inr ⟨w.heap.size, 0, 32, by rw [hDg], by omega, fun j u hu => ?_⟩
    have hh : (w.alloc (.cells (bvs Dg).toArray 23)).drew.heap[w.heap.size]? = some (.cells (bvs Dg).toArray 23 (0, 0)) := heap_alloc_new w _
    rw [cell_obj hh, Nat.zero_add]; simpa using hu
  have hown0 : (w.alloc (.cells (bvs Dg).toArray 23)).drew.ownsRow (P + 1) 5 1 sv L.length (bvs L) := own_fr hown ((Fr.alloc none' w _).trans (Fr.drew none' _)) (fun _ _ h => h)
  go_enter Tryz.func17, Tryz.ntmps17
  go_wp2_with fail
  go_region_law (refine step31 rfl (.tmp 10) (.tmp 11) rfl (P + 1) sv L Dg rfl hown0 _ rfl hSl (by omega) (by simp; omega) ?_; intro v1 w1 hown1 hgrow1 hnear1; obtain ⟨ao1, n1, cp1, -, rfl⟩ := own_shape hown1; have hP1 := grown_heap hgrow1 hP1 (fun k hk => by have := hown.lt k hk; omega); have h01 := cell_obj hP1 0; simp only [List.getElem?_toArray, List.getElem?_cons_zero] at h01; have f01 := frozen_obj hP1 0)
  go_wp2
  go_returns
  have hg : w.grownBy w1 sv.ownBlock := grown_alloc ⟨hgrow1.os, hgrow1.tape, hgrow1.output, hgrow1.size, hgrow1.block⟩
  have hnear : Near w sv (.slice ao1 n1 cp1) := near_alloc hnear1
  exact ⟨rfl, OutTo.step hP (fun k hk => by have := hown.lt k hk; omega) hown1 hg hnear⟩
theorem Wr.digest {W w : World} {P : Nat} {D0 : Option Nat} {L : List UInt8} {K : Nat} (h : Wr W w P D0 L K) (Dg : List UInt8) (hDg : Dg.length = 32) (hK : K ≤ 70368744100000) : Calls Tryz.prog 17 #[.pointer (some ⟨P, 0, none⟩), .agg (bvs Dg).toArray] w fun e w' => e = .returned (.tuple #[]) ∧ Wr W w' P D0 (L ++ Dg) (K + 32) := by
  have hl := h.2
  exact h.go (fun D hA => outDigest_spec w P D L Dg hDg hA (by omega)) (by rw [List.length_append]; omega)
theorem copy_step {P : Program} {ops : Array Oper} {o : Oper} {a : Act} {w : World} {K : Act → World → Prop} {Q : Exit → Act → World → Prop} {E : Prop} (hgd : o.guard = none) (d s : Operand) (dT sT : TypeId)
    (ho : o.op = .call { callee := .builtin .copy, args := #[d, s], argTypes := #[dT, sT] }) (elem : TypeId) (hu : P.underlying dT = some (.slice elem)) (hsz : (P.info? elem).map (·.size) = some 1)
    (g n c : Nat) (hd : a.eval d = .slice (some ⟨g, 0, none⟩) n c) (sv : Value) (hs : a.eval s = sv) (M : List UInt8) (hM : Sl w sv M)
    (cur : Array Value) (t : TypeId) (hg : w.heap[g]? = some (.cells cur t (0, 0))) (hn : cur.size = n) (hln : M = [] ∨ M.length = n)
    (h : ∀ w', w'.heap[g]? = some (.cells (if M = [] then cur else (bvs M).toArray) t (0, 0)) → Fr (· = g) w w' → K (a.put o.dst (goInt M.length)) w') :
    if Region.wanted o (yielded ops a.tmps) = true then Oper.wp P o a w K Q else E := by
  have hw : Region.wanted o (yielded ops a.tmps) = true := by simp [Region.wanted, hgd]
  rw [if_pos hw]
  by_cases h0 : M = []
  · subst h0
    obtain ⟨ao, cp, hsv⟩ : ∃ ao cp, sv = .slice ao 0 cp := by
      rcases hM with ⟨e, _⟩ | ⟨b, off, cap, e, _⟩
      · exact ⟨_, _, e⟩
      · exact ⟨_, _, e⟩
    subst hsv
    have hrun := run_copy_none (P := P) w dT sT o.type elem (some ⟨g, 0, none⟩) ao n c 0 cp hu hsz (by simp)
    unfold Oper.wp
    simp [execOp, ho, resolve, invoke, builtin, hd, hs, hrun, Result.andThen]
    exact h w (by simpa using hg) (Fr.refl _ _)
  · have hMn : M.length = n := by rcases hln with h | h; exact absurd h h0; exact h
    rcases hM with ⟨_, e⟩ | ⟨b, off, cap, rfl, hc, hcells⟩
    · exact absurd e h0
    · have hrun := run_copy_row (P := P) w dT sT o.type elem g 0 n c ⟨b, off, none⟩ M.length cap cur t (bvs M) hu hsz hg (by rw [bvs_length, hMn]; exact (Nat.min_self n).symm) (fun j v hv => by rw [Addr.add_lit]; exact hcells j v hv) (by simp [bvs]; omega) (bvs_oneCell M)
      have hset : (cur.toList.take 0 ++ bvs M ++ cur.toList.drop (0 + (bvs M).length)).toArray = (bvs M).toArray := by
        have : cur.toList.drop (0 + (bvs M).length) = [] := by apply List.drop_eq_nil_of_le; simp [bvs]; omega
        rw [this]; simp
      rw [hset, bvs_length] at hrun
      unfold Oper.wp execOp
      simp only [ho, resolve, invoke, builtin, Sem.run_bind, Sem.run_pure, Result.andThen_ok, List.map_toArray, List.map_cons, List.map_nil, hd, hs, hrun]
      refine h _ ?_ ⟨rfl, rfl, by simp, fun k _ hk => setRow_other w g k _ hk⟩
      rw [if_neg h0]
      exact setRow_heap w g cur (bvs M).toArray t _ hg
theorem take_len (n : Nat) (s : St) : (rdS (rTake n) [] s).1 = [] ∨ (rdS (rTake n) [] s).1.length = n := by
  cases s with
  | none => exact .inl rfl
  | some L =>
    simp only [rdS, rTake]
    by_cases h : n ≤ L.length
    · right; simp [h]
    · left; simp [h]
theorem two_new (w : World) (o1 o2 : Obj) : ((w.alloc o1).alloc o2).heap[w.heap.size + 1]? = some o2 := by
  have := heap_alloc_new (w.alloc o1) o2
  rwa [World.size_alloc] at this
theorem two_old (w : World) (o1 o2 : Obj) : ((w.alloc o1).alloc o2).heap[w.heap.size]? = some o1 := by
  rw [heap_alloc_old _ _ (by simp)]; exact heap_alloc_new w _
theorem rdS_snd {α : Type} (rd : Rd α) (d d' : α) (s : St) : (rdS rd d s).2 = (rdS rd d' s).2 := by
  cases s with
  | none => rfl
  | some L => simp only [rdS]; cases rd L <;> rfl
theorem dig_len (s : St) : (rdS (rTake 32) (List.replicate 32 0) s).1.length = 32 := by
  cases s with
  | none => rfl
  | some L =>
    simp only [rdS, rTake]
    by_cases h : 32 ≤ L.length
    · simp [h]
    · rw [if_neg h]; rfl
theorem dig_eq (s : St) : (if (rdS (rTake 32) [] s).1 = [] then (bvs (List.replicate 32 0)).toArray else (bvs (rdS (rTake 32) [] s).1).toArray) = (bvs (rdS (rTake 32) (List.replicate 32 0) s).1).toArray := by
  cases s with
  | none => rfl
  | some L =>
    simp only [rdS, rTake]
    by_cases h : 32 ≤ L.length
    · simp only [if_pos h]
      rw [if_neg]
      intro e
      have := congrArg List.length e
      rw [List.length_take, List.length_nil] at this; omega
    · simp only [if_neg h]; rfl
theorem digest_spec (w : World) (P : Nat) (s : St) (h : InAt w P s) : Calls Tryz.prog 30 #[.pointer (some ⟨P, 0, none⟩)] w fun e w' =>
    e = .returned (.agg (bvs (rdS (rTake 32) (List.replicate 32 0) s).1).toArray) ∧ InAt w' P (rdS (rTake 32) (List.replicate 32 0) s).2 ∧ Fr (· = P) w w' := by
  have hF0 : Fr none' w ((w.alloc (.cells (bvs (List.replicate 32 0)).toArray 23)).alloc (.cells (bvs (List.replicate 32 0)).toArray 23)).drew := ((Fr.alloc none' _ _).trans (Fr.alloc none' _ _)).trans (Fr.drew none' _)
  have hI := h.fr hF0
  have hlt := InAt.lt h
  have hcur : ((w.alloc (.cells (bvs (List.replicate 32 0)).toArray 23)).alloc (.cells (bvs (List.replicate 32 0)).toArray 23)).drew.heap[w.heap.size + 1]? = some (.cells (bvs (List.replicate 32 0)).toArray 23 (0, 0)) := two_new w _ _
  have hcur2 : ((w.alloc (.cells (bvs (List.replicate 32 0)).toArray 23)).alloc (.cells (bvs (List.replicate 32 0)).toArray 23)).drew.heap[w.heap.size]? = some (.cells (bvs (List.replicate 32 0)).toArray 23 (0, 0)) := two_old w _ _
  have hM := take_len 32 s
  go_enter Tryz.func30, Tryz.ntmps30
  go_wp2_with fail
  go_region_law (first
    | (go_simp; go_at_call 68; refine (take_spec _ _ _ 32 (by omega) hI).mono ?_; rintro e w4 ⟨v4, rfl, hv4, hsl4, hI4, hF4⟩; simp only [])
    | (refine copy_step rfl (.tmp 4) (.tmp 6) 31 31 rfl 5 Tryz.underlying31 (by kernel_rfl) (w.heap.size + 1) 32 32 rfl v4 rfl _ hsl4 _ 23 (hF4.heap hcur (by omega)) (by simp [bvs]) hM ?_; intro w5 h5 hF5))
  rw [dig_eq] at h5
  have hM2 := dig_len s
  have h6 : w5.heap[w.heap.size]? = some (.cells (bvs (List.replicate 32 0)).toArray 23 (0, 0)) := hF5.heap (hF4.heap hcur2 (by omega)) (by omega)
  have hfin : ∀ w7, Fr (· = w.heap.size) w5 w7 → InAt w7 P (rdS (rTake 32) (List.replicate 32 0) s).2 ∧ Fr (· = P) w w7 := by
    intro w7 hF7
    have e2 : (rdS (rTake 32) (List.replicate 32 0) s).2 = (rdS (rTake 32) [] s).2 := rdS_snd _ _ _ _
    rw [e2]
    refine ⟨(hI4.keep hF5 fun k _ e => by rw [e]; omega).keep hF7 fun k _ e => by rw [e]; omega, ?_⟩
    refine (((hF0.mono fun _ _ h => h.elim).trans hF4).trans' hF5 fun x hx e => by omega).trans' hF7 fun x hx e => by omega
  clear hF0 hI hI4 hF4 hF5 hcur hcur2 hM
  go_wp2_with (first
    | (refine load23 rfl (.tmp 3) rfl (w.heap.size + 1) 0 rfl (bvs (rdS (rTake 32) (List.replicate 32 0) s).1) (by rw [bvs_length]; exact hM2) (cells_of h5) ?_)
    | (refine store23 rfl (.tmp 2) (.tmp 8) rfl w.heap.size rfl (bvs (rdS (rTake 32) (List.replicate 32 0) s).1) rfl (by rw [bvs_length]; exact hM2) (bvs_oneCell _) _ 23 h6 (by simp [bvs]) ?_; intro w7 h7 hF7))
  refine bodyPost_ret (res_cell1 rfl (agg23 _) (size23 _) w.heap.size rfl _ (by rw [bvs_length]; exact hM2) 23 h7) rfl ?_
  exact ⟨rfl, hfin _ hF7⟩
end Go.Proofs

/-! A10 -/
namespace Go.Proofs
open Go.RowKit Go.Wires
set_option maxHeartbeats 4000000
set_option maxRecDepth 100000
theorem Fr.step {w w1 w2 : World} {P : Nat} (h : Fr none' w w1) (k : Fr (· = P) w1 w2) (hP : w.heap.size ≤ P) : Fr none' w w2 := h.trans' k fun x hx e => by omega
theorem Fr.set {w w1 : World} {B o : Nat} {v : Value} (h : Fr none' w w1) (hB : w.heap.size ≤ B) : Fr none' w (w1.setCell ⟨B, o, none⟩ v) := Fr.step h (Fr.setAt _ _ _ _) hB
theorem Fr.new {w w1 : World} {o : Obj} (h : Fr none' w w1) : Fr none' w (w1.alloc o) := h.trans (Fr.alloc none' _ _)
theorem set_other {w : World} {b k i : Nat} {v : Value} {o : Obj} (h : w.heap[k]? = some o) (hk : k ≠ b) : (w.setCell ⟨b, i, none⟩ v).heap[k]? = some o := (heap_setCell_other w ⟨b, i, none⟩ k v hk).trans h
theorem new_other {w : World} {k : Nat} {x o : Obj} (h : w.heap[k]? = some o) : (w.alloc x).heap[k]? = some o := (heap_alloc_old w x (lt_of_heap h)).trans h
theorem set_other' {w w' : World} {b k i : Nat} {v : Value} {o : Obj} (hw : w' = w.setCell ⟨b, i, none⟩ v) (h : w.heap[k]? = some o) (hk : k ≠ b) : w'.heap[k]? = some o := by rw [hw]; exact set_other h hk
theorem Fr.set' {w w1 w2 : World} {B o : Nat} {v : Value} (hw : w2 = w1.setCell ⟨B, o, none⟩ v) (h : Fr none' w w1) (hB : w.heap.size ≤ B) : Fr none' w w2 := by rw [hw]; exact Fr.set h hB
theorem set6_5' {w w' : World} {B : Nat} {T : TypeId} {a b c d e f v : Value} (hw : w' = w.setCell ⟨B, 5, none⟩ v) (h : w.heap[B]? = some (.cells #[a, b, c, d, e, f] T (0, 0))) : w'.heap[B]? = some (.cells #[a, b, c, d, e, v] T (0, 0)) := by rw [hw]; simpa using heap_setCell_same w B 5 _ T v h
theorem rInt_i64 (s : St) : I64 (rdS rInt 0 s).1 := by
  cases s with
  | none => exact ⟨by simp [rdS], by simp [rdS]⟩
  | some L =>
    simp only [rdS]
    cases h : rInt L with
    | none => exact ⟨by simp, by simp⟩
    | some p => have := (rInt_r (l := L) (x := p.1) (r := p.2) h).2; exact ⟨by simp only; omega, by simp only; omega⟩
theorem rText_le (most : Nat) (s : St) : (rdS (rText most) [] s).1.length ≤ most := by
  cases s with
  | none => simp [rdS]
  | some L =>
    simp only [rdS]
    cases h : rText most L with
    | none => simp
    | some p => exact (rText_r (l := L) (s := p.1) (r := p.2) h).2
section
variable (w : World) (P : Nat) (s : St) (h : InAt w P s)
 include h
theorem num_x : Calls Tryz.prog 28 #[.pointer (some ⟨P, 0, none⟩)] w fun e w' => ∃ (x : Nat) (s' : St), rdS rNum 0 s = (x, s') ∧ x < 18446744073709551616 ∧ e = .returned (.int .u64 (x : Nat)) ∧ InAt w' P s' ∧ Fr (· = P) w w' :=
  (num_spec w P s h).mono fun _ _ k => ⟨_, _, rfl, rNum_lt s, k⟩
theorem int_x : Calls Tryz.prog 29 #[.pointer (some ⟨P, 0, none⟩)] w fun e w' => ∃ (x : Int) (s' : St), rdS rInt 0 s = (x, s') ∧ I64 x ∧ e = .returned (.int .i64 x) ∧ InAt w' P s' ∧ Fr (· = P) w w' :=
  (int_spec w P s h).mono fun _ _ k => ⟨_, _, rfl, rInt_i64 s, k⟩
theorem flag_x : Calls Tryz.prog 70 #[.pointer (some ⟨P, 0, none⟩)] w fun e w' => ∃ (x : Bool) (s' : St), rdS rFlag false s = (x, s') ∧ e = .returned (.bool x) ∧ InAt w' P s' ∧ Fr (· = P) w w' :=
  (flag_spec w P s h).mono fun _ _ k => ⟨_, _, rfl, k⟩
theorem digest_x : Calls Tryz.prog 30 #[.pointer (some ⟨P, 0, none⟩)] w fun e w' => ∃ (x : List UInt8) (s' : St), rdS (rTake 32) (List.replicate 32 0) s = (x, s') ∧ x.length = 32 ∧ e = .returned (.agg (bvs x).toArray) ∧ InAt w' P s' ∧ Fr (· = P) w w' :=
  (digest_spec w P s h).mono fun _ _ k => ⟨_, _, rfl, dig_len s, k⟩
theorem text_x (most : Nat) (hm : most < 2 ^ 62) : Calls Tryz.prog 32 #[.pointer (some ⟨P, 0, none⟩), .int .i64 (most : Nat)] w fun e w' => ∃ (x : List UInt8) (s' : St), rdS (rText most) [] s = (x, s') ∧ x.length ≤ most ∧ e = .returned (.string ⟨⟨x⟩⟩) ∧ InAt w' P s' ∧ Fr (· = P) w w' :=
  (text_spec w P s most hm h).mono fun _ _ k => ⟨_, _, rfl, rText_le most s, k⟩
end
section
variable {w : World} {B : Nat} {T : TypeId} {a b c d e f v : Value}
theorem set6_0 (h : w.heap[B]? = some (.cells #[a, b, c, d, e, f] T (0, 0))) : (w.setCell ⟨B, 0, none⟩ v).heap[B]? = some (.cells #[v, b, c, d, e, f] T (0, 0)) := by simpa using heap_setCell_same w B 0 _ T v h
theorem set6_1 (h : w.heap[B]? = some (.cells #[a, b, c, d, e, f] T (0, 0))) : (w.setCell ⟨B, 1, none⟩ v).heap[B]? = some (.cells #[a, v, c, d, e, f] T (0, 0)) := by simpa using heap_setCell_same w B 1 _ T v h
theorem set6_2 (h : w.heap[B]? = some (.cells #[a, b, c, d, e, f] T (0, 0))) : (w.setCell ⟨B, 2, none⟩ v).heap[B]? = some (.cells #[a, b, v, d, e, f] T (0, 0)) := by simpa using heap_setCell_same w B 2 _ T v h
theorem set6_3 (h : w.heap[B]? = some (.cells #[a, b, c, d, e, f] T (0, 0))) : (w.setCell ⟨B, 3, none⟩ v).heap[B]? = some (.cells #[a, b, c, v, e, f] T (0, 0)) := by simpa using heap_setCell_same w B 3 _ T v h
theorem set6_4 (h : w.heap[B]? = some (.cells #[a, b, c, d, e, f] T (0, 0))) : (w.setCell ⟨B, 4, none⟩ v).heap[B]? = some (.cells #[a, b, c, d, v, f] T (0, 0)) := by simpa using heap_setCell_same w B 4 _ T v h
theorem set6_5 (h : w.heap[B]? = some (.cells #[a, b, c, d, e, f] T (0, 0))) : (w.setCell ⟨B, 5, none⟩ v).heap[B]? = some (.cells #[a, b, c, d, e, v] T (0, 0)) := by simpa using heap_setCell_same w B 5 _ T v h
theorem set5_0 (h : w.heap[B]? = some (.cells #[a, b, c, d, e] T (0, 0))) : (w.setCell ⟨B, 0, none⟩ v).heap[B]? = some (.cells #[v, b, c, d, e] T (0, 0)) := by simpa using heap_setCell_same w B 0 _ T v h
theorem set5_1 (h : w.heap[B]? = some (.cells #[a, b, c, d, e] T (0, 0))) : (w.setCell ⟨B, 1, none⟩ v).heap[B]? = some (.cells #[a, v, c, d, e] T (0, 0)) := by simpa using heap_setCell_same w B 1 _ T v h
theorem set5_2 (h : w.heap[B]? = some (.cells #[a, b, c, d, e] T (0, 0))) : (w.setCell ⟨B, 2, none⟩ v).heap[B]? = some (.cells #[a, b, v, d, e] T (0, 0)) := by simpa using heap_setCell_same w B 2 _ T v h
theorem set5_3 (h : w.heap[B]? = some (.cells #[a, b, c, d, e] T (0, 0))) : (w.setCell ⟨B, 3, none⟩ v).heap[B]? = some (.cells #[a, b, c, v, e] T (0, 0)) := by simpa using heap_setCell_same w B 3 _ T v h
theorem set5_4 (h : w.heap[B]? = some (.cells #[a, b, c, d, e] T (0, 0))) : (w.setCell ⟨B, 4, none⟩ v).heap[B]? = some (.cells #[a, b, c, d, v] T (0, 0)) := by simpa using heap_setCell_same w B 4 _ T v h
end
/-- An operation out of bytes. -/
def decOp (s : St) : Opx × St :=
  let k := rdS rInt 0 s
  let p := rdS (rText 1100) [] k.2
  let t := rdS (rText 1100) [] p.2
  let d := rdS (rText 1100) [] t.2
  let a := rdS rInt 0 d.2
  let z := rdS rInt 0 a.2
  (⟨k.1, p.1, t.1, d.1, a.1, z.1⟩, z.2)
def zeroOp : Opx := ⟨0, [], [], [], 0, 0⟩
def codeIf (b : Bool) (c : Int) : Int := if b then 0 else c
def opOf (L : List UInt8) : Option Opx := if (decOp (some L)).2 = some [] then some (decOp (some L)).1 else none
theorem opDecode_spec (w : World) (v : Value) (L : List UInt8) (hv : Sl w v L) (hlen : L.length ≤ 70368744177000) : Calls Tryz.prog 69 #[v] w fun e w' =>
    e = .returned (.tuple #[((opOf L).getD zeroOp).val, .int .i64 (codeIf (opOf L).isSome 21)]) ∧ Fr none' w w' := by
  have hz : Fr none' w (w.alloc (.cells #[.int .i64 0, .string ⟨⟨[]⟩⟩, .string ⟨⟨[]⟩⟩, .string ⟨⟨[]⟩⟩, .int .i64 0, .int .i64 0] 49)) := Fr.alloc _ _ _
  have hv0 := hv.fr hz (fun _ _ h => h)
  have hR0 := heap_alloc_new w (.cells #[.int .i64 0, .string ⟨⟨[]⟩⟩, .string ⟨⟨[]⟩⟩, .string ⟨⟨[]⟩⟩, .int .i64 0, .int .i64 0] 49)
  have hsz : (w.alloc (.cells #[.int .i64 0, .string ⟨⟨[]⟩⟩, .string ⟨⟨[]⟩⟩, .string ⟨⟨[]⟩⟩, .int .i64 0, .int .i64 0] 49)).heap.size = w.heap.size + 1 := by simp
  go_enter Tryz.func69, Tryz.ntmps69
  go_wp2_with (first
    | (go_at_call 27; refine (read_spec _ _ _ hv0 hlen).mono ?_; rintro e w1 ⟨P, rfl, hP1, hI1, hF1⟩; rw [hsz] at hP1; have hR1 := hF1.heap hR0 (fun h => h); have hT1 := hz.trans hF1)
    | (go_at_call 29; refine (int_x _ _ _ hI1).mono ?_; rintro e w2 ⟨k, s1, hx1, hk, rfl, hI, hF2⟩; have hPl := hI.lt; have hR := hF2.heap hR1 (by omega); have hT := Fr.step hT1 hF2 (by omega))
    | (go_at_call 32; refine (text_x _ P _ (by first | exact hI.fr (Fr.alloc none' _ _) | exact hI.set hPl) 1100 (by omega)).mono ?_; rintro e w3 ⟨x, s', hx, hk, rfl, hI', hF⟩
       have hB := hF.heap (by first | exact heap_alloc_new _ _ | exact set6_1 hB | exact set6_2 hB | exact set6_3 hB) (by omega); have hR := hF.heap (by first | exact new_other hR | exact set_other hR (by omega)) (by omega)
       have hT := Fr.step (by first | exact Fr.new hT | exact Fr.set hT (by omega)) hF (by omega); have hI := hI'; obtain ⟨c0, c1, c2, c3, c4, c5⟩ := cells6 hB; have hfz := frozen_obj hB)
    | (go_at_call 29; refine (int_x _ P _ (by exact hI.set hPl)).mono ?_; rintro e w3 ⟨x, s', hx, hk, rfl, hI', hF⟩
       have hB := hF.heap (by first | exact set6_3 hB | exact set6_4 hB) (by omega); have hR := hF.heap (by exact set_other hR (by omega)) (by omega)
       have hT := Fr.step (Fr.set hT (by omega)) hF (by omega); have hI := hI'; obtain ⟨c0, c1, c2, c3, c4, c5⟩ := cells6 hB; have hfz := frozen_obj hB)
    | (go_at_call 34; refine (end_spec _ P _ (hI.set hPl)).mono ?_; rintro e w8 ⟨rfl, hw8⟩; have hR := set_other' hw8 hR (by omega); have hB := set6_5' hw8 hB; have hT := Fr.set' hw8 hT (by omega); clear hw8; obtain ⟨c0, c1, c2, c3, c4, c5⟩ := cells6 hB)
    | (refine store49 rfl (.tmp 2) (.tmp 29) rfl w.heap.size rfl [.int .i64 0, .string ⟨⟨[]⟩⟩, .string ⟨⟨[]⟩⟩, .string ⟨⟨[]⟩⟩, .int .i64 0, .int .i64 0] rfl rfl (by simp [Value.oneCell']) _ 49 hR rfl ?_; intro w9 h9 hF9)
    | (refine load49 rfl (.tmp 5) rfl w2.heap.size 0 rfl _ rfl (cells_of hB) ?_)
    | (refine store49 rfl (.tmp 2) (.tmp 30) rfl w.heap.size rfl _ rfl rfl (by simp [Value.oneCell']) _ 49 hR rfl ?_; intro w9 h9 hF9))
  · refine bodyPost_ret (res_cell_tmp rfl (agg49 _) (size49 _) w.heap.size rfl _ rfl 49 h9) rfl ?_
    refine ⟨?_, Fr.step hT hF9 (Nat.le_refl _)⟩
    have e1 : opOf L = none := by simp_all [opOf, decOp]
    rw [e1]; rfl
  · refine bodyPost_ret (res_cell_tmp rfl (agg49 _) (size49 _) w.heap.size rfl _ rfl 49 h9) rfl ?_
    refine ⟨?_, Fr.step hT hF9 (Nat.le_refl _)⟩
    have hs : s' = some [] := by simpa using ‹(!decide (s' = some [])) = false›
    subst hs
    simp only [opOf, decOp, *]
    rfl
end Go.Proofs

/-! A11 -/
namespace Go.Proofs
open Go.RowKit Go.Wires
set_option maxHeartbeats 4000000
set_option maxRecDepth 100000
/-- A writer, whatever lay behind: it holds L; what was there at w0 is as it was. -/
def Wz (w0 w : World) (P : Nat) (L : List UInt8) (K : Nat) : Prop := (∃ D, OutAt w P L D) ∧ L.length ≤ K ∧ Fr none' w0 w ∧ w0.heap.size ≤ P
theorem OutAt.fr {w w' : World} {P : Nat} {L : List UInt8} {D : Option Nat} (h : OutAt w P L D) (hf : Fr none' w w') : OutAt w' P L D := by
  obtain ⟨sv, T, hP, ho, hD⟩ := h
  exact ⟨sv, T, hf.heap hP (fun h => h), own_fr ho hf (fun _ _ h => h), hD⟩
theorem Wz.base {w0 w w' : World} {P : Nat} {L : List UInt8} {K : Nat} (h : Wz w0 w P L K) (hf : Fr none' w w') :
    ∃ D1, Wr w' w' P D1 L K ∧ Fr none' w0 w' ∧ (∀ d, D1 = some d → P < d ∧ d < w.heap.size) := by
  obtain ⟨⟨D, hA⟩, hl, hF, hP⟩ := h
  exact ⟨D, ⟨OutTo.refl (OutAt.fr hA hf), hl⟩, hF.trans hf, fun d hd => hA.D_gt hd⟩
theorem Wz.of {w0 W w : World} {P : Nat} {L : List UInt8} {K : Nat} {D1 : Option Nat} (hF : Fr none' w0 W) (hP : w0.heap.size ≤ P) (hD : ∀ d, D1 = some d → P < d) (h : Wr W w P D1 L K) : Wz w0 w P L K := by
  have hfr := h.fr
  obtain ⟨⟨D, hA, _, _⟩, hl⟩ := h
  refine ⟨⟨D, hA⟩, hl, hF.trans' hfr fun x hx hS => ?_, hP⟩
  rcases hS with hS | hS
  · omega
  · have := hD x hS.symm; omega
theorem Wz.mono {w0 w : World} {P : Nat} {L : List UInt8} {K K' : Nat} (h : Wz w0 w P L K) (hk : K ≤ K') : Wz w0 w P L K' := ⟨h.1, Nat.le_trans h.2.1 hk, h.2.2⟩
structure Entx where
  client : Int
  number : Int
  op : Opx
def Opx.cells (o : Opx) : List Value := [.int .i64 o.kind, .string ⟨⟨o.path⟩⟩, .string ⟨⟨o.to⟩⟩, .string ⟨⟨o.data⟩⟩, .int .i64 o.at_, .int .i64 o.size]
def Entx.cells (e : Entx) : List Value := .int .i64 e.client :: .int .i64 e.number :: e.op.cells
structure Entx.wf (e : Entx) : Prop where
  client : I64 e.client
  number : I64 e.number
  op : e.op.wf
def Entx.bytes (e : Entx) : List UInt8 := wInt e.client ++ wInt e.number ++ wText e.op.bytes
def entCells (l : List Entx) : List Value := l.flatMap Entx.cells
theorem entCells_get (l : List Entx) (i : Nat) (h : i < l.length) (j : Nat) (hj : j < 8) : (entCells l)[8 * i + j]? = (l[i].cells)[j]? := by
  induction l generalizing i with
  | nil => simp at h
  | cons e l ih =>
    have he : e.cells.length = 8 := rfl
    simp only [entCells, List.flatMap_cons] at ih ⊢
    cases i with
    | zero =>
      rw [List.getElem?_append_left (by rw [he]; omega)]; simp
    | succ i =>
      rw [List.getElem?_append_right (by rw [he]; omega), he, show 8 * (i + 1) + j - 8 = 8 * i + j by omega]
      simpa using ih i (by simpa using h)
structure Msgx where
  kind : Int
  src : Int
  dst : Int
  view : Int
  normal : Int
  last : Int
  commit : Int
  behind : Int
  root : List UInt8
  entries : List Entx
  data : List UInt8
  res : Resx
def Msgx.nums (m : Msgx) : List Int := [m.src, m.dst, m.view, m.normal, m.last, m.commit, m.behind]
def Msgx.cells (m : Msgx) (ev nv : Value) : List Value :=
  [.int .i64 m.kind, .int .i64 m.src, .int .i64 m.dst, .int .i64 m.view, .int .i64 m.normal, .int .i64 m.last, .int .i64 m.commit, .int .i64 m.behind] ++ (bvs m.root ++
  [ev, .string ⟨⟨m.data⟩⟩, .int .i64 m.res.code, .bool m.res.dir, .int .i64 m.res.size, .string ⟨⟨m.res.data⟩⟩, nv])
structure Msgx.wf (m : Msgx) : Prop where
  kind : I64 m.kind
  nums : ∀ x ∈ m.nums, I64 x
  root : m.root.length = 32
  entries : ∀ e ∈ m.entries, e.wf
  len : m.entries.length ≤ 1000
  data : m.data.length ≤ 9223372036854775807
  res : m.res.wf
def Msgx.ok (m : Msgx) : Bool := m.res.ok && decide (1 ≤ m.kind ∧ m.kind ≤ 13 ∧ m.entries.length ≤ 32 ∧ m.data.length ≤ 4096) && m.entries.all (·.op.ok)
def Msgx.bytes (m : Msgx) : List UInt8 := numW m.kind.toNat ++ m.nums.flatMap wInt ++ m.root ++ numW m.entries.length ++ m.entries.flatMap Entx.bytes ++ wText m.data ++ wText m.res.bytes
theorem msg_get (m : Msgx) (ev nv : Value) (h : m.root.length = 32) : (m.cells ev nv).length = 47 ∧ (∀ j u, (bvs m.root)[j]? = some u → (m.cells ev nv)[8 + j]? = some u) ∧
    ∀ j, j < 7 → (m.cells ev nv)[40 + j]? = ([ev, .string ⟨⟨m.data⟩⟩, .int .i64 m.res.code, .bool m.res.dir, .int .i64 m.res.size, .string ⟨⟨m.res.data⟩⟩, nv] : List Value)[j]? := by
  have hb : (bvs m.root).length = 32 := by rw [bvs_length]; exact h
  refine ⟨by simp [Msgx.cells, hb], fun j u hu => ?_, fun j hj => ?_⟩
  · unfold Msgx.cells
    rw [List.getElem?_append_right (by simp), show 8 + j - [Value.int .i64 m.kind, .int .i64 m.src, .int .i64 m.dst, .int .i64 m.view, .int .i64 m.normal, .int .i64 m.last, .int .i64 m.commit, .int .i64 m.behind].length = j by simp,
      List.getElem?_append_left (List.getElem?_eq_some_iff.1 hu).1]
    exact hu
  · unfold Msgx.cells
    rw [List.getElem?_append_right (by simp; omega), List.getElem?_append_right (by simp [hb]; omega)]
    congr 1
    simp [hb]; omega
theorem bytes_op_len {o : Opx} (hw : o.wf) (h : o.ok = true) : o.bytes.length ≤ 3400 := by
  simp only [Opx.ok, decide_eq_true_eq] at h
  have h1 := wInt_le hw.kind; have h2 := wInt_le hw.at_; have h3 := wInt_le hw.size
  have h4 := numW_le (m := o.path.length) (by omega); have h5 := numW_le (m := o.to.length) (by omega); have h6 := numW_le (m := o.data.length) (by omega)
  simp only [Opx.bytes, wText, List.length_append]; omega
theorem flatMap_len {α : Type} (f : α → List UInt8) (b : Nat) : ∀ (l : List α), (∀ x ∈ l, (f x).length ≤ b) → (l.flatMap f).length ≤ b * l.length
  | [], _ => by simp
  | a :: l, h => by
    have := flatMap_len f b l (fun x hx => h x (by simp [hx]))
    have h1 := h a (by simp)
    simp only [List.flatMap_cons, List.length_append, List.length_cons, Nat.mul_add]; omega
theorem bytes_res_len {r : Resx} (hw : r.wf) (h : r.ok = true) : r.bytes.length ≤ 600000 := by
  simp only [Resx.ok, decide_eq_true_eq] at h
  have h1 := wInt_le hw.code; have h2 := wInt_le hw.size
  have h3 : (wFlag r.dir).length ≤ 10 := numW_le (by cases r.dir <;> decide)
  have h4 := numW_le (m := r.data.length) (by omega); have h5 := numW_le (m := r.names.length) (by omega)
  have h6 := flatMap_len wText 1110 r.names (fun S hS => by have := h.2.1 S hS; have := numW_le (m := S.length) (by omega); simp only [wText, List.length_append]; omega)
  have h7 : 1110 * r.names.length ≤ 1110 * 512 := Nat.mul_le_mul_left _ h.2.2
  have h8 : (wText r.data).length ≤ 1110 := by simp only [wText, List.length_append]; omega
  simp only [Resx.bytes, List.length_append]; omega
end Go.Proofs

/-! A12 -/
namespace Go.Proofs
open Go.RowKit Go.Wires
set_option maxHeartbeats 8000000
set_option maxRecDepth 100000
theorem msg_facts {m : Msgx} {ev nv : Value} {w : World} {B : Nat} {T : TypeId} (h : m.root.length = 32) (hB : w.heap[B]? = some (.cells (m.cells ev nv).toArray T (0, 0))) :
    w.cell? ⟨B, 0, none⟩ = some (.int .i64 m.kind) ∧ w.cell? ⟨B, 1, none⟩ = some (.int .i64 m.src) ∧ w.cell? ⟨B, 2, none⟩ = some (.int .i64 m.dst) ∧ w.cell? ⟨B, 3, none⟩ = some (.int .i64 m.view) ∧
    w.cell? ⟨B, 4, none⟩ = some (.int .i64 m.normal) ∧ w.cell? ⟨B, 5, none⟩ = some (.int .i64 m.last) ∧ w.cell? ⟨B, 6, none⟩ = some (.int .i64 m.commit) ∧ w.cell? ⟨B, 7, none⟩ = some (.int .i64 m.behind) ∧
    (∀ j u, (bvs m.root)[j]? = some u → w.cell? ⟨B, 8 + j, none⟩ = some u) ∧
    w.cell? ⟨B, 40, none⟩ = some ev ∧ w.cell? ⟨B, 41, none⟩ = some (.string ⟨⟨m.data⟩⟩) ∧ w.cell? ⟨B, 42, none⟩ = some (.int .i64 m.res.code) ∧ w.cell? ⟨B, 43, none⟩ = some (.bool m.res.dir) ∧
    w.cell? ⟨B, 44, none⟩ = some (.int .i64 m.res.size) ∧ w.cell? ⟨B, 45, none⟩ = some (.string ⟨⟨m.res.data⟩⟩) ∧ w.cell? ⟨B, 46, none⟩ = some nv := by
  obtain ⟨h1, h2, h3⟩ := msg_get m ev nv h
  have g : ∀ i, w.cell? ⟨B, i, none⟩ = (m.cells ev nv)[i]? := fun i => by rw [cell_obj hB i]; simp
  refine ⟨(g 0).trans rfl, (g 1).trans rfl, (g 2).trans rfl, (g 3).trans rfl, (g 4).trans rfl, (g 5).trans rfl, (g 6).trans rfl, (g 7).trans rfl, fun j u hu => (g _).trans (h2 j u hu),
    (g 40).trans (h3 0 (by omega)), (g 41).trans (h3 1 (by omega)), (g 42).trans (h3 2 (by omega)), (g 43).trans (h3 3 (by omega)), (g 44).trans (h3 4 (by omega)), (g 45).trans (h3 5 (by omega)), (g 46).trans (h3 6 (by omega))⟩
theorem num_wrap {W w : World} {P : Nat} {D0 : Option Nat} {L : List UInt8} {K : Nat} (h : Wr W w P D0 L K) (x : Int) (h0 : 0 ≤ x) (h1 : x < 9223372036854775808) (hK : K ≤ 70368744100000) :
    Calls Tryz.prog 15 #[.pointer (some ⟨P, 0, none⟩), .int .u64 x] w fun e w' => e = .returned (.tuple #[]) ∧ Wr W w' P D0 (L ++ numW x.toNat) (K + 10) := by
  have := h.num x.toNat (by omega) hK
  rwa [show ((x.toNat : Nat) : Int) = x by omega] at this
theorem ok_parts {m : Msgx} (h : m.ok = true) : m.res.ok = true ∧ 1 ≤ m.kind ∧ m.kind ≤ 13 ∧ m.entries.length ≤ 32 ∧ m.data.length ≤ 4096 ∧ ∀ e ∈ m.entries, e.op.ok = true := by
  simp only [Msgx.ok, Bool.and_eq_true, decide_eq_true_eq, List.all_eq_true] at h
  obtain ⟨⟨h1, h2⟩, h3⟩ := h
  exact ⟨h1, h2.1, h2.2.1, h2.2.2.1, h2.2.2.2, h3⟩
theorem nums_cell (m : Msgx) (i : Nat) (h : i < m.nums.length) : (#[.int .i64 m.src, .int .i64 m.dst, .int .i64 m.view, .int .i64 m.normal, .int .i64 m.last, .int .i64 m.commit, .int .i64 m.behind] : Array Value)[i]? = some (.int .i64 m.nums[i]) := by
  match i, h with
  | 0, _ | 1, _ | 2, _ | 3, _ | 4, _ | 5, _ | 6, _ => rfl
  | i + 7, h => simp [Msgx.nums] at h; omega
theorem opEncode_c (w : World) (o : Opx) (hw : o.wf) : Calls Tryz.prog 18 #[.agg o.cells.toArray] w fun e w' =>
    ∃ v, e = .returned (.tuple #[v, .int .i64 (if o.ok then 0 else 2)]) ∧ w'.ownsRow w.heap.size 5 1 v (if o.ok then o.bytes else []).length (bvs (if o.ok then o.bytes else [])) ∧ Fr none' w w' := opEncode_spec w o hw
theorem repEncode_spec (w : World) (m : Msgx) (ev nv : Value) (hw : m.wf) (hE : Row w ev m.entries.length (entCells m.entries)) (hN : Row w nv m.res.names.length (strs m.res.names))
    (hbN : ∀ b, nv.ownBlock = some b → b < w.heap.size) : Calls Tryz.prog 5 #[.agg (m.cells ev nv).toArray] w fun e w' =>
    ∃ v c, e = .returned (.tuple #[v, .int .i64 c]) ∧ (m.ok = true → c = 0 ∧ w'.ownsRow w.heap.size 5 1 v m.bytes.length (bvs m.bytes)) ∧ (m.ok = false → c = 1 ∧ v = .slice none 0 0) ∧ Fr none' w w' := by
  obtain ⟨ao, cap, rfl, hcap⟩ := hE.shape
  have hB0 := heap_alloc_new w (.cells (m.cells (.slice ao m.entries.length cap) nv).toArray 30)
  have hF0 : Fr none' w (w.alloc (.cells (m.cells (.slice ao m.entries.length cap) nv).toArray 30)) := Fr.alloc _ _ _
  have hN0 := hN.fr hF0 (fun _ _ _ h => h)
  have hbN0 : ∀ b, nv.ownBlock = some b → b < (w.alloc (.cells (m.cells (.slice ao m.entries.length cap) nv).toArray 30)).heap.size := fun b hb => by have := hbN b hb; simp; omega
  obtain ⟨c0, c1, c2, c3, c4, c5, c6, c7, cR, c40, c41, c42, c43, c44, c45, c46⟩ := msg_facts hw.root hB0
  go_enter Tryz.func5, Tryz.ntmps5
  go_wp2_with (first
    | (go_at_call 14; refine (pack_spec _ m.res nv hw.res hN0 hbN0).mono ?_; rintro e w1 ⟨pv, pc, rfl, hpc, hpown, hF1⟩; have hB := hF1.heap hB0 (fun h => h); have hT := hF0.trans hF1; obtain ⟨c0, c1, c2, c3, c4, c5, c6, c7, cR, c40, c41, c42, c43, c44, c45, c46⟩ := msg_facts hw.root hB
       have hlt := lt_of_heap hB; have hB := new_other (x := .cells #[.slice none 0 0] 74) hB; obtain ⟨c0, c1, c2, c3, c4, c5, c6, c7, cR, c40, c41, c42, c43, c44, c45, c46⟩ := msg_facts hw.root hB; have hW := Wr.start (heap_alloc_new w1 (.cells #[.slice none 0 0] 74)))
    | (go_at_call 15; refine (num_wrap hW m.kind (by omega) (by omega) (by omega)).mono ?_; rintro e w2 ⟨rfl, hW⟩; have hBb := hB; have hB := hW.heap hB (by omega) (by simp); obtain ⟨c0, c1, c2, c3, c4, c5, c6, c7, cR, c40, c41, c42, c43, c44, c45, c46⟩ := msg_facts hw.root hB))
  · go_returns
    refine ⟨_, _, rfl, fun hok => ?_, fun _ => ⟨rfl, rfl⟩, hT⟩
    exfalso
    obtain ⟨h1, h2, h3, h4, h5, h6⟩ := ok_parts hok
    have hp := hpc.2 h1
    first | omega | (simp_all; done) | (simp_all; omega)
  · have hres : m.res.ok = true := by assumption
    have hk1 : 1 ≤ m.kind := by assumption
    have hk2 : m.kind ≤ 13 := by assumption
    have hlen : m.entries.length ≤ 32 := by omega
    have hdata : m.data.length ≤ 4096 := by omega
    have hFW : Fr none' w (w1.alloc (.cells #[.slice none 0 0] 74)) := hT.trans (Fr.alloc _ _ _)
    have hsz : w.heap.size ≤ w1.heap.size := hT.size
    have hz := Wz.of hFW (P := w1.heap.size) hsz (by intro d hd; cases hd) hW
    obtain ⟨D1, hW1, hT1, hD1⟩ := hz.base (Fr.alloc none' w2 (.cells #[.int .i64 m.src, .int .i64 m.dst, .int .i64 m.view, .int .i64 m.normal, .int .i64 m.last, .int .i64 m.commit, .int .i64 m.behind] 2))
    have hS := heap_alloc_new w2 (.cells #[.int .i64 m.src, .int .i64 m.dst, .int .i64 m.view, .int .i64 m.normal, .int .i64 m.last, .int .i64 m.commit, .int .i64 m.behind] 2)
    have hBs := new_other (x := .cells #[.int .i64 m.src, .int .i64 m.dst, .int .i64 m.view, .int .i64 m.normal, .int .i64 m.last, .int .i64 m.commit, .int .i64 m.behind] 2) hB
    have hPlt : w1.heap.size < w2.heap.size := by obtain ⟨⟨D, hA⟩, _⟩ := hz; exact hA.lt
    have hDS : some w2.heap.size ≠ D1 := fun e => by have := hD1 _ e.symm; omega
    have hDB : some w.heap.size ≠ D1 := fun e => by have := hD1 _ e.symm; omega
    have hn7 : m.nums.length = 7 := rfl
    have hpo := hpown hres
    have hpk : ∀ k, pv.ownBlock = some k → k < w1.heap.size := fun k hk => (hpo.lt k hk).2
    have hSp1 : Sl w2 pv m.res.bytes := ((Sl.of_own hpo).fr (Fr.alloc none' _ _) (fun _ _ h => h)).fr hW.fr (fun k hk hS => by rcases hS with hS | hS; exact absurd (hpk k hk) (by omega); cases hS)
    have hSp2 : Sl (w2.alloc (.cells #[.int .i64 m.src, .int .i64 m.dst, .int .i64 m.view, .int .i64 m.normal, .int .i64 m.last, .int .i64 m.commit, .int .i64 m.behind] 2)) pv m.res.bytes := hSp1.fr (Fr.alloc none' _ _) (fun _ _ h => h)
    clear hW hB0 hF0 hN0 hbN0
    go_loopw [63] (fun u w3 => ∃ (i : Nat), i ≤ 7 ∧ u = .int .i64 (i : Nat) ∧ Wr (w2.alloc (.cells #[.int .i64 m.src, .int .i64 m.dst, .int .i64 m.view, .int .i64 m.normal, .int .i64 m.last, .int .i64 m.commit, .int .i64 m.behind] 2)) w3 w1.heap.size D1 (numW m.kind.toNat ++ (m.nums.take i).flatMap wInt) (10 + 10 * i)) (fun i _ => 7 - (intOf i).toNat)
    case atStart => exact ⟨0, by omega, rfl, by rw [List.take_zero, List.flatMap_nil, List.append_nil]; exact hW1⟩
    case round =>
      obtain ⟨i, hi, rfl, hV⟩ := hrel
      have hS3 := hV.heap hS (by omega) hDS
      have hB3 := hV.heap hBs (by omega) hDB
      by_cases hi7 : i < 7
      · have hcell := (cell_obj hS3 i).trans (nums_cell m i (by omega))
        have hx := hw.nums _ (List.getElem_mem (l := m.nums) (n := i) (by omega))
        have htk : m.nums.take (i + 1) = m.nums.take i ++ [m.nums[i]] := by rw [List.take_add_one, List.getElem?_eq_getElem (by omega)]; rfl
        clear hS3 hB3
        go_wp2_with (go_at_call 16; refine (hV.int _ hx (by omega)).mono ?_; rintro e w4 ⟨rfl, hV4⟩)
        refine ⟨⟨i + 1, by omega, by simp, ?_⟩, ?_⟩
        · rw [htk, List.flatMap_append, ← List.append_assoc, List.flatMap_cons, List.flatMap_nil, List.append_nil]; exact hV4.mono (K' := 10 + 10 * (i + 1)) (by omega)
        · simp [intOf]; omega
      · obtain rfl : i = 7 := by omega
        obtain ⟨c0, c1, c2, c3, c4, c5, c6, c7, cR, c40, c41, c42, c43, c44, c45, c46⟩ := msg_facts hw.root hB3
        rw [List.take_of_length_le (by omega)] at hV
        have hBk := hB3
        clear hS3
        go_wp2_with (first
          | (refine load23 rfl (.tmp 70) rfl w.heap.size 8 rfl (bvs m.root) (by rw [bvs_length]; exact hw.root) cR ?_)
          | (go_at_call 17; refine (hV.digest m.root hw.root (by omega)).mono ?_; rintro e w4 ⟨rfl, hV⟩; have hB3 := hV.heap hBs (by omega) hDB; obtain ⟨c0, c1, c2, c3, c4, c5, c6, c7, cR, c40, c41, c42, c43, c44, c45, c46⟩ := msg_facts hw.root hB3)
          | (go_at_call 15; refine (hV.num _ (by omega) (by omega)).mono ?_; rintro e w4 ⟨rfl, hV⟩; have hB3 := hV.heap hBs (by omega) hDB; obtain ⟨c0, c1, c2, c3, c4, c5, c6, c7, cR, c40, c41, c42, c43, c44, c45, c46⟩ := msg_facts hw.root hB3))
        have hz2 := Wz.of (hT1) (P := w1.heap.size) hsz (fun d hd => (hD1 d hd).1) hV
        have hSp := hSp2.fr hV.fr (fun k hk hS => by have := hpk k hk; rcases hS with hS | hS; omega; have := hD1 k hS.symm; omega)
        clear hV hW1 hD1 hDS hDB hS hBs
        go_loopw [81] (fun u w5 => ∃ (i : Nat), i ≤ m.entries.length ∧ u = .int .i64 (i : Nat) ∧ Wz w w5 w1.heap.size (numW m.kind.toNat ++ m.nums.flatMap wInt ++ m.root ++ numW m.entries.length ++ (m.entries.take i).flatMap Entx.bytes) (1000 + 4000 * i) ∧
          w5.heap[w.heap.size]? = some (.cells (m.cells (.slice ao m.entries.length cap) nv).toArray 30 (0, 0)) ∧ (∀ e ∈ m.entries.take i, e.op.ok = true) ∧ Sl w5 pv m.res.bytes) (fun i _ => m.entries.length - (intOf i).toNat)
        case atStart => exact ⟨0, by omega, rfl, by rw [List.take_zero, List.flatMap_nil, List.append_nil]; exact hz2.mono (by omega), hB3, by simp, hSp⟩
        case round =>
          obtain ⟨i, hi, rfl, hy, hB5, hoks, hSp⟩ := hrel
          by_cases hin : i < m.entries.length
          · obtain ⟨en, hen⟩ : ∃ en, m.entries[i]? = some en := ⟨m.entries[i], by simp [hin]⟩
            have hmem : en ∈ m.entries := List.mem_of_getElem? hen
            have hew := hw.entries en hmem
            have htk : m.entries.take (i + 1) = m.entries.take i ++ [en] := by rw [List.take_add_one, hen]; rfl
            obtain ⟨b, off, rfl, hcells⟩ := (hE.fr hy.2.2.1 (fun _ _ _ h => h)).at (by omega)
            have hec : ∀ j u, en.cells[j]? = some u → wr.cell? ⟨b, (off + i * 8) + j, none⟩ = some u := fun j u hu => by
              have hj : j < 8 := (List.getElem?_eq_some_iff.1 hu).1
              rw [Nat.add_assoc, Nat.mul_comm]
              refine hcells _ u ?_
              rw [entCells_get m.entries i hin j hj, ← hu]
              congr 2
              exact (List.getElem?_eq_some_iff.1 hen).2
            clear hcells
            have hPr : w1.heap.size < wr.heap.size := by obtain ⟨⟨D, hA⟩, _⟩ := hy; exact hA.lt
            by_cases hok : en.op.ok = true
            · have hlenop := bytes_op_len hew.op hok
              have hcE := fun w => opEncode_c w en.op hew.op
              simp only [hok, if_true] at hcE
              go_wp2_with (first
                | (refine load51 rfl (.tmp 83) rfl b (off + i * 8) rfl en.cells rfl hec ?_)
                | (refine store51 rfl (.tmp 10) (.tmp 84) rfl wr.heap.size rfl en.cells rfl rfl (by simp [Entx.cells, Opx.cells, Value.oneCell']) _ 51 (heap_alloc_new wr _) rfl ?_; intro w5 h5 hF5
                   have h5' : w5.heap[wr.heap.size]? = some (.cells #[.int .i64 en.client, .int .i64 en.number, .int .i64 en.op.kind, .string ⟨⟨en.op.path⟩⟩, .string ⟨⟨en.op.to⟩⟩, .string ⟨⟨en.op.data⟩⟩, .int .i64 en.op.at_, .int .i64 en.op.size] 51 (0, 0)) := h5)
                | (refine load49 rfl (.tmp 86) rfl wr.heap.size 2 rfl en.op.cells rfl (fun j u hu => by rw [cell_obj h5, Nat.add_comm]; simpa [Entx.cells] using hu) ?_)
                | (go_at_call 18; refine (hcE _).mono ?_; rintro e w6 ⟨v, rfl, hown, hF6⟩
                   have hFr6 : Fr none' wr w6 := ((Fr.alloc none' wr _).trans' hF5 (fun x hx e => by omega)).trans hF6
                   obtain ⟨D2, hV2, hT2, hD2⟩ := hy.base hFr6
                   have hX := hF6.heap h5' (fun h => h)
                   have hX0 := cell_obj hX 0; have hX1 := cell_obj hX 1
                   simp only [List.getElem?_toArray, List.getElem?_cons_zero, List.getElem?_cons_succ] at hX0 hX1
                   have hBn := hFr6.heap hB5 (fun h => h))
                | (go_at_call 16; refine (hV2.int _ (by first | exact hew.client | exact hew.number) (by omega)).mono ?_; rintro e w7 ⟨rfl, hV2⟩
                   have hX7 := hV2.heap hX (by omega) (fun e => by have := hD2 _ e.symm; omega)
                   have hX0 := cell_obj hX7 0; have hX1 := cell_obj hX7 1
                   simp only [List.getElem?_toArray, List.getElem?_cons_zero, List.getElem?_cons_succ] at hX0 hX1
                   have hconv := conv9 ((Sl.of_own hown).fr hV2.fr (fun k hk hS => by have := (hown.lt k hk).1; have := hF5.size; simp at this; rcases hS with hS | hS; omega; have := hD2 k hS.symm; omega)))
                | (go_at_call 19; refine (hV2.text _ 3400 hlenop (by omega)).mono ?_; rintro e w7 ⟨rfl, hV2⟩))
              refine ⟨⟨i + 1, by omega, by simp, ?_, hV2.heap hBn (by omega) (fun e => by have := hD2 _ e.symm; omega), ?_, ?_⟩, ?_⟩
              · have h9 := (Wz.of hT2 (P := w1.heap.size) hsz (fun d hd => (hD2 d hd).1) hV2).mono (K' := 1000 + 4000 * (i + 1)) (by omega)
                rw [htk, List.flatMap_append, List.flatMap_cons, List.flatMap_nil, List.append_nil]
                simpa only [Entx.bytes, List.append_assoc] using h9
              · rw [htk]
                intro e he
                rcases List.mem_append.1 he with he | he
                · exact hoks e he
                · rw [List.mem_singleton.1 he]; exact hok
              · exact (hSp.fr hFr6 (fun _ _ h => h)).fr hV2.fr (fun k hk hS => by have := hpk k hk; rcases hS with hS | hS; omega; have := hD2 k hS.symm; omega)
              · simp [intOf]; omega
            · have hok' : en.op.ok = false := by simpa using hok
              have hcE := fun w => opEncode_c w en.op hew.op
              simp only [hok', Bool.false_eq_true, if_false] at hcE
              go_wp2_with (first
                | (refine load51 rfl (.tmp 83) rfl b (off + i * 8) rfl en.cells rfl hec ?_)
                | (refine store51 rfl (.tmp 10) (.tmp 84) rfl wr.heap.size rfl en.cells rfl rfl (by simp [Entx.cells, Opx.cells, Value.oneCell']) _ 51 (heap_alloc_new wr _) rfl ?_; intro w5 h5 hF5)
                | (refine load49 rfl (.tmp 86) rfl wr.heap.size 2 rfl en.op.cells rfl (fun j u hu => by rw [cell_obj h5, Nat.add_comm]; simpa [Entx.cells] using hu) ?_)
                | (go_at_call 18; refine (hcE _).mono ?_; rintro e w6 ⟨v, rfl, hown, hF6⟩
                   have hFr6 : Fr none' wr w6 := ((Fr.alloc none' wr _).trans' hF5 (fun x hx e => by omega)).trans hF6))
              go_returns
              exact ⟨_, _, rfl, fun h => absurd ((ok_parts h).2.2.2.2.2 en hmem) (by simp [hok']), fun _ => ⟨rfl, rfl⟩, hy.2.2.1.trans hFr6⟩
          · obtain rfl : i = m.entries.length := by omega
            rw [List.take_length] at hy hoks
            have hmok : m.ok = true := by
              simp only [Msgx.ok, Bool.and_eq_true, decide_eq_true_eq, List.all_eq_true]
              exact ⟨⟨hres, hk1, hk2, hlen, hdata⟩, hoks⟩
            have hPr : w1.heap.size < wr.heap.size := by obtain ⟨⟨D, hA⟩, _⟩ := hy; exact hA.lt
            obtain ⟨D2, hV2, hT2, hD2⟩ := hy.base (Fr.refl none' wr)
            obtain ⟨c0, c1, c2, c3, c4, c5, c6, c7, cR, c40, c41, c42, c43, c44, c45, c46⟩ := msg_facts hw.root hB5
            have hrl := bytes_res_len hw.res hres
            go_wp2_with (first
              | (go_at_call 19; have hcc := hconv2; clear hcc; refine (hV2.text _ 600000 hrl (by omega)).mono ?_; rintro e w7 ⟨rfl, hV2⟩)
              | (go_at_call 19; refine (hV2.text _ 4096 hdata (by omega)).mono ?_; rintro e w7 ⟨rfl, hV2⟩
                 have hconv2 := conv9 (hSp.fr hV2.fr (fun k hk hS => by have := hpk k hk; rcases hS with hS | hS; omega; have := hD2 k hS.symm; omega)))
              | (go_at_call 20; refine (hV2.bytes (by omega)).mono ?_; rintro e w8 ⟨v, rfl, hown, hF8⟩))
            go_returns
            have h9 := Wz.of hT2 (P := w1.heap.size) hsz (fun d hd => (hD2 d hd).1) hV2
            refine ⟨v, 0, rfl, fun _ => ⟨rfl, ?_⟩, (fun h => by rw [hmok] at h; cases h), h9.2.2.1.trans hF8⟩
            have := own_base hown h9.2.2.1.size
            simpa only [Msgx.bytes, List.append_assoc] using this
  · go_returns
    refine ⟨_, _, rfl, fun hok => ?_, fun _ => ⟨rfl, rfl⟩, hT⟩
    exfalso
    obtain ⟨h1, h2, h3, h4, h5, h6⟩ := ok_parts hok
    have hp := hpc.2 h1
    first | omega | (simp_all; done) | (simp_all; omega)
  · go_returns
    refine ⟨_, _, rfl, fun hok => ?_, fun _ => ⟨rfl, rfl⟩, hT⟩
    exfalso
    obtain ⟨h1, h2, h3, h4, h5, h6⟩ := ok_parts hok
    have hp := hpc.2 h1
    first | omega | (simp_all; done) | (simp_all; omega)
  · go_returns
    refine ⟨_, _, rfl, fun hok => ?_, fun _ => ⟨rfl, rfl⟩, hT⟩
    exfalso
    obtain ⟨h1, h2, h3, h4, h5, h6⟩ := ok_parts hok
    have hp := hpc.2 h1
    first | omega | (simp_all; done) | (simp_all; omega)
  · go_returns
    refine ⟨_, _, rfl, fun hok => ?_, fun _ => ⟨rfl, rfl⟩, hT⟩
    exfalso
    obtain ⟨h1, h2, h3, h4, h5, h6⟩ := ok_parts hok
    have hp := hpc.2 h1
    first | omega | (simp_all; done) | (simp_all; omega)
end Go.Proofs
